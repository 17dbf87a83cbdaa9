/- Contract: GridTurn of the reference. -/
import Derived.Test.YtjpcbegndnbeeaaOutM
import Derived.Test.YtjpcbegndnbeeaaGVal
import Derived.Test.YtjpcbegndnbeeaaPlainGS
namespace Go.Proofs.Ytjpcbegndnbeeaa
open Go.RowKit
set_option linter.unusedVariables false

/-- What GridTurn of the reference gives. -/
def GivesTurn (g : List (List Int)) (w : World) (e : Ending) (w' : World) : Prop :=
  ∃ a cap, e = .returned (.tuple #[.slice a (if gvalB g then turnG g else []).length cap, .bool (gvalB g)]) ∧ MRow w' (.slice a (if gvalB g then turnG g else []).length cap) (if gvalB g then turnG g else []) ∧ Below w.heap.size w w'
def turnR (g : List (List Int)) (c : Nat) : List Int := (List.range g.length).map (fun j => cellG g (g.length - 1 - j) c)
theorem turnR_take (g : List (List Int)) (c r : Nat) (hr : r < g.length) : (turnR g c).take (g.length - 1 - r) ++ [cellG g r c] = (turnR g c).take (g.length - r) := by
  have hl : (turnR g c).length = g.length := by simp [turnR]
  rw [show g.length - r = (g.length - 1 - r) + 1 by omega, List.take_succ_eq_append_getElem (by omega)]
  congr 1
  simp only [turnR, List.getElem_map, List.getElem_range]
  rw [show g.length - 1 - (g.length - 1 - r) = r by omega]
theorem turnG_len (g : List (List Int)) : (turnG g).length = colsG g := by simp [turnG]
theorem turnG_step (g : List (List Int)) (c : Nat) (hc : c < colsG g) : (turnG g).take c ++ [turnR g c] = (turnG g).take (c + 1) := by
  rw [List.take_succ_eq_append_getElem (by rw [turnG_len]; exact hc)]
  congr 1
  simp [turnG, turnR]

set_option maxHeartbeats 2000000 in
theorem sturn_any (v : Value) (g : List (List Int)) (w : World) (hr : MRow w v g) (hn : g.length ≤ 1048576) (hm : tot g ≤ 1048576) :
    Calls Try.prog 33 #[v] w (GivesTurn g w) := by
  have HVa := Lib.hid (fun wx (hb : Below w.heap.size w wx) => sgval_any v g wx (hr.below hb) hn hm)
  obtain ⟨a, cap, rfl⟩ := hr.shape
  obtain ⟨-, hc⟩ := hr.cells
  have HT := Lib.hid (show ∀ a cap w', MRow w' (.slice a (turnG g).length cap) (turnG g) → Below w.heap.size w w' → gvalB g = true → GivesTurn g w (.returned (.tuple #[.slice a (turnG g).length cap, .bool true])) w' from fun a cap w' h1 h2 h3 => by
    unfold GivesTurn
    rw [h3]
    exact ⟨a, cap, rfl, h1, h2⟩)
  cases hv : gvalB g
  · have HT2 := Lib.hid (show ∀ a w', MRow w' (.slice a 0 0) [] → Below w.heap.size w w' → GivesTurn g w (.returned (.tuple #[.slice a 0 0, .bool false])) w' from fun a w' h1 h2 => by
      unfold GivesTurn
      rw [hv]
      exact ⟨a, 0, rfl, h1, h2⟩)
    rw [hv] at HVa
    clear hv hc hr HT
    go_enter Try.func33, Try.ntmps33
    go_wp2_with fail
    have hbA := Below.alloc (Below.refl w.heap.size w) (Nat.le_refl _) (.cells #[] 24)
    refine (HVa.out _ hbA).mono ?_
    rintro e w1 ⟨rfl, hb⟩
    have HB := Lib.hid (hbA.trans (hb.mono hbA.size))
    clear hb hbA
    go_wp2
    go_ret2
    exact HT2.out _ _ ⟨_, _, rfl, .inl rfl⟩ HB.out
  · rw [hv] at HVa
    obtain ⟨g1, g2, g3, g4⟩ := gval_rows hv
    obtain ⟨b, off, u0, rfl, hcell0, hrow0⟩ := hc 0 (by omega)
    obtain ⟨a0, cap0, rfl⟩ := hrow0.shape
    obtain ⟨n, hN⟩ : ∃ n, n = g.length := ⟨_, rfl⟩
    obtain ⟨C, hC⟩ : ∃ C, C = colsG g := ⟨_, rfl⟩
    have hC' : (g.getD 0 []).length = C := hC.symm
    rw [hC', Nat.add_zero] at hcell0
    have HCell := Lib.hid (show ∀ r, r < n → ∃ b2 o2 cp, w.cell? ⟨b, off + r, none⟩ = some (.slice (some ⟨b2, o2, none⟩) C cp) ∧ ∀ c, c < C → w.cell? ⟨b2, o2 + c, none⟩ = some (.int .i64 (cellG g r c)) from fun r hr => by
      obtain ⟨b', off', u, e, h1, h2⟩ := hc r (by omega)
      simp only [Option.some.injEq, Addr.mk.injEq, and_true] at e
      obtain ⟨rfl, rfl⟩ := e
      obtain ⟨a', c', rfl⟩ := h2.shape
      have hl := gval_len hv r (by omega)
      obtain ⟨-, hcc⟩ := h2.cells
      obtain ⟨b2, o2, rfl, -⟩ := hcc 0 (by omega)
      rw [hl, ← hC] at h1
      refine ⟨b2, o2, c', h1, fun c hc => ?_⟩
      obtain ⟨b3, o3, e, h3⟩ := hcc c (by omega)
      simp only [Option.some.injEq, Addr.mk.injEq, and_true] at e
      obtain ⟨rfl, rfl⟩ := e
      exact h3)
    have lt0 := World.block_lt_of_cell? _ _ hcell0
    have HV := Lib.hid hv
    have HN := Lib.hid hN
    have HC := Lib.hid hC
    rw [← hN] at g1 g2 HVa ⊢
    rw [← hC] at g3 g4
    have k0 : (0 : Int) < (n : Int) := by omega
    clear hv hc hr hrow0 hC hC' hN hn hm
    go_enter Try.func33, Try.ntmps33
    go_wp2_with fail
    have hbA := Below.alloc (Below.refl w.heap.size w) (Nat.le_refl _) (.cells #[] 24)
    refine (HVa.out _ hbA).mono ?_
    rintro e w1 ⟨rfl, hb⟩
    have HB := Lib.hid (hbA.trans (hb.mono hbA.size))
    have HO := Lib.hid (((OutM.nil w w.heap.size (Nat.le_refl _)).below hb).lift (D' := w1.heap.size) (Nat.le_trans (by simp) hb.size) (Nat.le_refl _))
    clear hb hbA
    go_wp2
    go_loopw [4, 5] (fun s i wr => ∃ c : Nat, c ≤ C ∧ i = .int .i64 c ∧ OutM wr w.heap.size wr.heap.size s ((turnG g).take c) ∧ Below w.heap.size w wr) (fun _ i _ => C - (intOf i).toNat)
    case atStart => exact ⟨0, Nat.zero_le _, rfl, HO.out, HB.out⟩
    case round =>
      obtain ⟨c, hcC, rfl, ho, hb⟩ := hrel
      clear HO HB
      have HB := Lib.hid hb; clear hb
      have hc0 := (HB.out.cell (p := ⟨b, off, none⟩) lt0).trans hcell0
      obtain ⟨ad, cs, rfl⟩ := ho.shape
      have hlT : ((turnG g).take c).length = c := by rw [List.length_take, turnG_len, ← HC.out]; omega
      rw [hlT] at ho ⊢
      have HO := Lib.hid ho; clear ho
      clear hlT
      by_cases hlt : c < C
      · have HI0 := Lib.hid (Own.emptyLit wr wr.heap.size (Nat.le_refl _))
        have hbL := Below.alloc (Below.refl wr.heap.size wr) (Nat.le_refl _) (.cells #[] 3)
        have HO1 := Lib.hid (HO.out.below hbL)
        have HB1 := Lib.hid (HB.out.trans (hbL.mono HB.out.size))
        have hsz0 := HB.out.size
        obtain ⟨D, hD⟩ : ∃ D, D = wr.heap.size := ⟨_, rfl⟩
        have HDl := Lib.hid (show D ≤ (wr.alloc (.cells #[] 3)).heap.size by rw [hD]; exact hbL.size)
        rw [← hD] at hsz0
        have HD := Lib.hid hD
        clear hbL hD
        go_wp2
        clear hc0
        go_loopw [6, 7] (fun s i ws => ∃ x : Int, -1 ≤ x ∧ x ≤ (n : Int) - 1 ∧ i = .int .i64 x ∧ Own ws D s ((turnR g c).take ((n : Int) - 1 - x).toNat) ∧ OutM ws w.heap.size D (.slice ad c cs) ((turnG g).take c) ∧ D ≤ ws.heap.size ∧ Below w.heap.size w ws) (fun _ i _ => (intOf i + 1).toNat)
        case atStart => exact ⟨(n : Int) - 1, by omega, by omega, rfl, by rw [show ((n : Int) - 1 - ((n : Int) - 1)).toNat = 0 by omega, List.take_zero, HD.out]; exact HI0.out, by rw [HD.out]; exact HO1.out, HDl.out, HB1.out⟩
        case round =>
          obtain ⟨x, hx1, hx2, rfl, hi, ho, hds, hb⟩ := hrel
          clear HI0 HO1 HB1 HDl
          have HBs := Lib.hid hb; clear hb
          have HOs := Lib.hid ho; clear ho
          have HIs := Lib.hid hi; clear hi
          by_cases hx : 0 ≤ x
          · obtain ⟨r, rfl⟩ : ∃ r : Nat, x = (r : Int) := ⟨x.toNat, by omega⟩
            obtain ⟨b2, o2, cp, hcr, hcc⟩ := HCell.out r (by omega)
            have hce := hcc c hlt
            have hc1 := (HBs.out.cell (World.block_lt_of_cell? w _ hcr)).trans hcr
            have hc2 := (HBs.out.cell (World.block_lt_of_cell? w _ hce)).trans hce
            have k1 : (0 : Int) ≤ (c : Int) := by omega
            have k2 : (c : Int) < (C : Int) := by omega
            have k3 : (r : Int) < (n : Int) := by omega
            have hlen : ((turnR g c).take ((n : Int) - 1 - (r : Int)).toNat).length ≤ 1099511627776 := by rw [List.length_take]; omega
            have HT1 := Lib.hid (show (turnR g c).take ((n : Int) - 1 - (r : Int)).toNat ++ [cellG g r c] = (turnR g c).take ((n : Int) - 1 - ((r : Int) - 1)).toNat by
              have q := turnR_take g c r (by have := HN.out; omega)
              rw [show ((n : Int) - 1 - (r : Int)).toNat = g.length - 1 - r by have := HN.out; omega, show ((n : Int) - 1 - ((r : Int) - 1)).toNat = g.length - r by have := HN.out; omega]
              exact q)
            clear hcc hcr hce
            obtain ⟨y, hy⟩ : ∃ y, y = cellG g r c := ⟨_, rfl⟩
            rw [← hy] at hc2 HT1
            clear hy
            obtain ⟨rl, hrl⟩ : ∃ rl, rl = (turnR g c).take ((n : Int) - 1 - (r : Int)).toNat := ⟨_, rfl⟩
            rw [← hrl] at hlen HIs HT1
            clear hrl
            obtain ⟨ai, ci, rfl⟩ := HIs.out.shape
            go_wp2_with (at_builtin; refine append1 (by rfl) _ _ (by rfl) (D) _ (rl) (y) (by rfl) (by rfl) (HIs.out) (hds) (hlen) ?_; intro v' w2 ho2 hg2; (have HO2 := Lib.hid ho2); (have HG2 := Lib.hid hg2); clear ho2 hg2)
            go_roundw
            case rel =>
              refine ⟨(r : Int) - 1, by omega, by omega, rfl, by rw [← HT1.out]; exact HO2.out, HOs.out.grown HIs.out HG2.out, Nat.le_trans hds HG2.out.size, ?_⟩
              exact HBs.out.trans (below_of_grown HG2.out (Nat.le_trans hsz0 hds) (fun k e => Nat.le_trans hsz0 (HIs.out.lt k e).1))
            case measure => simp [intOf]
          · obtain rfl : x = -1 := by omega
            have HIs2 := Lib.hid (show Own wr D _ (turnR g c) from by
              have q := HIs.out
              rw [show ((n : Int) - 1 - -1).toNat = n by omega, List.take_of_length_le (by simp [turnR, HN.out])] at q
              exact q)
            obtain ⟨ai, ci, rfl⟩ := HIs2.out.shape
            have hsz2 := HBs.out.size
            have hTl : ((turnG g).take c).length ≤ 1000000 := by rw [List.length_take]; omega
            clear HIs
            go_wp2_with (at_builtin; refine appendM (by rfl) _ _ (by rfl) w.heap.size D _ ((turnG g).take c) _ (turnR g c) (by rfl) (by rfl) HOs.out HIs2.out hsz2 hTl ?_; intro v' w2 ho2 hg2; (have HO2 := Lib.hid ho2); (have HG2 := Lib.hid hg2); clear ho2 hg2)
            go_roundw
            case rel =>
              refine ⟨c + 1, by omega, by go_num, ?_, ?_⟩
              · rw [← turnG_step g c (by rw [← HC.out]; exact hlt)]
                exact HO2.out.lift HG2.out.size (Nat.le_refl _)
              · exact HBs.out.trans (below_of_grown HG2.out hsz2 (fun k e => (HOs.out.owns k e).1))
            case measure => simp [intOf]; omega
      · have hce : c = C := by omega
        subst hce
        have HO2 := Lib.hid (show OutM wr w.heap.size wr.heap.size (.slice ad (turnG g).length cs) (turnG g) from by
          have q := HO.out
          rw [List.take_of_length_le (by rw [turnG_len, ← HC.out]; exact Nat.le_refl _)] at q
          rw [turnG_len, ← HC.out]
          exact q)
        have HLe := Lib.hid (show c = (turnG g).length from by rw [turnG_len, HC.out])
        go_wp2
        go_ret2
        have q := HT.out ad cs wr HO2.out.mrow HB.out HV.out
        rw [← HLe.out] at q
        exact q

end Go.Proofs.Ytjpcbegndnbeeaa
