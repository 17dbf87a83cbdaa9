/- Contract: fieldOf of the program. -/
import Derived.Test.YtkhhloeemecokaaFldAt
namespace Go.Proofs.Ytkhhloeemecokaa
open Go.RowKit
set_option linter.unusedVariables false

/-- What fieldOf gives. -/
def Fof (g : List (List Int)) (w : World) (e : Ending) (w' : World) : Prop :=
  ((gvalB g = true ∧ ∃ G, e = .returned (.tuple #[.agg #[.int .i64 g.length, .int .i64 (colsG g), .slice (some ⟨G, 0, none⟩) (g.length * colsG g) (g.length * colsG g)], .bool true]) ∧ Own w' w.heap.size (.slice (some ⟨G, 0, none⟩) (g.length * colsG g) (g.length * colsG g)) (flatG g g.length (colsG g) (g.length * colsG g))) ∨
   (gvalB g = false ∧ e = .returned (.tuple #[.agg #[.int .i64 0, .int .i64 0, .slice none 0 0], .bool false]))) ∧ Below w.heap.size w w'
/-- The state of the loops. -/
def Fill (w : World) (Bf G n C N : Nat) (g : List (List Int)) (k : Nat) (wr : World) : Prop :=
  FldAt w.heap.size 0 0 (.slice none 0 0) wr ∧ FldAt Bf n C (.slice (some ⟨G, 0, none⟩) N N) wr ∧ Own wr (w.heap.size + 1) (.slice (some ⟨G, 0, none⟩) N N) (flatG g n C k) ∧ Below w.heap.size w wr
theorem Fill.below {w wr w' : World} {Bf G n C N k : Nat} {g : List (List Int)} (h : Fill w Bf G n C N g k wr) (hb : Below wr.heap.size wr w') : Fill w Bf G n C N g k w' :=
  ⟨h.1.below hb, h.2.1.below hb, h.2.2.1.below hb, h.2.2.2.trans (hb.mono h.2.2.2.size)⟩
theorem Fill.store {w wr : World} {Bf G n C N k r c : Nat} {g : List (List Int)} (h : Fill w Bf G n C N g k wr) (hk : k = r * C + c) (hc : c < C) (hG1 : w.heap.size < G) (hG2 : G ≠ Bf) :
    Fill w Bf G n C N g (k + 1) (wr.setCell ⟨G, k, none⟩ (.int .i64 (cellG g r c))) := by
  refine ⟨h.1.other (by omega) _ _, h.2.1.other hG2 _ _, ?_, h.2.2.2.setCell (p := ⟨G, k, none⟩) (Nat.le_of_lt hG1) _⟩
  have := (h.2.2.1.store k (cellG g r c)).1
  rw [hk] at this ⊢
  rw [flat_set' g hc] at this
  exact this
theorem Fill.drewN {w wr : World} {Bf G n C N k : Nat} {g : List (List Int)} (h : Fill w Bf G n C N g k wr) (q : Nat) : Fill w Bf G n C N g k (wr.drewN q) :=
  ⟨h.1, h.2.1, h.2.2.1.drewN q, below_drewN h.2.2.2 q⟩
theorem below_alloc (w : World) (o : Obj) : Below w.heap.size w (w.alloc o) := Below.alloc (Below.refl w.heap.size w) (Nat.le_refl _) o

set_option maxHeartbeats 2000000 in
theorem fieldOf_any (v : Value) (g : List (List Int)) (w : World) (hr : MRow w v g) (hn : g.length ≤ 1048576) (hm : tot g ≤ 1048576) :
    Calls Try.prog 36 #[v] w (Fof g w) := by
  obtain ⟨a, cap, rfl⟩ := hr.shape
  obtain ⟨-, hc⟩ := hr.cells
  obtain ⟨n, hN⟩ : ∃ n, n = g.length := ⟨_, rfl⟩
  rw [← hN] at hc hn
  by_cases h1 : n < 1
  · have HV := Lib.hid (show gvalB g = false by unfold gvalB; rw [← hN, show inB (n : Int) 1 7 = false by simp [inB]; omega]; simp)
    have e1 : (n : Int) < 1 := by omega
    have HNh := Lib.hid hN
    clear hc hr hN
    rw [← HNh.out]
    go_enter Try.func36, Try.ntmps36
    go_wp2
    (try simp only [Exit.inBlock, Exit.then])
    refine bodyPost_ret (v := .tuple #[.agg #[.int .i64 0, .int .i64 0, .slice none 0 0], .bool false]) ?_ rfl ⟨.inr ⟨HV.out, rfl⟩, Below.alloc (Below.refl _ _) (Nat.le_refl _) _⟩
    rw [results_cell_tmp rfl]
    go_simp
  · by_cases h2 : 7 < n
    · have HV := Lib.hid (show gvalB g = false by unfold gvalB; rw [← hN, show inB (n : Int) 1 7 = false by simp [inB]; omega]; simp)
      have e1 : ¬ (n : Int) < 1 := by omega
      have e2 : (7 : Int) < (n : Int) := by omega
      have HNh := Lib.hid hN
      clear hc hr hN
      rw [← HNh.out]
      go_enter Try.func36, Try.ntmps36
      go_wp2
      (try simp only [Exit.inBlock, Exit.then])
      refine bodyPost_ret (v := .tuple #[.agg #[.int .i64 0, .int .i64 0, .slice none 0 0], .bool false]) ?_ rfl ⟨.inr ⟨HV.out, rfl⟩, Below.alloc (Below.refl _ _) (Nat.le_refl _) _⟩
      rw [results_cell_tmp rfl]
      go_simp
    · have e1 : ¬ (n : Int) < 1 := by omega
      have e2 : ¬ (7 : Int) < (n : Int) := by omega
      obtain ⟨b, off, u0, rfl, hcell0, hrow0⟩ := hc 0 (by omega)
      obtain ⟨a0, cap0, rfl⟩ := hrow0.shape
      obtain ⟨C, hC⟩ : ∃ C, C = (g.getD 0 []).length := ⟨_, rfl⟩
      have hCb : C ≤ 1048576 := by rw [hC]; exact Nat.le_trans (tot_row g 0 (by omega)) hm
      rw [← hC] at hcell0
      rw [Nat.add_zero] at hcell0
      have HCg := Lib.hid (show colsG g = C from hC.symm)
      have HN := Lib.hid hN
      have HC := Lib.hid hc
      have HM := Lib.hid hm
      have k0 : (0 : Int) < (n : Int) := by omega
      have hcA := (below_alloc w (.cells #[.int .i64 0, .int .i64 0, .slice none 0 0] 49)).cell (p := ⟨b, off, none⟩) (World.block_lt_of_cell? w _ hcell0)
      rw [hcell0] at hcA
      clear hc hr hN hC hm hrow0
      rw [← HN.out]
      by_cases h3 : C < 1 ∨ 7 < C
      · have HV := Lib.hid (show gvalB g = false by unfold gvalB; rw [HCg.out, show inB (C : Int) 1 7 = false by simp [inB]; omega]; simp)
        rcases h3 with h3 | h3
        · have e3 : (C : Int) < 1 := by omega
          go_enter Try.func36, Try.ntmps36
          go_wp2
          (try simp only [Exit.inBlock, Exit.then])
          refine bodyPost_ret (v := .tuple #[.agg #[.int .i64 0, .int .i64 0, .slice none 0 0], .bool false]) ?_ rfl ⟨.inr ⟨HV.out, rfl⟩, Below.alloc (Below.refl _ _) (Nat.le_refl _) _⟩
          rw [results_cell_tmp rfl]
          go_simp
        · have e3 : ¬ (C : Int) < 1 := by omega
          have e4 : (7 : Int) < (C : Int) := by omega
          go_enter Try.func36, Try.ntmps36
          go_wp2
          (try simp only [Exit.inBlock, Exit.then])
          refine bodyPost_ret (v := .tuple #[.agg #[.int .i64 0, .int .i64 0, .slice none 0 0], .bool false]) ?_ rfl ⟨.inr ⟨HV.out, rfl⟩, Below.alloc (Below.refl _ _) (Nat.le_refl _) _⟩
          rw [results_cell_tmp rfl]
          go_simp
      · have e3 : ¬ (C : Int) < 1 := by omega
        have e4 : ¬ (7 : Int) < (C : Int) := by omega
        have hC1 : 1 ≤ C := by omega
        have hC7 : C ≤ 7 := by omega
        have hn7 : n ≤ 7 := by omega
        obtain ⟨N, hNN⟩ : ∃ N, N = n * C := ⟨_, rfl⟩
        have hN49 : N ≤ 49 := by rw [hNN]; exact Nat.mul_le_mul hn7 hC7
        have HBl := Lib.hid (fun wx => blank_any n C N wx hNN (by omega))
        have HNN := Lib.hid hNN
        clear hNN h3
        go_enter Try.func36, Try.ntmps36
        go_wp2_with fail
        refine (HBl.out _).mono ?_
        rintro e w1 ⟨G, rfl, hG1, ho, hb⟩
        have F0 := (FldAt.zero w).below hb
        have B1 := (below_alloc w (.cells #[.int .i64 0, .int .i64 0, .slice none 0 0] 49)).trans (hb.mono (by simp))
        have hG2 := (ho.lt G rfl).2
        have hG3 : w.heap.size < G := by simp at hG1; omega
        have HFi := Lib.hid (show Fill w w1.heap.size G n C N g 0 (w1.alloc (.cells #[.int .i64 n, .int .i64 C, .slice (some ⟨G, 0, none⟩) N N] 49)) from
          ⟨F0.below (below_alloc w1 _), FldAt.new w1 n C _, by rw [flat_zero, ← HNN.out]; exact (ho.mono (by simp)).below (below_alloc w1 _), B1.trans ((below_alloc w1 _).mono B1.size)⟩)
        clear F0 B1 hb ho hG1 hcA
        go_wp2
        go_loopw [36] (fun i wr => ∃ r : Nat, r ≤ n ∧ i = .int .i64 r ∧ (∀ j, j < r → rowOk C (g.getD j []) = true) ∧ Fill w w1.heap.size G n C N g (r * C) wr) (fun i _ => n - (intOf i).toNat)
        case atStart => exact ⟨0, Nat.zero_le _, rfl, fun j hj => by omega, by rw [Nat.zero_mul]; exact HFi.out⟩
        case round =>
          obtain ⟨r, hr, rfl, hok, hfi⟩ := hrel
          clear HFi
          have HOk := Lib.hid hok; clear hok
          have HFi := Lib.hid hfi; clear hfi
          by_cases hlt : r < n
          · obtain ⟨b', off', u, hbb, hcell, hrow⟩ := HC.out r hlt
            simp only [Option.some.injEq, Addr.mk.injEq, and_true] at hbb
            obtain ⟨rfl, rfl⟩ := hbb
            obtain ⟨a', cap', rfl⟩ := hrow.shape
            obtain ⟨z, hz⟩ : ∃ z, z = g.getD r [] := ⟨_, rfl⟩
            rw [← hz] at hcell hrow
            obtain ⟨m, hm⟩ : ∃ m, m = z.length := ⟨_, rfl⟩
            have hmb : m ≤ 1048576 := by rw [hm, hz]; exact Nat.le_trans (tot_row g r (by have := HN.out; omega)) HM.out
            rw [← hm] at hcell
            have hc1 := (HFi.out.2.2.2.cell (World.block_lt_of_cell? w _ hcell)).trans hcell
            have HR := Lib.hid hrow; clear hrow
            have HZ := Lib.hid hz; clear hz
            have HMm := Lib.hid hm; clear hm
            have k1 : (0 : Int) ≤ (r : Int) := by omega
            have k2 : (r : Int) < (n : Int) := by omega
            by_cases hmc : m = C
            · subst hmc
              have hne : ((m : Int) != (m : Int)) = false := by simp
              obtain ⟨P, hP⟩ : ∃ P, P = r * m := ⟨_, rfl⟩
              have hPN : P + m ≤ N := by
                have h := Nat.mul_le_mul_right m (show r + 1 ≤ n by omega)
                rw [Nat.add_mul, ← hP] at h
                rw [HNN.out]; omega
              have HP := Lib.hid hP
              rw [← hP] at HFi
              clear hP
              go_wp2
              go_loopw [48] (fun i ws => ∃ c : Nat, c ≤ m ∧ i = .int .i64 c ∧ (∀ j, j < c → htB (z.getD j 0) = true) ∧ Fill w w1.heap.size G n m N g (P + c) ws) (fun i _ => m - (intOf i).toNat)
              case atStart => exact ⟨0, Nat.zero_le _, rfl, fun j hj => by omega, HFi.out⟩
              case round =>
                obtain ⟨c, hcm, rfl, hht, hfs⟩ := hrel
                have HHt := Lib.hid hht; clear hht
                have HFs := Lib.hid hfs; clear hfs
                clear hc1
                by_cases hltc : c < m
                · obtain ⟨-, hcz⟩ := HR.out.cells
                  obtain ⟨b2, o2, rfl, hcellz⟩ := hcz c (by have := HMm.out; omega)
                  clear hcz
                  have hcz := (HFs.out.2.2.2.cell (World.block_lt_of_cell? w _ hcellz)).trans hcellz
                  obtain ⟨x, hx⟩ : ∃ x, x = z.getD c 0 := ⟨_, rfl⟩
                  rw [← hx] at hcz
                  have HX := Lib.hid (show x = cellG g r c by rw [hx]; unfold cellG; rw [HZ.out])
                  have HX2 := Lib.hid hx
                  have j1 : (0 : Int) ≤ (c : Int) := by omega
                  have j2 : (c : Int) < (m : Int) := by omega
                  clear hcellz hx
                  have HH := Lib.hid (fun wx => height_any x wx)
                  by_cases hht : htB x = true
                  · have HHx := Lib.hid hht
                    rw [hht] at HH
                    clear hht
                    go_wp2_with fail
                    refine (HH.out _).mono ?_
                    rintro e w' ⟨rfl, rfl⟩
                    go_wp2
                    clear hcz
                    obtain ⟨-, g1, g2, g3⟩ := HFs.out.2.1.cells
                    have HIx := Lib.hid (fun wx => index_any n m r c P (some ⟨G, 0, none⟩) N N wx HP.out (by omega))
                    refine wp_region_held_drew (S := fun wx => wx.cell? ⟨w1.heap.size, 0, none⟩ = some (.int .i64 n) ∧ wx.cell? ⟨w1.heap.size, 1, none⟩ = some (.int .i64 m) ∧ wx.cell? ⟨w1.heap.size, 2, none⟩ = some (.slice (some ⟨G, 0, none⟩) N N)) (by kernel_rfl) (⟨g1, g2, g3⟩) (fun hHeld => ?_)
                    refine wpAnyH_take (i := 0) (oi := { dst := some 57, op := _, type := _, pos := _, after := _, guard := _ }) (v := ?_) rfl (by kernel_rfl) (by kernel_rfl) (by kernel_rfl) (fun _ _ _ h => h) (Or.inl ⟨by rfl, ?_⟩) (by assumption) ?_
                    case refine_2 => ((intro w hSw; (try dsimp only at hSw); go_simp); try with_reducible rfl)
                    try simp only [Act.put, List.setIfInBounds_toArray, List.set_cons_zero, List.set_cons_succ]
                    refine wpAnyH_take (i := 1) (oi := { dst := some 58, op := _, type := _, pos := _, after := _, guard := _ }) (v := ?_) rfl (by kernel_rfl) (by kernel_rfl) (by kernel_rfl) (fun _ _ _ h => h) (Or.inl ⟨by rfl, ?_⟩) (by assumption) ?_
                    case refine_2 => ((intro w hSw; (try dsimp only at hSw); go_simp); try with_reducible rfl)
                    try simp only [Act.put, List.setIfInBounds_toArray, List.set_cons_zero, List.set_cons_succ]
                    refine wpAnyH_take (i := 2) (oi := { dst := some 59, op := _, type := _, pos := _, after := _, guard := _ }) (v := ?_) rfl (by kernel_rfl) (by kernel_rfl) (by kernel_rfl) (fun _ _ _ h => h) (Or.inl ⟨by rfl, ?_⟩) (by assumption) ?_
                    case refine_2 => ((intro w hSw; (try dsimp only at hSw); go_simp); try with_reducible rfl)
                    try simp only [Act.put, List.setIfInBounds_toArray, List.set_cons_zero, List.set_cons_succ]
                    refine wpAnyH_take (i := 3) (oi := { dst := some 60, op := _, type := _, pos := _, after := _, guard := _ }) (v := ?_) rfl (by kernel_rfl) (by kernel_rfl) (by kernel_rfl) (fun _ _ _ h => h) (Or.inl ⟨by rfl, ?_⟩) (by assumption) ?_
                    case refine_2 => ((intro w hSw; (try dsimp only at hSw); go_simp); try with_reducible rfl)
                    try simp only [Act.put, List.setIfInBounds_toArray, List.set_cons_zero, List.set_cons_succ]
                    refine wpAnyH_take (i := 4) (oi := { dst := some 61, op := _, type := _, pos := _, after := _, guard := _ }) (v := ?_) rfl (by kernel_rfl) (by kernel_rfl) (by kernel_rfl) (fun _ _ _ h => h) (Or.inl ⟨by rfl, ?_⟩) (by assumption) ?_
                    case refine_2 => ((intro w hSw; (try dsimp only at hSw); go_simp); try with_reducible rfl)
                    try simp only [Act.put, List.setIfInBounds_toArray, List.set_cons_zero, List.set_cons_succ]
                    refine wpAnyH_take (i := 6) (oi := { dst := some 63, op := _, type := _, pos := _, after := _, guard := _ }) (v := ?_) rfl (by kernel_rfl) (by kernel_rfl) (by kernel_rfl) (fun _ _ _ h => h) (Or.inl ⟨by rfl, ?_⟩) (by assumption) ?_
                    case refine_2 => ((intro w hSw; (try dsimp only at hSw); go_simp); try with_reducible rfl)
                    try simp only [Act.put, List.setIfInBounds_toArray, List.set_cons_zero, List.set_cons_succ]
                    have q1 : (0 : Int) ≤ (P : Int) + (c : Int) := by omega
                    have q2 : (P : Int) + (c : Int) < (N : Int) := by omega
                    have q3 : ((P : Int) + (c : Int)).toNat = P + c := by omega
                    have hb5 := below_drewN (Below.alloc (Below.refl wr.heap.size wr) (Nat.le_refl _) (.cells #[.int .i64 n, .int .i64 m, .slice (some ⟨G, 0, none⟩) N N] 49)) 1
                    refine wpAnyH_ready (rs := [5]) (by kernel_rfl) (by simp) ?_
                    refine AllReadyH.cons (o := { dst := some 62, op := _, type := _, pos := _, after := _, guard := _ }) rfl (fun K hK => ?_) AllReadyH.nil
                    go_simp
                    go_at_call 61
                    refine (HIx.out _).mono ?_
                    rintro e wc ⟨rfl, rfl⟩
                    refine hK.out _ _ (((HFs.out.below hb5).2.1.cells.2)) (fun hHeld => ?_)
                    clear hK K
                    try simp only [Act.put, List.setIfInBounds_toArray, List.set_cons_zero, List.set_cons_succ]
                    refine wpAnyH_take (i := 7) (oi := { dst := some 64, op := _, type := _, pos := _, after := _, guard := _ }) (v := ?_) rfl (by kernel_rfl) (by kernel_rfl) (by kernel_rfl) (fun _ _ _ h => h) (Or.inl ⟨by rfl, ?_⟩) (by assumption) ?_
                    case refine_2 => ((intro w hSw; (try dsimp only at hSw); go_simp); try with_reducible rfl)
                    try simp only [Act.put, List.setIfInBounds_toArray, List.set_cons_zero, List.set_cons_succ]
                    have hb4 := below_alloc wr (.cells #[.int .i64 n, .int .i64 m, .slice (some ⟨G, 0, none⟩) N N] 49)
                    have HS := Lib.hid (((HFs.out.below hb4).store (r := r) (c := c) (by rw [HP.out]) hltc hG3 (by omega)).drewN 1)
                    rw [← HX.out] at HS
                    have hold := (HFs.out.below hb4).2.2.1.cellAt (P + c) (by omega)
                    have hfr := (HFs.out.below hb4).2.2.1.frozenAt (P + c)
                    clear hb4
                    refine wpAnyH_ready (rs := [8]) (by kernel_rfl) (by simp) ?_
                    refine AllReadyH.cons (o := { dst := none, op := _, type := _, pos := _, after := _, guard := _ }) rfl (fun K hK => ?_) AllReadyH.nil
                    go_simp
                    refine hK.out _ _ (((HS.out.2.1).cells.2)) (fun hHeld => ?_)
                    clear hK K
                    try simp only [Act.put, List.setIfInBounds_toArray, List.set_cons_zero, List.set_cons_succ]
                    refine wpAnyH_done (by kernel_rfl) ?_ _
                    clear hHeld hold hfr g1 g2 g3
                    go_wp2
                    go_roundw
                    case rel =>
                      refine ⟨c + 1, by omega, by go_num, fun j hj => ?_, HS.out⟩
                      by_cases e : j = c
                      · subst e; rw [← HX2.out]; exact HHx.out
                      · exact HHt.out j (by omega)
                    case measure => simp [intOf]; omega
                  · have hht' : htB x = false := by simpa using hht
                    have HV := Lib.hid (show gvalB g = false from gval_no (i := r) (by have := HN.out; omega) (by rw [HCg.out, ← HZ.out]; exact rowOk_ht (c := c) (by have := HMm.out; omega) (by rw [← HX2.out]; exact hht')))
                    rw [hht'] at HH
                    clear hht hht'
                    go_wp2_with fail
                    refine (HH.out _).mono ?_
                    rintro e w' ⟨rfl, rfl⟩
                    obtain ⟨-, g1, g2, g3⟩ := HFs.out.1.cells
                    obtain ⟨g4, g5, g6⟩ := HFs.out.1.free
                    go_wp2
                    (try simp only [Exit.inBlock, Exit.then])
                    refine bodyPost_ret (v := .tuple #[.agg #[.int .i64 0, .int .i64 0, .slice none 0 0], .bool false]) ?_ rfl ⟨.inr ⟨HV.out, rfl⟩, below_set3 HFs.out.2.2.2 (Nat.le_refl _) _ _ _⟩
                    rw [results_cell_tmp rfl]
                    go_simp
                · have hce : c = m := by omega
                  have HRk := Lib.hid (show rowOk m (g.getD r []) = true from rowOk_mk (by rw [← HZ.out, HMm.out]) (by
                    rw [← HZ.out, List.all_eq_true]
                    intro y hy
                    obtain ⟨i, hi, rfl⟩ := List.mem_iff_getElem.1 hy
                    have := HHt.out i (by have := HMm.out; omega)
                    rw [List.getD_eq_getElem?_getD, List.getElem?_eq_getElem hi] at this
                    simpa using this))
                  have HF2 := Lib.hid (show Fill w w1.heap.size G n m N g ((r + 1) * m) wr from by have q := HFs.out; rw [hce] at q; rw [Nat.add_mul, Nat.one_mul, ← HP.out]; exact q)
                  clear hce
                  go_wp2
                  go_roundw
                  case rel =>
                    refine ⟨r + 1, by omega, by go_num, fun j hj => ?_, HF2.out⟩
                    by_cases e : j = r
                    · subst e; exact HRk.out
                    · exact HOk.out j (by omega)
                  case measure => simp [intOf]; omega
            · have hne : ((m : Int) != (C : Int)) = true := by simp; omega
              have HV := Lib.hid (show gvalB g = false from gval_no (i := r) (by have := HN.out; omega) (by rw [HCg.out, ← HZ.out]; exact rowOk_len (by rw [← HMm.out]; exact hmc)))
              clear hmc
              obtain ⟨-, g1, g2, g3⟩ := HFi.out.1.cells
              obtain ⟨g4, g5, g6⟩ := HFi.out.1.free
              go_wp2
              (try simp only [Exit.inBlock, Exit.then])
              refine bodyPost_ret (v := .tuple #[.agg #[.int .i64 0, .int .i64 0, .slice none 0 0], .bool false]) ?_ rfl ⟨.inr ⟨HV.out, rfl⟩, below_set3 HFi.out.2.2.2 (Nat.le_refl _) _ _ _⟩
              rw [results_cell_tmp rfl]
              go_simp
          · have hke : r = n := by omega
            have HV := Lib.hid (show gvalB g = true from gval_mk (by have := HN.out; omega) (by have := HN.out; omega) HCg.out hC1 hC7 (fun i hi => HOk.out i (by have := HN.out; omega)))
            have HF2 := Lib.hid (show FldAt w.heap.size 0 0 (.slice none 0 0) wr ∧ FldAt w1.heap.size n C (.slice (some ⟨G, 0, none⟩) N N) wr ∧ Own wr (w.heap.size + 1) (.slice (some ⟨G, 0, none⟩) N N) (flatG g n C N) ∧ Below w.heap.size w wr from by
              have := HFi.out
              rw [hke, ← HNN.out] at this
              exact this)
            clear hke
            obtain ⟨-, g1, g2, g3⟩ := HF2.out.1.cells
            obtain ⟨g4, g5, g6⟩ := HF2.out.1.free
            obtain ⟨-, g7, g8, g9⟩ := HF2.out.2.1.cells
            go_wp2
            (try simp only [Exit.inBlock, Exit.then])
            refine bodyPost_ret (v := .tuple #[.agg #[.int .i64 n, .int .i64 C, .slice (some ⟨G, 0, none⟩) N N], .bool true]) ?_ rfl ⟨.inl ⟨HV.out, G, by rw [HN.out, HCg.out, HNN.out, HN.out], ?_⟩, below_set3 HF2.out.2.2.2 (Nat.le_refl _) _ _ _⟩
            · rw [results_cell_tmp rfl]
              go_simp
            · have := (HF2.out.2.2.1.set3 (g := w.heap.size) (by omega) (.int .i64 n) (.int .i64 C) (.slice (some ⟨G, 0, none⟩) N N)).mono (B' := w.heap.size) (by omega)
              have eN : g.length * colsG g = N := by rw [HCg.out, ← HN.out, HNN.out]
              rw [eN, HCg.out, ← HN.out]
              exact this

end Go.Proofs.Ytkhhloeemecokaa
