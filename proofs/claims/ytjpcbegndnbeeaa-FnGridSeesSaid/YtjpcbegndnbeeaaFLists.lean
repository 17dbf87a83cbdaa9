/- Contract: lists of the program's fields. -/
import Derived.Test.YtjpcbegndnbeeaaMatLaw
import Derived.Test.YtjpcbegndnbeeaaFld
import Derived.Laws.CopyOwn
namespace Go.Proofs.Ytjpcbegndnbeeaa
open Go.RowKit
set_option linter.unusedVariables false

/-- 'copy(dst, src)' over a whole row of the call's own, as a step of a drawn region. -/
theorem copy_step {w : World} {ops : Array Oper} {o : Oper} {a : Act} {K : Act → World → Prop} {Q : Exit → Act → World → Prop} {E : Prop} (hgd : o.guard = none) (d s : Operand)
    (ho : o.op = .call { callee := .builtin .copy, args := #[d, s], argTypes := #[24, 24] }) (B g b off n c : Nat) (zs ys : List Int) (hd : a.eval d = .slice (some ⟨g, 0, none⟩) n n) (hs : a.eval s = .slice (some ⟨b, off, none⟩) n c)
    (hown : Own w B (.slice (some ⟨g, 0, none⟩) n n) zs) (hy : ys.length = n) (hc : ∀ j, j < n → w.cell? ⟨b, off + j, none⟩ = some (.int .i64 (ys.getD j 0)))
    (h : ∀ w', Own w' B (.slice (some ⟨g, 0, none⟩) n n) ys → w.grownBy w' (some g) → K (a.put o.dst (goInt n)) w') :
    if Region.wanted o (yielded ops a.tmps) = true then Oper.wp Try.prog o a w K Q else E := by
  have hw : Region.wanted o (yielded ops a.tmps) = true := by simp [Region.wanted, hgd]
  rw [if_pos hw]
  have hzl := hown.len
  rcases hown.2 with ⟨hv, -⟩ | ⟨g', cap, cur, hv, hB, hh, hle, hm, hsz, ht⟩
  · simp at hv
  simp only [Value.slice.injEq, Option.some.injEq, Addr.mk.injEq, and_true] at hv
  obtain ⟨rfl, hn, rfl⟩ := hv
  have hcs : (ys.map (Value.int .i64)).length = n := by simp [hy]
  have hrun := run_copy_row (P := Try.prog) w 24 24 o.type 3 g 0 n n ⟨b, off, none⟩ n c cur 3 (ys.map (Value.int .i64)) Try.underlying24 (by kernel_rfl) hh (by rw [hcs]; simp)
    (fun j v hj => by
      rw [List.getElem?_map] at hj
      have hj' : j < ys.length := by
        rcases Nat.lt_or_ge j ys.length with h1 | h1
        · exact h1
        · rw [List.getElem?_eq_none h1] at hj; simp at hj
      rw [List.getElem?_eq_getElem hj'] at hj
      simp only [Option.map_some, Option.some.injEq] at hj
      rw [add_at, hc j (by omega), ← hj]
      simp [hj']) (by rw [hcs]; omega) (by intro v hv; obtain ⟨x, -, rfl⟩ := List.mem_map.1 hv; rfl)
  unfold Oper.wp
  simp [execOp, ho, resolve, invoke, builtin, hd, hs, hrun, Result.andThen]
  have hrow : cur.toList.drop ys.length = [] := List.drop_of_length_le (by rw [Array.length_toList]; omega)
  rw [hrow, List.append_nil]
  have hK := h (w.setRow g (ys.map (Value.int .i64)).toArray) ⟨by simp, .inr ⟨g, n, (ys.map (Value.int .i64)).toArray, by rw [hy], hB, setRow_heap w g cur _ 3 _ hh, by omega, hm, by simp [hy], by rw [List.take_of_length_le (by simp [hy])]⟩⟩
    ⟨rfl, rfl, rfl, by simp [World.setRow], fun k hk hne => setRow_other w g k _ (fun e => hne (by rw [e]))⟩
  rw [hy]
  exact hK

def listsL (zs : List Int) (R C : Nat) : List (List Int) := (List.range R).map (fun r => (List.range C).map (fun c => zs.getD (r * C + c) 0))
theorem lists_row (zs : List Int) {R C r : Nat} (hr : r < R) : (listsL zs R C).getD r [] = (List.range C).map (fun c => zs.getD (r * C + c) 0) := by simp [listsL, hr]
theorem lists_len (zs : List Int) (R C : Nat) : (listsL zs R C).length = R := by simp [listsL]
theorem cell_set {w : World} {b i : Nat} {v0 : Value} (h : w.cell? ⟨b, i, none⟩ = some v0) (x : Value) : (w.setCell ⟨b, i, none⟩ x).cell? ⟨b, i, none⟩ = some x := by
  exact World.cell?_setCell_same' _ _ _ (by rw [h]; rfl)
theorem FillM.drewN {w : World} {B n k : Nat} {v : Value} {g : List (List Int)} (h : FillM w B v n k g) (q : Nat) : FillM (w.drewN q) B v n k g := by
  obtain ⟨us, L, h1, h2, h3, h4, h5, h6, h7⟩ := h
  exact ⟨us, L, h1, h2, h3, h4, h5, h6, fun i hi => ⟨(h7 i hi).1.drewN q, (h7 i hi).2⟩⟩
theorem FillM.size0 {w : World} {B n k m cap : Nat} {g : List (List Int)} (h : FillM w B (.slice (some ⟨m, 0, none⟩) n cap) n k g) : m < w.heap.size := by
  obtain ⟨us, L, h1, h2, h3, h4, h5, h6, h7⟩ := h
  exact (World.ownsRow.lt h2 m rfl).2
theorem FillM.congr {w : World} {B n k : Nat} {v : Value} {g g' : List (List Int)} (h : FillM w B v n k g) (hs : ∀ i, i < k → g'.getD i [] = g.getD i []) : FillM w B v n k g' := by
  obtain ⟨us, L, h1, h2, h3, h4, h5, h6, h7⟩ := h
  exact ⟨us, L, h1, h2, h3, h4, h5, h6, fun i hi => by rw [hs i hi]; exact h7 i hi⟩
theorem FillM.swap {w w3 : World} {B n k m cap : Nat} {g g' : List (List Int)} {u : Value} (h : FillM w B (.slice (some ⟨m, 0, none⟩) n cap) n (k + 1) g') (hk : k < n) (hu : w.cell? ⟨m, k, none⟩ = some u)
    (hg : w.grownBy w3 u.ownBlock) (ho : Own w3 B u (g.getD k [])) (hsame : ∀ i, i < k → g.getD i [] = g'.getD i []) : FillM w3 B (.slice (some ⟨m, 0, none⟩) n cap) n (k + 1) g := by
  obtain ⟨us, L, h1, h2, h3, h4, h5, h6, h7⟩ := h
  have hl := h2.1
  rw [Nat.mul_one] at hl
  have hk7 := h7 k (by omega)
  have e : us.getD k undef = u := by
    rw [World.ownsRow.cellAt h2 k (by omega), List.getElem?_append_left (by omega)] at hu
    rw [List.getD_eq_getElem?_getD, hu]
    rfl
  rw [e] at hk7
  have hm : ∀ j, u.ownBlock = some j → j ≠ m := fun j hj e => by
    have q1 := (hk7.1.lt j hj).1
    have q2 := h3 m rfl
    have q3 := mono_le h4 (Nat.zero_le k)
    omega
  refine ⟨us, L, h1, h2.kept hg (.inr (fun e => hm m e.symm rfl)), h3, h4, Nat.le_trans h5 hg.size, h6, fun i hi => ?_⟩
  by_cases e2 : i = k
  · subst e2
    rw [e]
    refine ⟨⟨ho.1, ?_⟩, hk7.2⟩
    rcases ho.2 with hn | ⟨g0, c0, cur0, hv, -, r⟩
    · exact .inl hn
    · exact .inr ⟨g0, c0, cur0, hv, (hk7.1.lt g0 (by rw [hv]; rfl)).1, r⟩
  · have hi7 := h7 i hi
    rw [hsame i (by omega)]
    refine ⟨hi7.1.kept hg (fun j hj e3 => ?_), hi7.2⟩
    have q1 := hi7.2 j hj
    have q2 := (hk7.1.lt j e3).1
    have q3 := mono_le h4 (show i + 1 ≤ k by omega)
    omega

set_option maxHeartbeats 2000000 in
theorem lists_any (Rn C N G : Nat) (zs : List Int) (w : World) (hr : Row w (.slice (some ⟨G, 0, none⟩) N N) zs) (hN : N = Rn * C) (hC : 1 ≤ C) (hC7 : C ≤ 7) (hR : Rn ≤ 7) :
    Calls Try.prog 54 #[.agg #[.int .i64 Rn, .int .i64 C, .slice (some ⟨G, 0, none⟩) N N]] w fun e w' => ∃ ad c, e = .returned (.slice ad Rn c) ∧ MRow w' (.slice ad Rn c) (listsL zs Rn C) ∧ Below w.heap.size w w' := by
  obtain ⟨hzl, hcc⟩ := hr.cells
  have HZ := Lib.hid (show ∀ j, j < N → w.cell? ⟨G, 0 + j, none⟩ = some (.int .i64 (zs.getD j 0)) from fun j hj => by
    obtain ⟨b', o', e, h⟩ := hcc j hj
    simp only [Option.some.injEq, Addr.mk.injEq, and_true] at e
    obtain ⟨rfl, rfl⟩ := e
    exact h)
  have HN := Lib.hid hN
  have hN49 : N ≤ 49 := by rw [hN]; exact Nat.mul_le_mul hR hC7
  have lt0 : ∀ j, j < N → G < w.heap.size := fun j hj => World.block_lt_of_cell? _ _ (HZ.out j hj)
  obtain ⟨i0, hi, hz0, hz1, hz2⟩ := info_parts Try.infoInt
  obtain ⟨i1, hi', hz0', hz1', hz2'⟩ := info_parts Try.infoIntS
  obtain ⟨Bx, hBx⟩ : ∃ Bx, Bx = w.heap.size := ⟨_, rfl⟩
  have HBx := Lib.hid hBx
  clear hcc hr hN hzl hBx
  go_enter Try.func54, Try.ntmps54
  go_wp2_with (at_make; refine wpList_make_full _ rfl _ _ 22 rfl (w.heap.size + 1) 24 i1 (.slice none 0 0) 1 Try.underlying22 hi' hz0' hz1' .i64 .i64 _ _ Rn rfl rfl rfl rfl (by rw [hz2']; omega) (by unfold maxLen; omega) (by simp) ?_; intro w1 hown hgrow; (have FB := (FldAt.new w Rn C (.slice (some ⟨G, 0, none⟩) N N)).grown hgrow (by simp)); (have BB := (Below.alloc (Below.refl w.heap.size w) (Nat.le_refl _) (.cells #[.int .i64 Rn, .int .i64 C, .slice (some ⟨G, 0, none⟩) N N] 47)).grown hgrow (by simp) (fun k e => by cases e)); (obtain ⟨f0, f1, f2, f3⟩ := FB.cells); (have HFB := Lib.hid FB); (have HBB := Lib.hid BB); (have HOw := Lib.hid hown); (have hM := (hown.lt _ rfl).2); clear hgrow FB BB hown)
  rw [show (w.alloc (.cells #[.int .i64 Rn, .int .i64 C, .slice (some ⟨G, 0, none⟩) N N] 47)).heap.size = w.heap.size + 1 by simp] at HOw hM
  obtain ⟨M, hMe⟩ : ∃ M, M = w.heap.size + 1 := ⟨_, rfl⟩
  have HMe := Lib.hid hMe
  have HSt := Lib.hid (FillM.start (g := listsL zs Rn C) hM HOw.out)
  clear f0 f1 f2 f3 HOw hM hMe
  go_loopw [10] (fun i wr => ∃ r : Nat, r ≤ Rn ∧ i = .int .i64 r ∧ FillM wr (w.heap.size + 1) (.slice (some ⟨w.heap.size + 1, 0, none⟩) Rn Rn) Rn r (listsL zs Rn C) ∧ FldAt w.heap.size Rn C (.slice (some ⟨G, 0, none⟩) N N) wr ∧ Below w.heap.size w wr) (fun i _ => Rn - (intOf i).toNat)
  case atStart => exact ⟨0, Nat.zero_le _, rfl, HSt.out, HFB.out, HBB.out⟩
  case round =>
    clear HSt HFB HBB
    obtain ⟨r, hr, rfl, hfm, hfb, hbb⟩ := hrel
    have HFM := Lib.hid hfm; clear hfm
    have HFB := Lib.hid hfb; clear hfb
    have HBB := Lib.hid hbb; clear hbb
    by_cases hlt : r < Rn
    · obtain ⟨f0, f1, f2, f3⟩ := HFB.out.cells
      have hsz := HFM.out.size0
      go_wp2_with (at_make; refine wpList_make_full _ rfl _ _ 24 rfl wr.heap.size 3 i0 (.int .i64 0) 1 Try.underlying24 hi hz0 hz1 .i64 .i64 _ _ C rfl rfl rfl rfl (by rw [hz2]; omega) (by unfold maxLen; omega) (Nat.le_refl _) ?_; intro w2 hown hgrow; (have hb2 := below_of_grown hgrow (Nat.le_refl _) (fun k e => by cases e)); (obtain ⟨⟨uo, hold⟩, hfr⟩ := (HFM.out.below hb2).cell r hlt); (have HO2 := Lib.hid (Own.made hown)); (have HB2 := Lib.hid hb2); clear hb2 hown hgrow f0 f1 f2 f3)
      obtain ⟨W, hW⟩ : ∃ W, W = w2.setCell ⟨w.heap.size + 1, r, none⟩ (.slice (some ⟨wr.heap.size, 0, none⟩) C C) := ⟨_, rfl⟩
      rw [← hW]
      obtain ⟨gs, hgs⟩ : ∃ gs, gs = wr.heap.size := ⟨_, rfl⟩
      have hgM : w.heap.size + 1 < gs := by rw [hgs]; exact hsz
      have HFW := Lib.hid (show FillM W (w.heap.size + 1) (.slice (some ⟨w.heap.size + 1, 0, none⟩) Rn Rn) Rn (r + 1) ((listsL zs Rn C).set r (List.replicate C 0)) from by
        rw [hW]
        refine (HFM.out.congr (fun i hi => ?_)).step hlt HB2.out ?_
        · simp [List.getD_eq_getElem?_getD, show r ≠ i by omega]
        · rw [show ((listsL zs Rn C).set r (List.replicate C 0)).getD r [] = List.replicate C 0 by simp [List.getD_eq_getElem?_getD, lists_len, hlt]]
          exact HO2.out)
      have HOW := Lib.hid (show Own W (w.heap.size + 1) (.slice (some ⟨gs, 0, none⟩) C C) (List.replicate C 0) from by
        rw [hW, hgs]
        exact (HO2.out.mono (Nat.le_of_lt hsz)).setOther (fun k hk => by simp only [Value.ownBlock, Option.some.injEq] at hk; omega) _ _)
      have HFb := Lib.hid (show FldAt w.heap.size Rn C (.slice (some ⟨G, 0, none⟩) N N) W from by
        rw [hW]
        exact (HFB.out.below HB2.out).other (by omega) _ _)
      have HBW := Lib.hid (show Below w.heap.size w W from by
        rw [hW]
        exact (HBB.out.trans (HB2.out.mono HBB.out.size)).setCell (p := ⟨w.heap.size + 1, r, none⟩) (by simp) _)
      have s0 : W.cell? ⟨w.heap.size + 1, r, none⟩ = some (.slice (some ⟨gs, 0, none⟩) C C) := by
        rw [hW, hgs]
        exact cell_set hold _
      rw [← hgs]
      obtain ⟨P, hP⟩ : ∃ P, P = r * C := ⟨_, rfl⟩
      have hPN : P + C ≤ N := by
        have h := Nat.mul_le_mul_right C (show r + 1 ≤ Rn by omega)
        rw [Nat.add_mul, ← hP] at h
        rw [HN.out]; omega
      have t1 : (r : Int) * (C : Int) = (P : Int) := by rw [hP]; simp
      have t2 : ((r : Int) + 1) * (C : Int) = ((P + C : Nat) : Int) := by rw [hP]; simp [Int.add_mul]
      have t3 : IntKind.i64.wrap (P : Int) = (P : Int) := IntWalk.i64_in _ (by omega)
      have t4 : IntKind.i64.wrap ((P + C : Nat) : Int) = ((P + C : Nat) : Int) := IntWalk.i64_in _ (by omega)
      have t5 : IntKind.i64.wrap ((r : Int) + 1) = (r : Int) + 1 := IntWalk.i64_in _ (by omega)
      have HP := Lib.hid hP
      obtain ⟨P2, hP2⟩ : ∃ P2, P2 = P + C := ⟨_, rfl⟩
      rw [← hP2] at t2 t4
      have HP2 := Lib.hid hP2
      have j1 : (0 : Int) ≤ (P : Int) := by omega
      have j2 : (P : Int) ≤ (P2 : Int) := by omega
      have j3 : (P2 : Int) ≤ (N : Int) := by omega
      have j4 : (P : Int) < (N : Int) := by omega
      have j5 : P2 - P = C := by omega
      have j6 : P < N := by omega
      have j7 : P ≤ P2 := by omega
      have j8 : P2 ≤ N := by omega
      have j9 : ¬ N = P := by omega
      have i1 : (0 : Int) ≤ (r : Int) := by omega
      have i2 : (r : Int) < (Rn : Int) := by omega
      have HCs := Lib.hid (show ∀ j, j < C → W.cell? ⟨G, P + j, none⟩ = some (.int .i64 (((listsL zs Rn C).getD r []).getD j 0)) from fun j hj => by
        have q := (HBW.out.cell (p := ⟨G, 0 + (P + j), none⟩) (lt0 (P + j) (by omega))).trans (HZ.out (P + j) (by omega))
        rw [Nat.zero_add] at q
        rw [q, lists_row zs hlt, ← HP.out.symm]
        simp [hj])
      have hlr : ((listsL zs Rn C).getD r []).length = C := by rw [lists_row zs hlt]; simp
      have HLr := Lib.hid hlr
      obtain ⟨-, f1, f2, f3⟩ := HFb.out.cells
      clear hW HFM HFB HBB HO2 HB2 hold hfr hgs hP hP2 hlr hsz
      refine wp_region_held_drew (S := fun wx => wx.cell? ⟨w.heap.size + 1, r, none⟩ = some (.slice (some ⟨gs, 0, none⟩) C C) ∧ wx.cell? ⟨w.heap.size, 1, none⟩ = some (.int .i64 C) ∧ wx.cell? ⟨w.heap.size, 2, none⟩ = some (.slice (some ⟨G, 0, none⟩) N N)) (by kernel_rfl) (⟨s0, f2, f3⟩) (fun hHeld => ?_)
      refine wpAnyH_take (i := 0) (oi := { dst := some 19, op := _, type := _, pos := _, after := _, guard := _ }) (v := ?_) rfl (by kernel_rfl) (by kernel_rfl) (by kernel_rfl) (fun _ _ _ h => h) (Or.inl ⟨by rfl, ?_⟩) (by assumption) ?_
      case refine_2 => ((intro w hSw; (try dsimp only at hSw); go_simp); try with_reducible rfl)
      try simp only [Act.put, List.setIfInBounds_toArray, List.set_cons_zero, List.set_cons_succ]
      refine wpAnyH_take (i := 1) (oi := { dst := some 20, op := _, type := _, pos := _, after := _, guard := _ }) (v := ?_) rfl (by kernel_rfl) (by kernel_rfl) (by kernel_rfl) (fun _ _ _ h => h) (Or.inl ⟨by rfl, ?_⟩) (by assumption) ?_
      case refine_2 => ((intro w hSw; (try dsimp only at hSw); go_simp); try with_reducible rfl)
      try simp only [Act.put, List.setIfInBounds_toArray, List.set_cons_zero, List.set_cons_succ]
      refine wpAnyH_take (i := 2) (oi := { dst := some 21, op := _, type := _, pos := _, after := _, guard := _ }) (v := ?_) rfl (by kernel_rfl) (by kernel_rfl) (by kernel_rfl) (fun _ _ _ h => h) (Or.inl ⟨by rfl, ?_⟩) (by assumption) ?_
      case refine_2 => ((intro w hSw; (try dsimp only at hSw); go_simp); try with_reducible rfl)
      try simp only [Act.put, List.setIfInBounds_toArray, List.set_cons_zero, List.set_cons_succ]
      refine wpAnyH_take (i := 3) (oi := { dst := some 22, op := _, type := _, pos := _, after := _, guard := _ }) (v := ?_) rfl (by kernel_rfl) (by kernel_rfl) (by kernel_rfl) (fun _ _ _ h => h) (Or.inl ⟨by rfl, ?_⟩) (by assumption) ?_
      case refine_2 => ((intro w hSw; (try dsimp only at hSw); go_simp); try with_reducible rfl)
      try simp only [Act.put, List.setIfInBounds_toArray, List.set_cons_zero, List.set_cons_succ]
      refine wpAnyH_take (i := 4) (oi := { dst := some 23, op := _, type := _, pos := _, after := _, guard := _ }) (v := ?_) rfl (by kernel_rfl) (by kernel_rfl) (by kernel_rfl) (fun _ _ _ h => h) (Or.inl ⟨by rfl, ?_⟩) (by assumption) ?_
      case refine_2 => ((intro w hSw; (try dsimp only at hSw); go_simp); try with_reducible rfl)
      try simp only [Act.put, List.setIfInBounds_toArray, List.set_cons_zero, List.set_cons_succ]
      refine wpAnyH_take (i := 5) (oi := { dst := some 24, op := _, type := _, pos := _, after := _, guard := _ }) (v := ?_) rfl (by kernel_rfl) (by kernel_rfl) (by kernel_rfl) (fun _ _ _ h => h) (Or.inl ⟨by rfl, ?_⟩) (by assumption) ?_
      case refine_2 => ((intro w hSw; (try dsimp only at hSw); go_simp); try with_reducible rfl)
      try simp only [Act.put, List.setIfInBounds_toArray, List.set_cons_zero, List.set_cons_succ]
      refine wpAnyH_take (i := 6) (oi := { dst := some 25, op := _, type := _, pos := _, after := _, guard := _ }) (v := ?_) rfl (by kernel_rfl) (by kernel_rfl) (by kernel_rfl) (fun _ _ _ h => h) (Or.inl ⟨by rfl, ?_⟩) (by assumption) ?_
      case refine_2 => ((intro w hSw; (try dsimp only at hSw); go_simp); try with_reducible rfl)
      try simp only [Act.put, List.setIfInBounds_toArray, List.set_cons_zero, List.set_cons_succ]
      refine wpAnyH_take (i := 7) (oi := { dst := some 26, op := _, type := _, pos := _, after := _, guard := _ }) (v := ?_) rfl (by kernel_rfl) (by kernel_rfl) (by kernel_rfl) (fun _ _ _ h => h) (Or.inl ⟨by rfl, ?_⟩) (by assumption) ?_
      case refine_2 => ((intro w hSw; (try dsimp only at hSw); go_simp); try with_reducible rfl)
      try simp only [Act.put, List.setIfInBounds_toArray, List.set_cons_zero, List.set_cons_succ]
      refine wpAnyH_take (i := 8) (oi := { dst := some 27, op := _, type := _, pos := _, after := _, guard := _ }) (v := ?_) rfl (by kernel_rfl) (by kernel_rfl) (by kernel_rfl) (fun _ _ _ h => h) (Or.inl ⟨by rfl, ?_⟩) (by assumption) ?_
      case refine_2 => ((intro w hSw; (try dsimp only at hSw); go_simp); try with_reducible rfl)
      try simp only [Act.put, List.setIfInBounds_toArray, List.set_cons_zero, List.set_cons_succ]
      refine wpAnyH_take (i := 9) (oi := { dst := some 28, op := _, type := _, pos := _, after := _, guard := _ }) (v := ?_) rfl (by kernel_rfl) (by kernel_rfl) (by kernel_rfl) (fun _ _ _ h => h) (Or.inl ⟨by rfl, ?_⟩) (by assumption) ?_
      case refine_2 => ((intro w hSw; (try dsimp only at hSw); go_simp); try with_reducible rfl)
      try simp only [Act.put, List.setIfInBounds_toArray, List.set_cons_zero, List.set_cons_succ]
      refine wpAnyH_take (i := 10) (oi := { dst := some 29, op := _, type := _, pos := _, after := _, guard := _ }) (v := ?_) rfl (by kernel_rfl) (by kernel_rfl) (by kernel_rfl) (fun _ _ _ h => h) (Or.inl ⟨by rfl, ?_⟩) (by assumption) ?_
      case refine_2 => ((intro w hSw; (try dsimp only at hSw); go_simp); try with_reducible rfl)
      try simp only [Act.put, List.setIfInBounds_toArray, List.set_cons_zero, List.set_cons_succ]
      refine wpAnyH_take (i := 11) (oi := { dst := some 30, op := _, type := _, pos := _, after := _, guard := _ }) (v := ?_) rfl (by kernel_rfl) (by kernel_rfl) (by kernel_rfl) (fun _ _ _ h => h) (Or.inl ⟨by rfl, ?_⟩) (by assumption) ?_
      case refine_2 => ((intro w hSw; (try dsimp only at hSw); go_simp); try with_reducible rfl)
      try simp only [Act.put, List.setIfInBounds_toArray, List.set_cons_zero, List.set_cons_succ]
      refine wpAnyH_take (i := 12) (oi := { dst := some 31, op := _, type := _, pos := _, after := _, guard := _ }) (v := ?_) rfl (by kernel_rfl) (by kernel_rfl) (by kernel_rfl) (fun _ _ _ h => h) (Or.inl ⟨by rfl, ?_⟩) (by assumption) ?_
      case refine_2 => ((intro w hSw; (try dsimp only at hSw); go_simp); try with_reducible rfl)
      try simp only [Act.put, List.setIfInBounds_toArray, List.set_cons_zero, List.set_cons_succ]
      refine wpAnyH_take (i := 13) (oi := { dst := some 32, op := _, type := _, pos := _, after := _, guard := _ }) (v := ?_) rfl (by kernel_rfl) (by kernel_rfl) (by kernel_rfl) (fun _ _ _ h => h) (Or.inl ⟨by rfl, ?_⟩) (by assumption) ?_
      case refine_2 => ((intro w hSw; (try dsimp only at hSw); go_simp); try with_reducible rfl)
      try simp only [Act.put, List.setIfInBounds_toArray, List.set_cons_zero, List.set_cons_succ]
      refine wpAnyH_take (i := 14) (oi := { dst := some 33, op := _, type := _, pos := _, after := _, guard := _ }) (v := ?_) rfl (by kernel_rfl) (by kernel_rfl) (by kernel_rfl) (fun _ _ _ h => h) (Or.inl ⟨by rfl, ?_⟩) (by assumption) ?_
      case refine_2 => ((intro w hSw; (try dsimp only at hSw); go_simp); try with_reducible rfl)
      try simp only [Act.put, List.setIfInBounds_toArray, List.set_cons_zero, List.set_cons_succ]
      refine wpAnyH_take (i := 15) (oi := { dst := some 34, op := _, type := _, pos := _, after := _, guard := _ }) (v := ?_) rfl (by kernel_rfl) (by kernel_rfl) (by kernel_rfl) (fun _ _ _ h => h) (Or.inl ⟨by rfl, ?_⟩) (by assumption) ?_
      case refine_2 => ((intro w hSw; (try dsimp only at hSw); go_simp); try with_reducible rfl)
      try simp only [Act.put, List.setIfInBounds_toArray, List.set_cons_zero, List.set_cons_succ]
      refine wpAnyH_ready (rs := [16]) (by kernel_rfl) (by simp) ?_
      refine AllReadyH.cons (o := { dst := some 35, op := _, type := _, pos := _, after := _, guard := _ }) rfl (fun K hK => ?_) AllReadyH.nil
      refine copy_step (by rfl) _ _ (by rfl) (w.heap.size + 1) gs G P C (N - P) _ ((listsL zs Rn C).getD r []) (by rfl) (by rfl) (HOW.out.drewN 1) HLr.out HCs.out ?_
      intro w9 ho9 hg9
      have HFF := Lib.hid ((show FillM (W.drewN 1) (w.heap.size + 1) _ Rn (r + 1) _ from HFW.out.drewN 1).swap hlt s0 hg9 ho9 (fun i hi => by simp [List.getD_eq_getElem?_getD, show r ≠ i by omega]))
      have s9 : w9.cell? ⟨w.heap.size + 1, r, none⟩ = some (.slice (some ⟨gs, 0, none⟩) C C) := by rw [← s0]; simp only [World.cell?]; rw [hg9.block _ (World.block_lt_of_cell? _ _ s0) (by simp; omega)]; rfl
      have HFb9 := Lib.hid (show FldAt w.heap.size Rn C (.slice (some ⟨G, 0, none⟩) N N) w9 from FldAt.grown (wr := W.drewN 1) HFb.out hg9 (by simp; omega))
      have HB9 := Lib.hid ((below_drewN HBW.out 1).trans (below_of_grown hg9 HBW.out.size (fun k e => by simp at e; omega)))
      have h9 := HFb9.out.cells
      clear ho9 hg9
      refine hK.out _ _ (⟨s9, h9.2.2⟩) (fun hHeld => ?_)
      clear hK K
      try simp only [Act.put, List.setIfInBounds_toArray, List.set_cons_zero, List.set_cons_succ]
      refine wpAnyH_done (by kernel_rfl) ?_ _
      clear hHeld
      clear h9 s9 t1 t2 t3 t4 t5 j1 j2 j3 j4 j5 j6 j7 j8 j9 i1 i2 s0 f1 f2 f3
      go_wp2
      go_roundw
      case rel => exact ⟨r + 1, by omega, by go_num, HFF.out, HFb9.out, HB9.out⟩
      case measure => simp [intOf]; omega
    · have hke : r = Rn := by omega
      have HFR := Lib.hid (show FillM wr (w.heap.size + 1) (.slice (some ⟨w.heap.size + 1, 0, none⟩) Rn Rn) Rn Rn (listsL zs Rn C) from by have q := HFM.out; rw [hke] at q; exact q)
      have HLn := Lib.hid (lists_len zs Rn C)
      clear hke
      go_wp2
      go_ret
      refine ⟨_, _, rfl, ?_, HBB.out⟩
      have q : OwnM wr (w.heap.size + 1) (.slice (some ⟨w.heap.size + 1, 0, none⟩) Rn Rn) (listsL zs Rn C) := by
        unfold OwnM
        rw [HLn.out]
        exact HFR.out
      exact q.mrow


end Go.Proofs.Ytjpcbegndnbeeaa
