/- Contract: take of the program's pile. -/
import Derived.Test.YtkhhloeemecokaaPut
namespace Go.Proofs.Ytkhhloeemecokaa
open Go.RowKit
set_option linter.unusedVariables false

theorem resultsT_cell1 {fn : Func} {p : Tmp} {ty : TypeId} (h : fn.results = #[.cell p ty]) (tmps : Array Value) (P : Program) (w : World) :
    (results fn tmps).run P w = ((asAddr (tmps.getD p undef)).run P w).andThen fun a w₁ => (loadVar ty a).run P w₁ := by
  simp only [results, h]
  simp [Sem.run_bind, Result.andThen]
theorem OwnP.cut {w : World} {B g n cap : Nat} {L : List (Int × Int)} (h : OwnP w B (.slice (some ⟨g, 0, none⟩) n cap) L) (m : Nat) (hm : m ≤ n) : OwnP w B (.slice (some ⟨g, 0, none⟩) m cap) (L.take m) := by
  obtain rfl := h.len
  have hl : (L.take m).length = m := by rw [List.length_take]; omega
  unfold OwnP
  rw [hl]
  rcases h.2 with ⟨hv, hn⟩ | ⟨g', cap', cur, hv, hb, hg, hc, hmx, hs, ht⟩
  · simp at hv
  · simp only [Value.slice.injEq, Option.some.injEq, Addr.mk.injEq] at hv
    obtain ⟨⟨rfl, -, -⟩, -, rfl⟩ := hv
    refine ⟨by rw [cellsL_len, hl], .inr ⟨g, cap, cur, rfl, hb, hg, by omega, hmx, hs, ?_⟩⟩
    rw [← cellsL_take, ← ht, List.take_take, Nat.min_eq_left (by omega)]
/-- The result's block and the block of the local. -/
def Two (b : Nat) (c p : Int) (w : World) : Prop := w.heap[b]? = some (.cells #[.int .i64 0, .int .i64 0] 71 (0, 0)) ∧ w.heap[b + 1]? = some (.cells #[.int .i64 c, .int .i64 p] 71 (0, 0))
theorem Two.lt {b : Nat} {c p : Int} {w : World} (h : Two b c p w) : b + 1 < w.heap.size := (Array.getElem?_eq_some_iff.1 h.2).1
theorem Two.grown {b : Nat} {c p : Int} {w w' : World} {r : Option Nat} (h : Two b c p w) (hg : w.grownBy w' r) (h1 : some b ≠ r) (h2 : some (b + 1) ≠ r) : Two b c p w' :=
  ⟨(hg.block b (by have := h.lt; omega) h1).trans h.1, (hg.block (b + 1) h.lt h2).trans h.2⟩
theorem Two.facts {b : Nat} {c p : Int} {w : World} (h : Two b c p w) : w.cell? ⟨b + 1, 0, none⟩ = some (.int .i64 c) ∧ w.cell? ⟨b + 1, 1, none⟩ = some (.int .i64 p) ∧ w.cell? ⟨b, 0, none⟩ = some (.int .i64 0) ∧ w.frozen? ⟨b, 0, none⟩ = false ∧
    (w.setCell ⟨b, 0, none⟩ (.int .i64 c)).cell? ⟨b, 1, none⟩ = some (.int .i64 0) ∧ (w.setCell ⟨b, 0, none⟩ (.int .i64 c)).frozen? ⟨b, 1, none⟩ = false ∧
    ((w.setCell ⟨b, 0, none⟩ (.int .i64 c)).setCell ⟨b, 1, none⟩ (.int .i64 p)).heap[b]? = some (.cells #[.int .i64 c, .int .i64 p] 71 (0, 0)) := by
  obtain ⟨h0, h1⟩ := h
  have e0 : (w.setCell ⟨b, 0, none⟩ (.int .i64 c)).heap[b]? = some (.cells #[.int .i64 c, .int .i64 0] 71 (0, 0)) := by rw [heap_setCell_same w b 0 _ _ _ h0]; rfl
  refine ⟨by rw [cell_of_row _ (b + 1) 0 _ _ (0, 0) h1]; rfl, by rw [cell_of_row _ (b + 1) 1 _ _ (0, 0) h1]; rfl, by rw [cell_of_row _ b 0 _ _ (0, 0) h0]; rfl, by simp [World.frozen?, h0], by rw [cell_of_row _ b 1 _ _ (0, 0) e0]; rfl, by simp [World.frozen?, e0], ?_⟩
  rw [heap_setCell_same _ b 1 _ _ _ e0]; rfl
theorem Two.below {b : Nat} {c p : Int} {w w' : World} (h : Two b c p w) (hb : Below w.heap.size w w') : Two b c p w' :=
  ⟨(hb.block b (by have := h.lt; omega)).trans h.1, (hb.block (b + 1) h.lt).trans h.2⟩
theorem PileAt.kept {Bp B : Nat} {v : Value} {L : List (Int × Int)} {w w' : World} {g : Nat} (h : PileAt Bp B v L w) (hg : w.grownBy w' (some g)) (h1 : Bp ≠ g) (h2 : v.ownBlock ≠ some g) : PileAt Bp B v L w' :=
  ⟨(hg.block Bp h.cells.1 (by simp; exact h1)).trans h.1, World.ownsRow.kept h.2 hg (.inr h2)⟩
/-- The best of an item and of those below it that were looked at. -/
def BestD (L : List (Int × Int)) (i b d m : Nat) : Prop := (b = i ∨ (0 < b ∧ b < m ∧ (b - 1) / 2 = i ∧ pa L i < pa L b)) ∧ ∀ j, 0 < j → j < 2 * i + 1 + d → j < m → (j - 1) / 2 = i → pa L j ≤ pa L b
theorem BestD.start (L : List (Int × Int)) (i m : Nat) : BestD L i i 0 m := ⟨.inl rfl, fun j h1 h2 h3 h4 => by omega⟩
theorem BestD.next {L : List (Int × Int)} {i b d m : Nat} (h : BestD L i b d m) (hd : d < 2) (hm : 2 * i + 1 + d < m) (hlt : pa L b < pa L (2 * i + 1 + d)) : BestD L i (2 * i + 1 + d) (d + 1) m := by
  refine ⟨.inr ⟨by omega, hm, by omega, ?_⟩, fun j h1 h2 h3 h4 => ?_⟩
  · rcases h.1 with e | e
    · subst e; exact hlt
    · omega
  · by_cases e : j = 2 * i + 1 + d
    · rw [e]; exact Int.le_refl _
    · have := h.2 j h1 (by omega) h3 h4
      omega
theorem BestD.skip {L : List (Int × Int)} {i b d m : Nat} (h : BestD L i b d m) (hlt : ¬ pa L b < pa L (2 * i + 1 + d)) : BestD L i b (d + 1) m := by
  refine ⟨h.1, fun j h1 h2 h3 h4 => ?_⟩
  by_cases e : j = 2 * i + 1 + d
  · rw [e]; omega
  · exact h.2 j h1 (by omega) h3 h4
theorem BestD.all {L : List (Int × Int)} {i b d m : Nat} (h : BestD L i b d m) (hd : d = 2 ∨ ¬ 2 * i + 1 + d < m) : ∀ j, 0 < j → j < m → (j - 1) / 2 = i → pa L j ≤ pa L b := by
  intro j h1 h2 h3
  exact h.2 j h1 (by omega) h2 h3
/-- What take gives. -/
def GivesTake (Bp B : Nat) (v : Value) (L : List (Int × Int)) (w : World) (e : Ending) (w' : World) : Prop :=
  ∃ v' L', e = .returned (.agg #[.int .i64 (at2 L 0).1, .int .i64 (at2 L 0).2]) ∧ PileAt Bp B v' L' w' ∧ Heap L' ∧ (at2 L 0 :: L').Perm L ∧ v'.ownBlock = v.ownBlock ∧ KeepP w w' Bp v.ownBlock

set_option maxRecDepth 4000 in
set_option maxHeartbeats 4000000 in
theorem take_any (Bp B : Nat) (v : Value) (L : List (Int × Int)) (w : World) (hp : PileAt Bp B v L w) (hh : Heap L) (hB : B ≤ w.heap.size) (hn0 : 0 < L.length) (hl : L.length ≤ 1000000) :
    Calls Try.prog 69 #[.pointer (some ⟨Bp, 0, none⟩)] w (GivesTake Bp B v L w) := by
  obtain ⟨g, c2, rfl, hg0, hg1, hg2⟩ := hp.2.form hn0
  obtain ⟨m, hm⟩ : ∃ m, L.length = m + 1 := ⟨L.length - 1, by omega⟩
  rw [hm] at hp hl hg2 hn0 ⊢
  have hgB : g ≠ Bp := fun e => hp.ne (by rw [e]; rfl)
  obtain ⟨fi, hfi⟩ : ∃ x, x = (at2 L 0).1 := ⟨_, rfl⟩
  obtain ⟨fp, hfp⟩ : ∃ x, x = (at2 L 0).2 := ⟨_, rfl⟩
  have hb0 := Below.alloc (Below.refl w.heap.size w) (Nat.le_refl _) (.cells #[.int .i64 0, .int .i64 0] 71)
  have HP0 := Lib.hid (hp.below hb0)
  have HK0 := Lib.hid ((KeepP.refl w Bp (some g)).below hb0)
  have HM := Lib.hid hm
  have HH := Lib.hid hh
  have HFi := Lib.hid hfi
  have HFp := Lib.hid hfp
  obtain ⟨q0, q1, q2, q3, q4⟩ := hp.cells
  obtain ⟨i1, i2, i3, i4⟩ := hp.2.cells 0 (by omega)
  rw [← hfi] at i1
  rw [← hfp] at i2
  simp only [Nat.zero_mul, Nat.zero_add] at i1 i2 i3 i4
  have HP := Lib.hid hp
  have hBpw := q0
  have HKr := Lib.hid (KeepP.refl w Bp (some g))
  clear hp hm hh hfi hfp hb0 hn0
  have d0 : (0 : Int) < (m : Int) + 1 := by omega
  go_enter Try.func69, Try.ntmps69
  go_wp2
  obtain ⟨W, hW⟩ : ∃ W, W = (w.alloc (.cells #[.int .i64 0, .int .i64 0] 71)).alloc (.cells #[.int .i64 fi, .int .i64 fp] 71) := ⟨_, rfl⟩
  have hb2 : Below w.heap.size w W := by rw [hW]; exact Below.alloc (Below.alloc (Below.refl w.heap.size w) (Nat.le_refl _) _) (by simp) _
  have hr : Two w.heap.size fi fp W := by rw [hW]; exact ⟨by rw [heap_alloc_old _ _ (by simp)]; exact heap_alloc_new w _, by have := heap_alloc_new (w.alloc (.cells #[.int .i64 0, .int .i64 0] 71)) (.cells #[.int .i64 fi, .int .i64 fp] 71); simpa using this⟩
  rw [← hW]
  clear hW
  have HP1 := Lib.hid (HP.out.below hb2)
  have HK1 := Lib.hid ((KeepP.refl w Bp (some g)).below hb2)
  have HR1 := Lib.hid hr
  clear HP HP0 HK0 HKr hb2 hr q0 q1 q2 q3 q4 i1 i2 i3 i4 d0
  obtain ⟨q0, q1, q2, q3, q4⟩ := HP1.out.cells
  obtain ⟨i1, i2, -, -⟩ := HP1.out.2.cells m (by omega)
  obtain ⟨j1, j2, j3, j4⟩ := HP1.out.2.cells 0 (by omega)
  simp only [Nat.zero_mul, Nat.zero_add] at j1 j2 j3 j4
  obtain ⟨k1, k2⟩ := HP1.out.2.half 0 (by omega) (.int .i64 (at2 L m).1)
  simp only [Nat.zero_mul, Nat.zero_add] at k1 k2
  have d1 : (0 : Int) < (m : Int) + 1 := by omega
  have d2 : (m : Int) < (m : Int) + 1 := by omega
  obtain ⟨ci, hci⟩ : ∃ x, x = (at2 L m).1 := ⟨_, rfl⟩
  obtain ⟨pi, hpi⟩ : ∃ x, x = (at2 L m).2 := ⟨_, rfl⟩
  rw [← hci] at i1 k1 k2
  rw [← hpi] at i2
  have HCi := Lib.hid hci
  have HPi := Lib.hid hpi
  clear hci hpi
  refine wp_region_held_drew (S := fun wx => wx.cell? ⟨Bp, 1, none⟩ = some (.slice (some ⟨g, 0, none⟩) (m + 1) c2)) (by kernel_rfl) (q2) (fun hHeld => ?_)
  refine wpAnyH_take (i := 0) (oi := { dst := some 20, op := _, type := _, pos := _, after := _, guard := _ }) (v := ?_) rfl (by kernel_rfl) (by kernel_rfl) (by kernel_rfl) (fun _ _ _ h => h) (Or.inl ⟨by rfl, ?_⟩) (by assumption) ?_
  case refine_2 => ((intro w hSw; (try dsimp only at hSw); go_simp); try with_reducible rfl)
  try simp only [Act.put, List.setIfInBounds_toArray, List.set_cons_zero, List.set_cons_succ]
  refine wpAnyH_take (i := 1) (oi := { dst := some 21, op := _, type := _, pos := _, after := _, guard := _ }) (v := ?_) rfl (by kernel_rfl) (by kernel_rfl) (by kernel_rfl) (fun _ _ _ h => h) (Or.inl ⟨by rfl, ?_⟩) (by assumption) ?_
  case refine_2 => ((intro w hSw; (try dsimp only at hSw); go_simp); try with_reducible rfl)
  try simp only [Act.put, List.setIfInBounds_toArray, List.set_cons_zero, List.set_cons_succ]
  refine wpAnyH_take (i := 2) (oi := { dst := some 22, op := _, type := _, pos := _, after := _, guard := _ }) (v := ?_) rfl (by kernel_rfl) (by kernel_rfl) (by kernel_rfl) (fun _ _ _ h => h) (Or.inl ⟨by rfl, ?_⟩) (by assumption) ?_
  case refine_2 => ((intro w hSw; (try dsimp only at hSw); go_simp); try with_reducible rfl)
  try simp only [Act.put, List.setIfInBounds_toArray, List.set_cons_zero, List.set_cons_succ]
  refine wpAnyH_take (i := 3) (oi := { dst := some 23, op := _, type := _, pos := _, after := _, guard := _ }) (v := ?_) rfl (by kernel_rfl) (by kernel_rfl) (by kernel_rfl) (fun _ _ _ h => h) (Or.inl ⟨by rfl, ?_⟩) (by assumption) ?_
  case refine_2 => ((intro w hSw; (try dsimp only at hSw); go_simp); try with_reducible rfl)
  try simp only [Act.put, List.setIfInBounds_toArray, List.set_cons_zero, List.set_cons_succ]
  refine wpAnyH_take (i := 4) (oi := { dst := some 24, op := _, type := _, pos := _, after := _, guard := _ }) (v := ?_) rfl (by kernel_rfl) (by kernel_rfl) (by kernel_rfl) (fun _ _ _ h => h) (Or.inl ⟨by rfl, ?_⟩) (by assumption) ?_
  case refine_2 => ((intro w hSw; (try dsimp only at hSw); go_simp); try with_reducible rfl)
  try simp only [Act.put, List.setIfInBounds_toArray, List.set_cons_zero, List.set_cons_succ]
  refine wpAnyH_take (i := 5) (oi := { dst := some 25, op := _, type := _, pos := _, after := _, guard := _ }) (v := ?_) rfl (by kernel_rfl) (by kernel_rfl) (by kernel_rfl) (fun _ _ _ h => h) (Or.inl ⟨by rfl, ?_⟩) (by assumption) ?_
  case refine_2 => ((intro w hSw; (try dsimp only at hSw); go_simp); try with_reducible rfl)
  try simp only [Act.put, List.setIfInBounds_toArray, List.set_cons_zero, List.set_cons_succ]
  refine wpAnyH_take (i := 6) (oi := { dst := some 26, op := _, type := _, pos := _, after := _, guard := _ }) (v := ?_) rfl (by kernel_rfl) (by kernel_rfl) (by kernel_rfl) (fun _ _ _ h => h) (Or.inl ⟨by rfl, ?_⟩) (by assumption) ?_
  case refine_2 => ((intro w hSw; (try dsimp only at hSw); go_simp); try with_reducible rfl)
  try simp only [Act.put, List.setIfInBounds_toArray, List.set_cons_zero, List.set_cons_succ]
  refine wpAnyH_take (i := 7) (oi := { dst := some 27, op := _, type := _, pos := _, after := _, guard := _ }) (v := ?_) rfl (by kernel_rfl) (by kernel_rfl) (by kernel_rfl) (fun _ _ _ h => h) (Or.inl ⟨by rfl, ?_⟩) (by assumption) ?_
  case refine_2 => ((intro w hSw; (try dsimp only at hSw); go_simp); try with_reducible rfl)
  try simp only [Act.put, List.setIfInBounds_toArray, List.set_cons_zero, List.set_cons_succ]
  refine wpAnyH_take (i := 8) (oi := { dst := some 28, op := _, type := _, pos := _, after := _, guard := _ }) (v := ?_) rfl (by kernel_rfl) (by kernel_rfl) (by kernel_rfl) (fun _ _ _ h => h) (Or.inl ⟨by rfl, ?_⟩) (by assumption) ?_
  case refine_2 => ((intro w hSw; (try dsimp only at hSw); go_simp); try with_reducible rfl)
  try simp only [Act.put, List.setIfInBounds_toArray, List.set_cons_zero, List.set_cons_succ]
  refine wpAnyH_take (i := 9) (oi := { dst := some 29, op := _, type := _, pos := _, after := _, guard := _ }) (v := ?_) rfl (by kernel_rfl) (by kernel_rfl) (by kernel_rfl) (fun _ _ _ h => h) (Or.inl ⟨by rfl, ?_⟩) (by assumption) ?_
  case refine_2 => ((intro w hSw; (try dsimp only at hSw); go_simp); try with_reducible rfl)
  try simp only [Act.put, List.setIfInBounds_toArray, List.set_cons_zero, List.set_cons_succ]
  refine wpAnyH_ready (rs := [10]) (by kernel_rfl) (by simp) ?_
  refine AllReadyH.cons (o := { dst := some 30, op := _, type := _, pos := _, after := _, guard := _ }) rfl (fun K hK => ?_) AllReadyH.nil
  go_simp
  refine hK.out _ _ (q2) (fun hHeld => ?_)
  clear hK K
  try simp only [Act.put, List.setIfInBounds_toArray, List.set_cons_zero, List.set_cons_succ]
  refine wpAnyH_take (i := 11) (oi := { dst := some 31, op := _, type := _, pos := _, after := _, guard := _ }) (v := ?_) rfl (by kernel_rfl) (by kernel_rfl) (by kernel_rfl) (fun _ _ _ h => h) (Or.inl ⟨by rfl, ?_⟩) (by assumption) ?_
  case refine_2 => ((intro w hSw; (try dsimp only at hSw); go_simp); try with_reducible rfl)
  try simp only [Act.put, List.setIfInBounds_toArray, List.set_cons_zero, List.set_cons_succ]
  refine wpAnyH_ready (rs := [12]) (by kernel_rfl) (by simp) ?_
  refine AllReadyH.cons (o := { dst := none, op := _, type := _, pos := _, after := _, guard := _ }) rfl (fun K hK => ?_) AllReadyH.nil
  go_simp
  refine hK.out _ _ ((by have := (HP1.out.store 0 (by omega) (ci, pi)).1.cells.2.2.1; simp only [Nat.zero_mul, Nat.zero_add] at this; exact this)) (fun hHeld => ?_)
  clear hK K
  try simp only [Act.put, List.setIfInBounds_toArray, List.set_cons_zero, List.set_cons_succ]
  refine wpAnyH_done (by kernel_rfl) ?_ _
  clear hHeld
  obtain ⟨W2, hW2⟩ : ∃ W2, W2 = (W.setCell ⟨g, 0, none⟩ (.int .i64 ci)).setCell ⟨g, 1, none⟩ (.int .i64 pi) := ⟨_, rfl⟩
  rw [← hW2]
  have hst := HP1.out.store 0 (by omega) (ci, pi)
  simp only [Nat.zero_mul, Nat.zero_add] at hst
  rw [← hW2] at hst
  have HP2 := Lib.hid hst.1
  have HK2 := Lib.hid (HK1.out.grown hst.2 (fun k e => .inr (.inl e)))
  have HR2 := Lib.hid (HR1.out.grown hst.2 (by simp; omega) (by simp; omega))
  clear hW2 hst HP1 HK1 HR1 q0 q1 q2 q3 q4 i1 i2 j1 j2 j3 j4 k1 k2
  obtain ⟨q0, q1, q2, q3, q4⟩ := HP2.out.cells
  go_wp2
  have HP3 := Lib.hid (show PileAt Bp B (.slice (some ⟨g, 0, none⟩) m c2) (dropL L) ((W2.setCell ⟨Bp, 1, none⟩ (.slice (some ⟨g, 0, none⟩) m c2)).drew) from by
    have e : dropL L = (L.set 0 (ci, pi)).take m := by unfold dropL; rw [HM.out, HCi.out, HPi.out]; rfl
    rw [e]; exact PileAt.put HP2.out.1 (HP2.out.2.cut m (by omega)) (by simp [Value.ownBlock]; exact hgB))
  have HK3 := Lib.hid ((HK2.out.grown (grown_setP W2 Bp 1 (.slice (some ⟨g, 0, none⟩) m c2)) (fun k e => .inl (by simpa using e.symm))).below (below_drewN (Below.refl _ _) 1))
  have HR3 := Lib.hid ((HR2.out.grown (grown_setP W2 Bp 1 (.slice (some ⟨g, 0, none⟩) m c2)) (by simp; omega) (by simp; omega)).below (below_drewN (Below.refl _ _) 1))
  obtain ⟨W3, hW3⟩ : ∃ W3, W3 = (W2.setCell ⟨Bp, 1, none⟩ (.slice (some ⟨g, 0, none⟩) m c2)).drew := ⟨_, rfl⟩
  rw [show (W2.setCell ⟨Bp, 1, none⟩ (.slice (some ⟨g, 0, none⟩) m c2)).drewN 1 = W3 from hW3.symm] at HK3 HR3
  rw [← hW3] at HP3 ⊢
  have HD := Lib.hid (dn_start HH.out)
  have HPm := Lib.hid (drop_perm (L := L) (by rw [HM.out]; omega))
  have HLl := Lib.hid (show (dropL L).length = m by rw [drop_len, HM.out]; rfl)
  clear hW3 HP2 HK2 HR2 HCi HPi q0 q1 q2 q3 q4
  obtain ⟨L0, hL0⟩ : ∃ L0, L0 = dropL L := ⟨_, rfl⟩
  rw [← hL0] at HP3 HD HPm HLl
  clear hL0
  go_loopw [5] (fun s wr => ∃ (i : Nat) (L1 : List (Int × Int)), (i < m ∨ (i = 0 ∧ m = 0)) ∧ s = .int .i64 i ∧ L1.length = m ∧ HeapDn L1 i ∧ L1.Perm L0 ∧ PileAt Bp B (.slice (some ⟨g, 0, none⟩) m c2) L1 wr ∧ KeepP w wr Bp (some g) ∧ Two w.heap.size fi fp wr) (fun s _ => m - (intOf s).toNat)
  case atStart => exact ⟨0, L0, by omega, rfl, HLl.out, HD.out, List.Perm.refl _, HP3.out, HK3.out, HR3.out⟩
  case round =>
    obtain ⟨i, L1, him, rfl, hl1, hd1, hp1, hpl1, hk1, hr1⟩ := hrel
    have HLl1 := Lib.hid hl1
    have HD1 := Lib.hid hd1
    have HPm1 := Lib.hid hp1
    have HPL := Lib.hid hpl1
    have HKw := Lib.hid hk1
    have HRw := Lib.hid hr1
    clear hl1 hd1 hp1 hpl1 hk1 hr1 HP3 HK3 HR3 HD HLl
    go_wp2
    obtain ⟨wo, rfl⟩ : ∃ wo : World, wo = wr := ⟨_, rfl⟩
    go_loopw [6, 7] (fun bs ds wr => ∃ (d b : Nat), d ≤ 2 ∧ ds = .int .i64 (2 * (i : Int) + 1 + (d : Int)) ∧ bs = .int .i64 b ∧ BestD L1 i b d m ∧ Below wo.heap.size wo wr) (fun _ ds _ => 2 * i + 3 - (intOf ds).toNat)
    case atStart => exact ⟨0, i, by omega, by simp, rfl, BestD.start L1 i m, Below.refl _ _⟩
    case round =>
      obtain ⟨d, b, hd, rfl, rfl, hbd, hbw⟩ := hrel
      have HBD := Lib.hid hbd
      have HBw := Lib.hid hbw
      have HPw := Lib.hid (HPL.out.below hbw)
      have HKs := Lib.hid (HKw.out.below hbw)
      have HRs := Lib.hid (HRw.out.below hbw)
      obtain ⟨q0, q1, q2, q3, q4⟩ := HPw.out.cells
      clear hbd hbw
      by_cases c0 : d < 2
      · have d0 : 2 * (i : Int) + 1 + (d : Int) ≤ 2 * (i : Int) + 2 := by omega
        by_cases c1 : 2 * i + 1 + d < m
        · have d1 : 2 * (i : Int) + 1 + (d : Int) < (m : Int) := by omega
          have hbm : b < m := by have := HBD.out.1; omega
          obtain ⟨dn, hdn⟩ : ∃ dn, dn = 2 * i + 1 + d := ⟨_, rfl⟩
          have hdi : 2 * (i : Int) + 1 + (d : Int) = (dn : Int) := by omega
          have HDn := Lib.hid hdn
          rw [← hdn] at c1
          rw [hdi] at d0 d1
          have d2 : (0 : Int) ≤ (dn : Int) := by omega
          have d3 : (b : Int) < (m : Int) := by omega
          clear hdn
          obtain ⟨i1, i2, -, -⟩ := HPw.out.2.cells dn c1
          obtain ⟨u1, u2, -, -⟩ := HPw.out.2.cells b hbm
          obtain ⟨ci, hci⟩ : ∃ x, x = (at2 L1 dn).1 := ⟨_, rfl⟩
          obtain ⟨pi, hpi⟩ : ∃ x, x = (at2 L1 dn).2 := ⟨_, rfl⟩
          obtain ⟨cu, hcu⟩ : ∃ x, x = (at2 L1 b).1 := ⟨_, rfl⟩
          obtain ⟨pu, hpu⟩ : ∃ x, x = (at2 L1 b).2 := ⟨_, rfl⟩
          rw [← hci] at i1
          rw [← hpi] at i2
          rw [← hcu] at u1
          rw [← hpu] at u2
          have HCi := Lib.hid hci
          have HPi := Lib.hid hpi
          have HCu := Lib.hid hcu
          have HPu := Lib.hid hpu
          clear hci hpi hcu hpu
          rw [hdi]
          go_wp2
          refine wp_region_held_drew (S := fun wx => wx.cell? ⟨Bp, 0, none⟩ = some (.func (.func 67) #[] #[]) ∧ wx.cell? ⟨Bp, 1, none⟩ = some (.slice (some ⟨g, 0, none⟩) m c2) ∧ wx.cell? ⟨g, dn * 2, none⟩ = some (.int .i64 ci) ∧ wx.cell? ⟨g, dn * 2 + 1, none⟩ = some (.int .i64 pi) ∧ wx.cell? ⟨g, b * 2, none⟩ = some (.int .i64 cu) ∧ wx.cell? ⟨g, b * 2 + 1, none⟩ = some (.int .i64 pu)) (by kernel_rfl) (⟨q1, q2, i1, i2, u1, u2⟩) (fun hHeld => ?_)
          refine wpAnyH_take (i := 0) (oi := { dst := some 57, op := _, type := _, pos := _, after := _, guard := _ }) (v := ?_) rfl (by kernel_rfl) (by kernel_rfl) (by kernel_rfl) (fun _ _ _ h => h) (Or.inl ⟨by rfl, ?_⟩) (by assumption) ?_
          case refine_2 => ((intro w hSw; (try dsimp only at hSw); go_simp); try with_reducible rfl)
          try simp only [Act.put, List.setIfInBounds_toArray, List.set_cons_zero, List.set_cons_succ]
          refine wpAnyH_take (i := 1) (oi := { dst := some 58, op := _, type := _, pos := _, after := _, guard := _ }) (v := ?_) rfl (by kernel_rfl) (by kernel_rfl) (by kernel_rfl) (fun _ _ _ h => h) (Or.inl ⟨by rfl, ?_⟩) (by assumption) ?_
          case refine_2 => ((intro w hSw; (try dsimp only at hSw); go_simp); try with_reducible rfl)
          try simp only [Act.put, List.setIfInBounds_toArray, List.set_cons_zero, List.set_cons_succ]
          refine wpAnyH_take (i := 2) (oi := { dst := some 59, op := _, type := _, pos := _, after := _, guard := _ }) (v := ?_) rfl (by kernel_rfl) (by kernel_rfl) (by kernel_rfl) (fun _ _ _ h => h) (Or.inl ⟨by rfl, ?_⟩) (by assumption) ?_
          case refine_2 => ((intro w hSw; (try dsimp only at hSw); go_simp); try with_reducible rfl)
          try simp only [Act.put, List.setIfInBounds_toArray, List.set_cons_zero, List.set_cons_succ]
          refine wpAnyH_take (i := 3) (oi := { dst := some 60, op := _, type := _, pos := _, after := _, guard := _ }) (v := ?_) rfl (by kernel_rfl) (by kernel_rfl) (by kernel_rfl) (fun _ _ _ h => h) (Or.inl ⟨by rfl, ?_⟩) (by assumption) ?_
          case refine_2 => ((intro w hSw; (try dsimp only at hSw); go_simp); try with_reducible rfl)
          try simp only [Act.put, List.setIfInBounds_toArray, List.set_cons_zero, List.set_cons_succ]
          refine wpAnyH_take (i := 4) (oi := { dst := some 61, op := _, type := _, pos := _, after := _, guard := _ }) (v := ?_) rfl (by kernel_rfl) (by kernel_rfl) (by kernel_rfl) (fun _ _ _ h => h) (Or.inl ⟨by rfl, ?_⟩) (by assumption) ?_
          case refine_2 => ((intro w hSw; (try dsimp only at hSw); go_simp); try with_reducible rfl)
          try simp only [Act.put, List.setIfInBounds_toArray, List.set_cons_zero, List.set_cons_succ]
          refine wpAnyH_take (i := 5) (oi := { dst := some 62, op := _, type := _, pos := _, after := _, guard := _ }) (v := ?_) rfl (by kernel_rfl) (by kernel_rfl) (by kernel_rfl) (fun _ _ _ h => h) (Or.inl ⟨by rfl, ?_⟩) (by assumption) ?_
          case refine_2 => ((intro w hSw; (try dsimp only at hSw); go_simp); try with_reducible rfl)
          try simp only [Act.put, List.setIfInBounds_toArray, List.set_cons_zero, List.set_cons_succ]
          refine wpAnyH_take (i := 6) (oi := { dst := some 63, op := _, type := _, pos := _, after := _, guard := _ }) (v := ?_) rfl (by kernel_rfl) (by kernel_rfl) (by kernel_rfl) (fun _ _ _ h => h) (Or.inl ⟨by rfl, ?_⟩) (by assumption) ?_
          case refine_2 => ((intro w hSw; (try dsimp only at hSw); go_simp); try with_reducible rfl)
          try simp only [Act.put, List.setIfInBounds_toArray, List.set_cons_zero, List.set_cons_succ]
          refine wpAnyH_take (i := 7) (oi := { dst := some 64, op := _, type := _, pos := _, after := _, guard := _ }) (v := ?_) rfl (by kernel_rfl) (by kernel_rfl) (by kernel_rfl) (fun _ _ _ h => h) (Or.inl ⟨by rfl, ?_⟩) (by assumption) ?_
          case refine_2 => ((intro w hSw; (try dsimp only at hSw); go_simp); try with_reducible rfl)
          try simp only [Act.put, List.setIfInBounds_toArray, List.set_cons_zero, List.set_cons_succ]
          refine wpAnyH_take (i := 8) (oi := { dst := some 65, op := _, type := _, pos := _, after := _, guard := _ }) (v := ?_) rfl (by kernel_rfl) (by kernel_rfl) (by kernel_rfl) (fun _ _ _ h => h) (Or.inl ⟨by rfl, ?_⟩) (by assumption) ?_
          case refine_2 => ((intro w hSw; (try dsimp only at hSw); go_simp); try with_reducible rfl)
          try simp only [Act.put, List.setIfInBounds_toArray, List.set_cons_zero, List.set_cons_succ]
          refine wpAnyH_take (i := 9) (oi := { dst := some 66, op := _, type := _, pos := _, after := _, guard := _ }) (v := ?_) rfl (by kernel_rfl) (by kernel_rfl) (by kernel_rfl) (fun _ _ _ h => h) (Or.inl ⟨by rfl, ?_⟩) (by assumption) ?_
          case refine_2 => ((intro w hSw; (try dsimp only at hSw); go_simp); try with_reducible rfl)
          try simp only [Act.put, List.setIfInBounds_toArray, List.set_cons_zero, List.set_cons_succ]
          refine wpAnyH_take (i := 10) (oi := { dst := some 67, op := _, type := _, pos := _, after := _, guard := _ }) (v := ?_) rfl (by kernel_rfl) (by kernel_rfl) (by kernel_rfl) (fun _ _ _ h => h) (Or.inl ⟨by rfl, ?_⟩) (by assumption) ?_
          case refine_2 => ((intro w hSw; (try dsimp only at hSw); go_simp); try with_reducible rfl)
          try simp only [Act.put, List.setIfInBounds_toArray, List.set_cons_zero, List.set_cons_succ]
          refine wpAnyH_take (i := 11) (oi := { dst := some 68, op := _, type := _, pos := _, after := _, guard := _ }) (v := ?_) rfl (by kernel_rfl) (by kernel_rfl) (by kernel_rfl) (fun _ _ _ h => h) (Or.inl ⟨by rfl, ?_⟩) (by assumption) ?_
          case refine_2 => ((intro w hSw; (try dsimp only at hSw); go_simp); try with_reducible rfl)
          try simp only [Act.put, List.setIfInBounds_toArray, List.set_cons_zero, List.set_cons_succ]
          refine wpAnyH_take (i := 12) (oi := { dst := some 69, op := _, type := _, pos := _, after := _, guard := _ }) (v := ?_) rfl (by kernel_rfl) (by kernel_rfl) (by kernel_rfl) (fun _ _ _ h => h) (Or.inl ⟨by rfl, ?_⟩) (by assumption) ?_
          case refine_2 => ((intro w hSw; (try dsimp only at hSw); go_simp); try with_reducible rfl)
          try simp only [Act.put, List.setIfInBounds_toArray, List.set_cons_zero, List.set_cons_succ]
          refine wpAnyH_take (i := 13) (oi := { dst := some 70, op := _, type := _, pos := _, after := _, guard := _ }) (v := ?_) rfl (by kernel_rfl) (by kernel_rfl) (by kernel_rfl) (fun _ _ _ h => h) (Or.inl ⟨by rfl, ?_⟩) (by assumption) ?_
          case refine_2 => ((intro w hSw; (try dsimp only at hSw); go_simp); try with_reducible rfl)
          try simp only [Act.put, List.setIfInBounds_toArray, List.set_cons_zero, List.set_cons_succ]
          refine wpAnyH_take (i := 14) (oi := { dst := some 71, op := _, type := _, pos := _, after := _, guard := _ }) (v := ?_) rfl (by kernel_rfl) (by kernel_rfl) (by kernel_rfl) (fun _ _ _ h => h) (Or.inl ⟨by rfl, ?_⟩) (by assumption) ?_
          case refine_2 => ((intro w hSw; (try dsimp only at hSw); go_simp); try with_reducible rfl)
          try simp only [Act.put, List.setIfInBounds_toArray, List.set_cons_zero, List.set_cons_succ]
          refine wpAnyH_take (i := 15) (oi := { dst := some 72, op := _, type := _, pos := _, after := _, guard := _ }) (v := ?_) rfl (by kernel_rfl) (by kernel_rfl) (by kernel_rfl) (fun _ _ _ h => h) (Or.inl ⟨by rfl, ?_⟩) (by assumption) ?_
          case refine_2 => ((intro w hSw; (try dsimp only at hSw); go_simp); try with_reducible rfl)
          try simp only [Act.put, List.setIfInBounds_toArray, List.set_cons_zero, List.set_cons_succ]
          refine wpAnyH_take (i := 16) (oi := { dst := some 73, op := _, type := _, pos := _, after := _, guard := _ }) (v := ?_) rfl (by kernel_rfl) (by kernel_rfl) (by kernel_rfl) (fun _ _ _ h => h) (Or.inl ⟨by rfl, ?_⟩) (by assumption) ?_
          case refine_2 => ((intro w hSw; (try dsimp only at hSw); go_simp); try with_reducible rfl)
          try simp only [Act.put, List.setIfInBounds_toArray, List.set_cons_zero, List.set_cons_succ]
          refine wpAnyH_take (i := 17) (oi := { dst := some 74, op := _, type := _, pos := _, after := _, guard := _ }) (v := ?_) rfl (by kernel_rfl) (by kernel_rfl) (by kernel_rfl) (fun _ _ _ h => h) (Or.inl ⟨by rfl, ?_⟩) (by assumption) ?_
          case refine_2 => ((intro w hSw; (try dsimp only at hSw); go_simp); try with_reducible rfl)
          try simp only [Act.put, List.setIfInBounds_toArray, List.set_cons_zero, List.set_cons_succ]
          by_cases hlt : pu < pi
          · skip
            refine wpAnyH_ready (rs := [18]) (by kernel_rfl) (by simp) ?_
            refine AllReadyH.cons (o := { dst := some 75, op := _, type := _, pos := _, after := _, guard := _ }) rfl (fun K hK => ?_) AllReadyH.nil
            go_simp
            go_at_call 67
            refine (ahead_yes _ _ _ _ _ hlt).mono ?_
            rintro e w1 ⟨rfl, hb1⟩
            have q1 := (hb1.cell (p := ⟨Bp, 0, none⟩) q0).trans q1
            have q2 := (hb1.cell (p := ⟨Bp, 1, none⟩) q0).trans q2
            have i1 := (hb1.cell (p := ⟨g, dn * 2, none⟩) (World.block_lt_of_cell? _ _ i1)).trans i1
            have i2 := (hb1.cell (p := ⟨g, dn * 2 + 1, none⟩) (World.block_lt_of_cell? _ _ i2)).trans i2
            have u1 := (hb1.cell (p := ⟨g, b * 2, none⟩) (World.block_lt_of_cell? _ _ u1)).trans u1
            have u2 := (hb1.cell (p := ⟨g, b * 2 + 1, none⟩) (World.block_lt_of_cell? _ _ u2)).trans u2
            refine hK.out _ _ (⟨q1, q2, i1, i2, u1, u2⟩) (fun hHeld => ?_)
            clear hK K
            try simp only [Act.put, List.setIfInBounds_toArray, List.set_cons_zero, List.set_cons_succ]
            refine wpAnyH_done (by kernel_rfl) ?_ _
            clear hHeld
            go_wp2
            have e1 := HDn.out
            have e2 := HPi.out
            have e3 := HPu.out
            subst e1
            refine ⟨⟨d + 1, 2 * i + 1 + d, by omega, by congr 1, rfl, HBD.out.next c0 c1 (by unfold pa; rw [← e2, ← e3]; exact hlt), HBw.out.trans (((below_drewN (Below.refl wr.heap.size wr) 1).trans hb1).mono HBw.out.size)⟩, ?_⟩
            simp [intOf]
            omega
          · skip
            refine wpAnyH_ready (rs := [18]) (by kernel_rfl) (by simp) ?_
            refine AllReadyH.cons (o := { dst := some 75, op := _, type := _, pos := _, after := _, guard := _ }) rfl (fun K hK => ?_) AllReadyH.nil
            go_simp
            go_at_call 67
            refine (ahead_no _ _ _ _ _ hlt).mono ?_
            rintro e w1 ⟨rfl, hb1⟩
            have q1 := (hb1.cell (p := ⟨Bp, 0, none⟩) q0).trans q1
            have q2 := (hb1.cell (p := ⟨Bp, 1, none⟩) q0).trans q2
            have i1 := (hb1.cell (p := ⟨g, dn * 2, none⟩) (World.block_lt_of_cell? _ _ i1)).trans i1
            have i2 := (hb1.cell (p := ⟨g, dn * 2 + 1, none⟩) (World.block_lt_of_cell? _ _ i2)).trans i2
            have u1 := (hb1.cell (p := ⟨g, b * 2, none⟩) (World.block_lt_of_cell? _ _ u1)).trans u1
            have u2 := (hb1.cell (p := ⟨g, b * 2 + 1, none⟩) (World.block_lt_of_cell? _ _ u2)).trans u2
            refine hK.out _ _ (⟨q1, q2, i1, i2, u1, u2⟩) (fun hHeld => ?_)
            clear hK K
            try simp only [Act.put, List.setIfInBounds_toArray, List.set_cons_zero, List.set_cons_succ]
            refine wpAnyH_done (by kernel_rfl) ?_ _
            clear hHeld
            go_wp2
            have e1 := HDn.out
            have e2 := HPi.out
            have e3 := HPu.out
            subst e1
            refine ⟨⟨d + 1, b, by omega, by congr 1, rfl, HBD.out.skip (by unfold pa; rw [← e2, ← e3]; exact hlt), HBw.out.trans (((below_drewN (Below.refl wr.heap.size wr) 1).trans hb1).mono HBw.out.size)⟩, ?_⟩
            simp [intOf]
            omega
        · have d1 : ¬ 2 * (i : Int) + 1 + (d : Int) < (m : Int) := by omega
          have HAll := Lib.hid (HBD.out.all (.inr c1))
          by_cases hbi : b = i
          · subst hbi
            obtain ⟨t1, t2, t3, t4, t5, t6, t7⟩ := HRs.out.facts
            have t0 := HRs.out.lt
            have HPerm := Lib.hid ((List.Perm.cons (at2 L 0) HPm1.out).trans HPm.out)
            have HT7 := Lib.hid t7
            clear t7
            go_wp2
            (try simp only [Exit.inBlock, Exit.then])
            have hgr := grownBy_trans (grown_setP wr w.heap.size 0 (.int .i64 fi)) (grown_setP (wr.setCell ⟨w.heap.size, 0, none⟩ (.int .i64 fi)) w.heap.size 1 (.int .i64 fp))
            refine bodyPost_ret (v := .agg #[.int .i64 fi, .int .i64 fp]) ?_ rfl ⟨_, L1, by rw [HFi.out, HFp.out], HPw.out.kept hgr (by omega) (by simp [Value.ownBlock]; omega), dn_done HD1.out (fun j h1 h2 h3 => HAll.out j h1 (by rw [← HLl1.out]; exact h2) h3), HPerm.out, rfl, HKs.out.grown hgr (fun k e => by cases e; exact .inr (.inr (Nat.le_refl _)))⟩
            obtain ⟨W5, hW5⟩ : ∃ W5, W5 = (wr.setCell ⟨w.heap.size, 0, none⟩ (.int .i64 fi)).setCell ⟨w.heap.size, 1, none⟩ (.int .i64 fp) := ⟨_, rfl⟩
            have hh5 := HT7.out
            rw [← hW5] at hh5
            rw [← hW5]
            clear hW5
            have y0 : W5.cell? ⟨w.heap.size, 0, none⟩ = some (.int .i64 fi) := by rw [cell_of_row _ w.heap.size 0 _ _ (0, 0) hh5]; rfl
            have y1 : W5.cell? ⟨w.heap.size, 1, none⟩ = some (.int .i64 fp) := by rw [cell_of_row _ w.heap.size 1 _ _ (0, 0) hh5]; rfl
            clear hgr
            rw [resultsT_cell1 rfl]
            go_simp
          · have d2 : ¬ (b : Int) = (i : Int) := by omega
            obtain ⟨hb0, hbm, hbp, hbg⟩ : 0 < b ∧ b < m ∧ (b - 1) / 2 = i ∧ pa L1 i < pa L1 b := by rcases HBD.out.1 with e | e; exact absurd e hbi; exact e
            have HBg := Lib.hid hbg
            have HBp := Lib.hid hbp
            have him2 : i < m := by omega
            have hib : i < b := by omega
            clear hbg hbp
            go_wp2
            have d3 : (i : Int) < (m : Int) := by omega
            have d4 : (b : Int) < (m : Int) := by omega
            obtain ⟨i1, i2, i3, i4⟩ := HPw.out.2.cells i him2
            obtain ⟨u1, u2, -, -⟩ := HPw.out.2.cells b hbm
            obtain ⟨j1, j2⟩ := HPw.out.2.half i him2 (.int .i64 (at2 L1 b).1)
            obtain ⟨ci, hci⟩ : ∃ x, x = (at2 L1 i).1 := ⟨_, rfl⟩
            obtain ⟨pi, hpi⟩ : ∃ x, x = (at2 L1 i).2 := ⟨_, rfl⟩
            obtain ⟨cu, hcu⟩ : ∃ x, x = (at2 L1 b).1 := ⟨_, rfl⟩
            obtain ⟨pu, hpu⟩ : ∃ x, x = (at2 L1 b).2 := ⟨_, rfl⟩
            rw [← hci] at i1
            rw [← hpi] at i2 j1
            rw [← hcu] at u1 j1 j2
            rw [← hpu] at u2
            have HCi := Lib.hid hci
            have HPi := Lib.hid hpi
            have HCu := Lib.hid hcu
            have HPu := Lib.hid hpu
            clear hci hpi hcu hpu
            refine wp_region_held_drew (S := fun wx => wx.cell? ⟨Bp, 1, none⟩ = some (.slice (some ⟨g, 0, none⟩) m c2)) (by kernel_rfl) (q2) (fun hHeld => ?_)
            refine wpAnyH_take (i := 0) (oi := { dst := some 81, op := _, type := _, pos := _, after := _, guard := _ }) (v := ?_) rfl (by kernel_rfl) (by kernel_rfl) (by kernel_rfl) (fun _ _ _ h => h) (Or.inl ⟨by rfl, ?_⟩) (by assumption) ?_
            case refine_2 => ((intro w hSw; (try dsimp only at hSw); go_simp); try with_reducible rfl)
            try simp only [Act.put, List.setIfInBounds_toArray, List.set_cons_zero, List.set_cons_succ]
            refine wpAnyH_take (i := 1) (oi := { dst := some 82, op := _, type := _, pos := _, after := _, guard := _ }) (v := ?_) rfl (by kernel_rfl) (by kernel_rfl) (by kernel_rfl) (fun _ _ _ h => h) (Or.inl ⟨by rfl, ?_⟩) (by assumption) ?_
            case refine_2 => ((intro w hSw; (try dsimp only at hSw); go_simp); try with_reducible rfl)
            try simp only [Act.put, List.setIfInBounds_toArray, List.set_cons_zero, List.set_cons_succ]
            refine wpAnyH_take (i := 2) (oi := { dst := some 83, op := _, type := _, pos := _, after := _, guard := _ }) (v := ?_) rfl (by kernel_rfl) (by kernel_rfl) (by kernel_rfl) (fun _ _ _ h => h) (Or.inl ⟨by rfl, ?_⟩) (by assumption) ?_
            case refine_2 => ((intro w hSw; (try dsimp only at hSw); go_simp); try with_reducible rfl)
            try simp only [Act.put, List.setIfInBounds_toArray, List.set_cons_zero, List.set_cons_succ]
            refine wpAnyH_take (i := 3) (oi := { dst := some 84, op := _, type := _, pos := _, after := _, guard := _ }) (v := ?_) rfl (by kernel_rfl) (by kernel_rfl) (by kernel_rfl) (fun _ _ _ h => h) (Or.inl ⟨by rfl, ?_⟩) (by assumption) ?_
            case refine_2 => ((intro w hSw; (try dsimp only at hSw); go_simp); try with_reducible rfl)
            try simp only [Act.put, List.setIfInBounds_toArray, List.set_cons_zero, List.set_cons_succ]
            refine wpAnyH_take (i := 4) (oi := { dst := some 85, op := _, type := _, pos := _, after := _, guard := _ }) (v := ?_) rfl (by kernel_rfl) (by kernel_rfl) (by kernel_rfl) (fun _ _ _ h => h) (Or.inl ⟨by rfl, ?_⟩) (by assumption) ?_
            case refine_2 => ((intro w hSw; (try dsimp only at hSw); go_simp); try with_reducible rfl)
            try simp only [Act.put, List.setIfInBounds_toArray, List.set_cons_zero, List.set_cons_succ]
            refine wpAnyH_take (i := 5) (oi := { dst := some 86, op := _, type := _, pos := _, after := _, guard := _ }) (v := ?_) rfl (by kernel_rfl) (by kernel_rfl) (by kernel_rfl) (fun _ _ _ h => h) (Or.inl ⟨by rfl, ?_⟩) (by assumption) ?_
            case refine_2 => ((intro w hSw; (try dsimp only at hSw); go_simp); try with_reducible rfl)
            try simp only [Act.put, List.setIfInBounds_toArray, List.set_cons_zero, List.set_cons_succ]
            refine wpAnyH_take (i := 6) (oi := { dst := some 87, op := _, type := _, pos := _, after := _, guard := _ }) (v := ?_) rfl (by kernel_rfl) (by kernel_rfl) (by kernel_rfl) (fun _ _ _ h => h) (Or.inl ⟨by rfl, ?_⟩) (by assumption) ?_
            case refine_2 => ((intro w hSw; (try dsimp only at hSw); go_simp); try with_reducible rfl)
            try simp only [Act.put, List.setIfInBounds_toArray, List.set_cons_zero, List.set_cons_succ]
            refine wpAnyH_take (i := 7) (oi := { dst := some 88, op := _, type := _, pos := _, after := _, guard := _ }) (v := ?_) rfl (by kernel_rfl) (by kernel_rfl) (by kernel_rfl) (fun _ _ _ h => h) (Or.inl ⟨by rfl, ?_⟩) (by assumption) ?_
            case refine_2 => ((intro w hSw; (try dsimp only at hSw); go_simp); try with_reducible rfl)
            try simp only [Act.put, List.setIfInBounds_toArray, List.set_cons_zero, List.set_cons_succ]
            refine wpAnyH_take (i := 8) (oi := { dst := some 89, op := _, type := _, pos := _, after := _, guard := _ }) (v := ?_) rfl (by kernel_rfl) (by kernel_rfl) (by kernel_rfl) (fun _ _ _ h => h) (Or.inl ⟨by rfl, ?_⟩) (by assumption) ?_
            case refine_2 => ((intro w hSw; (try dsimp only at hSw); go_simp); try with_reducible rfl)
            try simp only [Act.put, List.setIfInBounds_toArray, List.set_cons_zero, List.set_cons_succ]
            refine wpAnyH_take (i := 9) (oi := { dst := some 90, op := _, type := _, pos := _, after := _, guard := _ }) (v := ?_) rfl (by kernel_rfl) (by kernel_rfl) (by kernel_rfl) (fun _ _ _ h => h) (Or.inl ⟨by rfl, ?_⟩) (by assumption) ?_
            case refine_2 => ((intro w hSw; (try dsimp only at hSw); go_simp); try with_reducible rfl)
            try simp only [Act.put, List.setIfInBounds_toArray, List.set_cons_zero, List.set_cons_succ]
            refine wpAnyH_take (i := 10) (oi := { dst := some 91, op := _, type := _, pos := _, after := _, guard := _ }) (v := ?_) rfl (by kernel_rfl) (by kernel_rfl) (by kernel_rfl) (fun _ _ _ h => h) (Or.inl ⟨by rfl, ?_⟩) (by assumption) ?_
            case refine_2 => ((intro w hSw; (try dsimp only at hSw); go_simp); try with_reducible rfl)
            try simp only [Act.put, List.setIfInBounds_toArray, List.set_cons_zero, List.set_cons_succ]
            refine wpAnyH_take (i := 11) (oi := { dst := some 92, op := _, type := _, pos := _, after := _, guard := _ }) (v := ?_) rfl (by kernel_rfl) (by kernel_rfl) (by kernel_rfl) (fun _ _ _ h => h) (Or.inl ⟨by rfl, ?_⟩) (by assumption) ?_
            case refine_2 => ((intro w hSw; (try dsimp only at hSw); go_simp); try with_reducible rfl)
            try simp only [Act.put, List.setIfInBounds_toArray, List.set_cons_zero, List.set_cons_succ]
            refine wpAnyH_take (i := 12) (oi := { dst := some 93, op := _, type := _, pos := _, after := _, guard := _ }) (v := ?_) rfl (by kernel_rfl) (by kernel_rfl) (by kernel_rfl) (fun _ _ _ h => h) (Or.inl ⟨by rfl, ?_⟩) (by assumption) ?_
            case refine_2 => ((intro w hSw; (try dsimp only at hSw); go_simp); try with_reducible rfl)
            try simp only [Act.put, List.setIfInBounds_toArray, List.set_cons_zero, List.set_cons_succ]
            refine wpAnyH_take (i := 13) (oi := { dst := some 94, op := _, type := _, pos := _, after := _, guard := _ }) (v := ?_) rfl (by kernel_rfl) (by kernel_rfl) (by kernel_rfl) (fun _ _ _ h => h) (Or.inl ⟨by rfl, ?_⟩) (by assumption) ?_
            case refine_2 => ((intro w hSw; (try dsimp only at hSw); go_simp); try with_reducible rfl)
            try simp only [Act.put, List.setIfInBounds_toArray, List.set_cons_zero, List.set_cons_succ]
            refine wpAnyH_take (i := 14) (oi := { dst := some 95, op := _, type := _, pos := _, after := _, guard := _ }) (v := ?_) rfl (by kernel_rfl) (by kernel_rfl) (by kernel_rfl) (fun _ _ _ h => h) (Or.inl ⟨by rfl, ?_⟩) (by assumption) ?_
            case refine_2 => ((intro w hSw; (try dsimp only at hSw); go_simp); try with_reducible rfl)
            try simp only [Act.put, List.setIfInBounds_toArray, List.set_cons_zero, List.set_cons_succ]
            refine wpAnyH_take (i := 15) (oi := { dst := some 96, op := _, type := _, pos := _, after := _, guard := _ }) (v := ?_) rfl (by kernel_rfl) (by kernel_rfl) (by kernel_rfl) (fun _ _ _ h => h) (Or.inl ⟨by rfl, ?_⟩) (by assumption) ?_
            case refine_2 => ((intro w hSw; (try dsimp only at hSw); go_simp); try with_reducible rfl)
            try simp only [Act.put, List.setIfInBounds_toArray, List.set_cons_zero, List.set_cons_succ]
            refine wpAnyH_take (i := 17) (oi := { dst := some 98, op := _, type := _, pos := _, after := _, guard := _ }) (v := ?_) rfl (by kernel_rfl) (by kernel_rfl) (by kernel_rfl) (fun _ _ _ h => h) (Or.inl ⟨by rfl, ?_⟩) (by assumption) ?_
            case refine_2 => ((intro w hSw; (try dsimp only at hSw); go_simp); try with_reducible rfl)
            try simp only [Act.put, List.setIfInBounds_toArray, List.set_cons_zero, List.set_cons_succ]
            refine wpAnyH_take (i := 18) (oi := { dst := some 99, op := _, type := _, pos := _, after := _, guard := _ }) (v := ?_) rfl (by kernel_rfl) (by kernel_rfl) (by kernel_rfl) (fun _ _ _ h => h) (Or.inl ⟨by rfl, ?_⟩) (by assumption) ?_
            case refine_2 => ((intro w hSw; (try dsimp only at hSw); go_simp); try with_reducible rfl)
            try simp only [Act.put, List.setIfInBounds_toArray, List.set_cons_zero, List.set_cons_succ]
            refine wpAnyH_take (i := 19) (oi := { dst := some 100, op := _, type := _, pos := _, after := _, guard := _ }) (v := ?_) rfl (by kernel_rfl) (by kernel_rfl) (by kernel_rfl) (fun _ _ _ h => h) (Or.inl ⟨by rfl, ?_⟩) (by assumption) ?_
            case refine_2 => ((intro w hSw; (try dsimp only at hSw); go_simp); try with_reducible rfl)
            try simp only [Act.put, List.setIfInBounds_toArray, List.set_cons_zero, List.set_cons_succ]
            refine wpAnyH_take (i := 20) (oi := { dst := some 101, op := _, type := _, pos := _, after := _, guard := _ }) (v := ?_) rfl (by kernel_rfl) (by kernel_rfl) (by kernel_rfl) (fun _ _ _ h => h) (Or.inl ⟨by rfl, ?_⟩) (by assumption) ?_
            case refine_2 => ((intro w hSw; (try dsimp only at hSw); go_simp); try with_reducible rfl)
            try simp only [Act.put, List.setIfInBounds_toArray, List.set_cons_zero, List.set_cons_succ]
            refine wpAnyH_take (i := 21) (oi := { dst := some 102, op := _, type := _, pos := _, after := _, guard := _ }) (v := ?_) rfl (by kernel_rfl) (by kernel_rfl) (by kernel_rfl) (fun _ _ _ h => h) (Or.inl ⟨by rfl, ?_⟩) (by assumption) ?_
            case refine_2 => ((intro w hSw; (try dsimp only at hSw); go_simp); try with_reducible rfl)
            try simp only [Act.put, List.setIfInBounds_toArray, List.set_cons_zero, List.set_cons_succ]
            refine wpAnyH_take (i := 22) (oi := { dst := some 103, op := _, type := _, pos := _, after := _, guard := _ }) (v := ?_) rfl (by kernel_rfl) (by kernel_rfl) (by kernel_rfl) (fun _ _ _ h => h) (Or.inl ⟨by rfl, ?_⟩) (by assumption) ?_
            case refine_2 => ((intro w hSw; (try dsimp only at hSw); go_simp); try with_reducible rfl)
            try simp only [Act.put, List.setIfInBounds_toArray, List.set_cons_zero, List.set_cons_succ]
            refine wpAnyH_ready (rs := [16, 23]) (by kernel_rfl) (by simp) ?_
            refine AllReadyH.cons (o := { dst := some 97, op := _, type := _, pos := _, after := _, guard := _ }) rfl (fun K hK => ?_) (AllReadyH.cons (o := { dst := some 104, op := _, type := _, pos := _, after := _, guard := _ }) rfl (fun K hK => ?_) AllReadyH.nil)
            · skip
              go_simp
              refine hK.out _ _ (q2) (fun hHeld => ?_)
              clear hK K
              try simp only [Act.put, List.setIfInBounds_toArray, List.set_cons_zero, List.set_cons_succ]
              refine wpAnyH_ready (rs := [23]) (by kernel_rfl) (by simp) ?_
              refine AllReadyH.cons (o := { dst := some 104, op := _, type := _, pos := _, after := _, guard := _ }) rfl (fun K hK => ?_) AllReadyH.nil
              go_simp
              refine hK.out _ _ (q2) (fun hHeld => ?_)
              clear hK K
              try simp only [Act.put, List.setIfInBounds_toArray, List.set_cons_zero, List.set_cons_succ]
              refine wpAnyH_take (i := 24) (oi := { dst := some 105, op := _, type := _, pos := _, after := _, guard := _ }) (v := ?_) rfl (by kernel_rfl) (by kernel_rfl) (by kernel_rfl) (fun _ _ _ h => h) (Or.inl ⟨by rfl, ?_⟩) (by assumption) ?_
              case refine_2 => ((intro w hSw; (try dsimp only at hSw); go_simp); try with_reducible rfl)
              try simp only [Act.put, List.setIfInBounds_toArray, List.set_cons_zero, List.set_cons_succ]
              refine wpAnyH_ready (rs := [25]) (by kernel_rfl) (by simp) ?_
              refine AllReadyH.cons (o := { dst := none, op := _, type := _, pos := _, after := _, guard := _ }) rfl (fun K hK => ?_) AllReadyH.nil
              go_simp
              refine hK.out _ _ ((HPw.out.store i him2 (cu, pu)).1.cells.2.2.1) (fun hHeld => ?_)
              clear hK K
              try simp only [Act.put, List.setIfInBounds_toArray, List.set_cons_zero, List.set_cons_succ]
              have HPL3 := Lib.hid (HPw.out.store i him2 (cu, pu))
              obtain ⟨W2, hW2⟩ : ∃ W2, W2 = (wr.setCell ⟨g, i * 2, none⟩ (.int .i64 cu)).setCell ⟨g, i * 2 + 1, none⟩ (.int .i64 pu) := ⟨_, rfl⟩
              rw [← hW2]
              rw [show (wr.setCell ⟨g, i * 2, none⟩ (.int .i64 cu)).setCell ⟨g, i * 2 + 1, none⟩ (.int .i64 pu) = W2 from hW2.symm] at HPL3
              clear hW2 hHeld
              have hHeld : W2.drew.cell? ⟨Bp, 1, none⟩ = some (.slice (some ⟨g, 0, none⟩) m c2) := HPL3.out.1.cells.2.2.1
              obtain ⟨x1, x2, u3, u4⟩ := HPL3.out.1.2.cells b hbm
              obtain ⟨j1, j2⟩ := HPL3.out.1.2.half b hbm (.int .i64 ci)
              refine wpAnyH_take (i := 26) (oi := { dst := some 106, op := _, type := _, pos := _, after := _, guard := _ }) (v := ?_) rfl (by kernel_rfl) (by kernel_rfl) (by kernel_rfl) (fun _ _ _ h => h) (Or.inl ⟨by rfl, ?_⟩) (by assumption) ?_
              case refine_2 => ((intro w hSw; (try dsimp only at hSw); go_simp); try with_reducible rfl)
              try simp only [Act.put, List.setIfInBounds_toArray, List.set_cons_zero, List.set_cons_succ]
              refine wpAnyH_ready (rs := [27]) (by kernel_rfl) (by simp) ?_
              refine AllReadyH.cons (o := { dst := none, op := _, type := _, pos := _, after := _, guard := _ }) rfl (fun K hK => ?_) AllReadyH.nil
              go_simp
              refine hK.out _ _ ((HPL3.out.1.store b hbm (ci, pi)).1.cells.2.2.1) (fun hHeld => ?_)
              clear hK K
              try simp only [Act.put, List.setIfInBounds_toArray, List.set_cons_zero, List.set_cons_succ]
              have HPL4 := Lib.hid (HPL3.out.1.store b hbm (ci, pi)).1
              have hg4 := (HPL3.out.1.store b hbm (ci, pi)).2
              refine wpAnyH_done (by kernel_rfl) ?_ _
              clear hHeld
              go_wp2
              have hsw : (L1.set i (cu, pu)).set b (ci, pi) = swapL L1 i b := by rw [HCi.out, HPi.out, HCu.out, HPu.out]; rfl
              have hgg : ∀ k, some g = some k → k = Bp ∨ some g = some k ∨ w.heap.size ≤ k := fun k e => .inr (.inl e)
              have hiL : i < L1.length := by rw [HLl1.out]; exact him2
              have hbL : b < L1.length := by rw [HLl1.out]; exact hbm
              refine ⟨⟨b, swapL L1 i b, .inl hbm, rfl, by rw [swap_len]; exact HLl1.out, dn_step HD1.out hbL HBp.out hb0 HBg.out (fun j h1 h2 h3 => HAll.out j h1 (by rw [← HLl1.out]; exact h2) h3), (swap_perm L1 hiL hbL).trans HPm1.out, by rw [← hsw]; exact HPL4.out, ((HKs.out.grown HPL3.out.2 hgg).grown hg4 hgg).below (below_drewN (Below.refl _ _) 1), ((HRs.out.grown HPL3.out.2 (by simp; omega) (by simp; omega)).grown hg4 (by simp; omega) (by simp; omega)).below (below_drewN (Below.refl _ _) 1)⟩, ?_⟩
              show m - (b : Int).toNat < m - (i : Int).toNat
              omega
            · skip
              go_simp
              refine hK.out _ _ (q2) (fun hHeld => ?_)
              clear hK K
              try simp only [Act.put, List.setIfInBounds_toArray, List.set_cons_zero, List.set_cons_succ]
              refine wpAnyH_ready (rs := [16]) (by kernel_rfl) (by simp) ?_
              refine AllReadyH.cons (o := { dst := some 97, op := _, type := _, pos := _, after := _, guard := _ }) rfl (fun K hK => ?_) AllReadyH.nil
              go_simp
              refine hK.out _ _ (q2) (fun hHeld => ?_)
              clear hK K
              try simp only [Act.put, List.setIfInBounds_toArray, List.set_cons_zero, List.set_cons_succ]
              refine wpAnyH_take (i := 24) (oi := { dst := some 105, op := _, type := _, pos := _, after := _, guard := _ }) (v := ?_) rfl (by kernel_rfl) (by kernel_rfl) (by kernel_rfl) (fun _ _ _ h => h) (Or.inl ⟨by rfl, ?_⟩) (by assumption) ?_
              case refine_2 => ((intro w hSw; (try dsimp only at hSw); go_simp); try with_reducible rfl)
              try simp only [Act.put, List.setIfInBounds_toArray, List.set_cons_zero, List.set_cons_succ]
              refine wpAnyH_ready (rs := [25]) (by kernel_rfl) (by simp) ?_
              refine AllReadyH.cons (o := { dst := none, op := _, type := _, pos := _, after := _, guard := _ }) rfl (fun K hK => ?_) AllReadyH.nil
              go_simp
              refine hK.out _ _ ((HPw.out.store i him2 (cu, pu)).1.cells.2.2.1) (fun hHeld => ?_)
              clear hK K
              try simp only [Act.put, List.setIfInBounds_toArray, List.set_cons_zero, List.set_cons_succ]
              have HPL3 := Lib.hid (HPw.out.store i him2 (cu, pu))
              obtain ⟨W2, hW2⟩ : ∃ W2, W2 = (wr.setCell ⟨g, i * 2, none⟩ (.int .i64 cu)).setCell ⟨g, i * 2 + 1, none⟩ (.int .i64 pu) := ⟨_, rfl⟩
              rw [← hW2]
              rw [show (wr.setCell ⟨g, i * 2, none⟩ (.int .i64 cu)).setCell ⟨g, i * 2 + 1, none⟩ (.int .i64 pu) = W2 from hW2.symm] at HPL3
              clear hW2 hHeld
              have hHeld : W2.drew.cell? ⟨Bp, 1, none⟩ = some (.slice (some ⟨g, 0, none⟩) m c2) := HPL3.out.1.cells.2.2.1
              obtain ⟨x1, x2, u3, u4⟩ := HPL3.out.1.2.cells b hbm
              obtain ⟨j1, j2⟩ := HPL3.out.1.2.half b hbm (.int .i64 ci)
              refine wpAnyH_take (i := 26) (oi := { dst := some 106, op := _, type := _, pos := _, after := _, guard := _ }) (v := ?_) rfl (by kernel_rfl) (by kernel_rfl) (by kernel_rfl) (fun _ _ _ h => h) (Or.inl ⟨by rfl, ?_⟩) (by assumption) ?_
              case refine_2 => ((intro w hSw; (try dsimp only at hSw); go_simp); try with_reducible rfl)
              try simp only [Act.put, List.setIfInBounds_toArray, List.set_cons_zero, List.set_cons_succ]
              refine wpAnyH_ready (rs := [27]) (by kernel_rfl) (by simp) ?_
              refine AllReadyH.cons (o := { dst := none, op := _, type := _, pos := _, after := _, guard := _ }) rfl (fun K hK => ?_) AllReadyH.nil
              go_simp
              refine hK.out _ _ ((HPL3.out.1.store b hbm (ci, pi)).1.cells.2.2.1) (fun hHeld => ?_)
              clear hK K
              try simp only [Act.put, List.setIfInBounds_toArray, List.set_cons_zero, List.set_cons_succ]
              have HPL4 := Lib.hid (HPL3.out.1.store b hbm (ci, pi)).1
              have hg4 := (HPL3.out.1.store b hbm (ci, pi)).2
              refine wpAnyH_done (by kernel_rfl) ?_ _
              clear hHeld
              go_wp2
              have hsw : (L1.set i (cu, pu)).set b (ci, pi) = swapL L1 i b := by rw [HCi.out, HPi.out, HCu.out, HPu.out]; rfl
              have hgg : ∀ k, some g = some k → k = Bp ∨ some g = some k ∨ w.heap.size ≤ k := fun k e => .inr (.inl e)
              have hiL : i < L1.length := by rw [HLl1.out]; exact him2
              have hbL : b < L1.length := by rw [HLl1.out]; exact hbm
              refine ⟨⟨b, swapL L1 i b, .inl hbm, rfl, by rw [swap_len]; exact HLl1.out, dn_step HD1.out hbL HBp.out hb0 HBg.out (fun j h1 h2 h3 => HAll.out j h1 (by rw [← HLl1.out]; exact h2) h3), (swap_perm L1 hiL hbL).trans HPm1.out, by rw [← hsw]; exact HPL4.out, ((HKs.out.grown HPL3.out.2 hgg).grown hg4 hgg).below (below_drewN (Below.refl _ _) 1), ((HRs.out.grown HPL3.out.2 (by simp; omega) (by simp; omega)).grown hg4 (by simp; omega) (by simp; omega)).below (below_drewN (Below.refl _ _) 1)⟩, ?_⟩
              show m - (b : Int).toNat < m - (i : Int).toNat
              omega
      · have d0 : ¬ 2 * (i : Int) + 1 + (d : Int) ≤ 2 * (i : Int) + 2 := by omega
        have HAll := Lib.hid (HBD.out.all (.inl (by omega)))
        by_cases hbi : b = i
        · subst hbi
          obtain ⟨t1, t2, t3, t4, t5, t6, t7⟩ := HRs.out.facts
          have t0 := HRs.out.lt
          have HPerm := Lib.hid ((List.Perm.cons (at2 L 0) HPm1.out).trans HPm.out)
          have HT7 := Lib.hid t7
          clear t7
          go_wp2
          (try simp only [Exit.inBlock, Exit.then])
          have hgr := grownBy_trans (grown_setP wr w.heap.size 0 (.int .i64 fi)) (grown_setP (wr.setCell ⟨w.heap.size, 0, none⟩ (.int .i64 fi)) w.heap.size 1 (.int .i64 fp))
          refine bodyPost_ret (v := .agg #[.int .i64 fi, .int .i64 fp]) ?_ rfl ⟨_, L1, by rw [HFi.out, HFp.out], HPw.out.kept hgr (by omega) (by simp [Value.ownBlock]; omega), dn_done HD1.out (fun j h1 h2 h3 => HAll.out j h1 (by rw [← HLl1.out]; exact h2) h3), HPerm.out, rfl, HKs.out.grown hgr (fun k e => by cases e; exact .inr (.inr (Nat.le_refl _)))⟩
          obtain ⟨W5, hW5⟩ : ∃ W5, W5 = (wr.setCell ⟨w.heap.size, 0, none⟩ (.int .i64 fi)).setCell ⟨w.heap.size, 1, none⟩ (.int .i64 fp) := ⟨_, rfl⟩
          have hh5 := HT7.out
          rw [← hW5] at hh5
          rw [← hW5]
          clear hW5
          have y0 : W5.cell? ⟨w.heap.size, 0, none⟩ = some (.int .i64 fi) := by rw [cell_of_row _ w.heap.size 0 _ _ (0, 0) hh5]; rfl
          have y1 : W5.cell? ⟨w.heap.size, 1, none⟩ = some (.int .i64 fp) := by rw [cell_of_row _ w.heap.size 1 _ _ (0, 0) hh5]; rfl
          clear hgr
          rw [resultsT_cell1 rfl]
          go_simp
        · have d2 : ¬ (b : Int) = (i : Int) := by omega
          obtain ⟨hb0, hbm, hbp, hbg⟩ : 0 < b ∧ b < m ∧ (b - 1) / 2 = i ∧ pa L1 i < pa L1 b := by rcases HBD.out.1 with e | e; exact absurd e hbi; exact e
          have HBg := Lib.hid hbg
          have HBp := Lib.hid hbp
          have him2 : i < m := by omega
          have hib : i < b := by omega
          clear hbg hbp
          go_wp2
          have d3 : (i : Int) < (m : Int) := by omega
          have d4 : (b : Int) < (m : Int) := by omega
          obtain ⟨i1, i2, i3, i4⟩ := HPw.out.2.cells i him2
          obtain ⟨u1, u2, -, -⟩ := HPw.out.2.cells b hbm
          obtain ⟨j1, j2⟩ := HPw.out.2.half i him2 (.int .i64 (at2 L1 b).1)
          obtain ⟨ci, hci⟩ : ∃ x, x = (at2 L1 i).1 := ⟨_, rfl⟩
          obtain ⟨pi, hpi⟩ : ∃ x, x = (at2 L1 i).2 := ⟨_, rfl⟩
          obtain ⟨cu, hcu⟩ : ∃ x, x = (at2 L1 b).1 := ⟨_, rfl⟩
          obtain ⟨pu, hpu⟩ : ∃ x, x = (at2 L1 b).2 := ⟨_, rfl⟩
          rw [← hci] at i1
          rw [← hpi] at i2 j1
          rw [← hcu] at u1 j1 j2
          rw [← hpu] at u2
          have HCi := Lib.hid hci
          have HPi := Lib.hid hpi
          have HCu := Lib.hid hcu
          have HPu := Lib.hid hpu
          clear hci hpi hcu hpu
          refine wp_region_held_drew (S := fun wx => wx.cell? ⟨Bp, 1, none⟩ = some (.slice (some ⟨g, 0, none⟩) m c2)) (by kernel_rfl) (q2) (fun hHeld => ?_)
          refine wpAnyH_take (i := 0) (oi := { dst := some 81, op := _, type := _, pos := _, after := _, guard := _ }) (v := ?_) rfl (by kernel_rfl) (by kernel_rfl) (by kernel_rfl) (fun _ _ _ h => h) (Or.inl ⟨by rfl, ?_⟩) (by assumption) ?_
          case refine_2 => ((intro w hSw; (try dsimp only at hSw); go_simp); try with_reducible rfl)
          try simp only [Act.put, List.setIfInBounds_toArray, List.set_cons_zero, List.set_cons_succ]
          refine wpAnyH_take (i := 1) (oi := { dst := some 82, op := _, type := _, pos := _, after := _, guard := _ }) (v := ?_) rfl (by kernel_rfl) (by kernel_rfl) (by kernel_rfl) (fun _ _ _ h => h) (Or.inl ⟨by rfl, ?_⟩) (by assumption) ?_
          case refine_2 => ((intro w hSw; (try dsimp only at hSw); go_simp); try with_reducible rfl)
          try simp only [Act.put, List.setIfInBounds_toArray, List.set_cons_zero, List.set_cons_succ]
          refine wpAnyH_take (i := 2) (oi := { dst := some 83, op := _, type := _, pos := _, after := _, guard := _ }) (v := ?_) rfl (by kernel_rfl) (by kernel_rfl) (by kernel_rfl) (fun _ _ _ h => h) (Or.inl ⟨by rfl, ?_⟩) (by assumption) ?_
          case refine_2 => ((intro w hSw; (try dsimp only at hSw); go_simp); try with_reducible rfl)
          try simp only [Act.put, List.setIfInBounds_toArray, List.set_cons_zero, List.set_cons_succ]
          refine wpAnyH_take (i := 3) (oi := { dst := some 84, op := _, type := _, pos := _, after := _, guard := _ }) (v := ?_) rfl (by kernel_rfl) (by kernel_rfl) (by kernel_rfl) (fun _ _ _ h => h) (Or.inl ⟨by rfl, ?_⟩) (by assumption) ?_
          case refine_2 => ((intro w hSw; (try dsimp only at hSw); go_simp); try with_reducible rfl)
          try simp only [Act.put, List.setIfInBounds_toArray, List.set_cons_zero, List.set_cons_succ]
          refine wpAnyH_take (i := 4) (oi := { dst := some 85, op := _, type := _, pos := _, after := _, guard := _ }) (v := ?_) rfl (by kernel_rfl) (by kernel_rfl) (by kernel_rfl) (fun _ _ _ h => h) (Or.inl ⟨by rfl, ?_⟩) (by assumption) ?_
          case refine_2 => ((intro w hSw; (try dsimp only at hSw); go_simp); try with_reducible rfl)
          try simp only [Act.put, List.setIfInBounds_toArray, List.set_cons_zero, List.set_cons_succ]
          refine wpAnyH_take (i := 5) (oi := { dst := some 86, op := _, type := _, pos := _, after := _, guard := _ }) (v := ?_) rfl (by kernel_rfl) (by kernel_rfl) (by kernel_rfl) (fun _ _ _ h => h) (Or.inl ⟨by rfl, ?_⟩) (by assumption) ?_
          case refine_2 => ((intro w hSw; (try dsimp only at hSw); go_simp); try with_reducible rfl)
          try simp only [Act.put, List.setIfInBounds_toArray, List.set_cons_zero, List.set_cons_succ]
          refine wpAnyH_take (i := 6) (oi := { dst := some 87, op := _, type := _, pos := _, after := _, guard := _ }) (v := ?_) rfl (by kernel_rfl) (by kernel_rfl) (by kernel_rfl) (fun _ _ _ h => h) (Or.inl ⟨by rfl, ?_⟩) (by assumption) ?_
          case refine_2 => ((intro w hSw; (try dsimp only at hSw); go_simp); try with_reducible rfl)
          try simp only [Act.put, List.setIfInBounds_toArray, List.set_cons_zero, List.set_cons_succ]
          refine wpAnyH_take (i := 7) (oi := { dst := some 88, op := _, type := _, pos := _, after := _, guard := _ }) (v := ?_) rfl (by kernel_rfl) (by kernel_rfl) (by kernel_rfl) (fun _ _ _ h => h) (Or.inl ⟨by rfl, ?_⟩) (by assumption) ?_
          case refine_2 => ((intro w hSw; (try dsimp only at hSw); go_simp); try with_reducible rfl)
          try simp only [Act.put, List.setIfInBounds_toArray, List.set_cons_zero, List.set_cons_succ]
          refine wpAnyH_take (i := 8) (oi := { dst := some 89, op := _, type := _, pos := _, after := _, guard := _ }) (v := ?_) rfl (by kernel_rfl) (by kernel_rfl) (by kernel_rfl) (fun _ _ _ h => h) (Or.inl ⟨by rfl, ?_⟩) (by assumption) ?_
          case refine_2 => ((intro w hSw; (try dsimp only at hSw); go_simp); try with_reducible rfl)
          try simp only [Act.put, List.setIfInBounds_toArray, List.set_cons_zero, List.set_cons_succ]
          refine wpAnyH_take (i := 9) (oi := { dst := some 90, op := _, type := _, pos := _, after := _, guard := _ }) (v := ?_) rfl (by kernel_rfl) (by kernel_rfl) (by kernel_rfl) (fun _ _ _ h => h) (Or.inl ⟨by rfl, ?_⟩) (by assumption) ?_
          case refine_2 => ((intro w hSw; (try dsimp only at hSw); go_simp); try with_reducible rfl)
          try simp only [Act.put, List.setIfInBounds_toArray, List.set_cons_zero, List.set_cons_succ]
          refine wpAnyH_take (i := 10) (oi := { dst := some 91, op := _, type := _, pos := _, after := _, guard := _ }) (v := ?_) rfl (by kernel_rfl) (by kernel_rfl) (by kernel_rfl) (fun _ _ _ h => h) (Or.inl ⟨by rfl, ?_⟩) (by assumption) ?_
          case refine_2 => ((intro w hSw; (try dsimp only at hSw); go_simp); try with_reducible rfl)
          try simp only [Act.put, List.setIfInBounds_toArray, List.set_cons_zero, List.set_cons_succ]
          refine wpAnyH_take (i := 11) (oi := { dst := some 92, op := _, type := _, pos := _, after := _, guard := _ }) (v := ?_) rfl (by kernel_rfl) (by kernel_rfl) (by kernel_rfl) (fun _ _ _ h => h) (Or.inl ⟨by rfl, ?_⟩) (by assumption) ?_
          case refine_2 => ((intro w hSw; (try dsimp only at hSw); go_simp); try with_reducible rfl)
          try simp only [Act.put, List.setIfInBounds_toArray, List.set_cons_zero, List.set_cons_succ]
          refine wpAnyH_take (i := 12) (oi := { dst := some 93, op := _, type := _, pos := _, after := _, guard := _ }) (v := ?_) rfl (by kernel_rfl) (by kernel_rfl) (by kernel_rfl) (fun _ _ _ h => h) (Or.inl ⟨by rfl, ?_⟩) (by assumption) ?_
          case refine_2 => ((intro w hSw; (try dsimp only at hSw); go_simp); try with_reducible rfl)
          try simp only [Act.put, List.setIfInBounds_toArray, List.set_cons_zero, List.set_cons_succ]
          refine wpAnyH_take (i := 13) (oi := { dst := some 94, op := _, type := _, pos := _, after := _, guard := _ }) (v := ?_) rfl (by kernel_rfl) (by kernel_rfl) (by kernel_rfl) (fun _ _ _ h => h) (Or.inl ⟨by rfl, ?_⟩) (by assumption) ?_
          case refine_2 => ((intro w hSw; (try dsimp only at hSw); go_simp); try with_reducible rfl)
          try simp only [Act.put, List.setIfInBounds_toArray, List.set_cons_zero, List.set_cons_succ]
          refine wpAnyH_take (i := 14) (oi := { dst := some 95, op := _, type := _, pos := _, after := _, guard := _ }) (v := ?_) rfl (by kernel_rfl) (by kernel_rfl) (by kernel_rfl) (fun _ _ _ h => h) (Or.inl ⟨by rfl, ?_⟩) (by assumption) ?_
          case refine_2 => ((intro w hSw; (try dsimp only at hSw); go_simp); try with_reducible rfl)
          try simp only [Act.put, List.setIfInBounds_toArray, List.set_cons_zero, List.set_cons_succ]
          refine wpAnyH_take (i := 15) (oi := { dst := some 96, op := _, type := _, pos := _, after := _, guard := _ }) (v := ?_) rfl (by kernel_rfl) (by kernel_rfl) (by kernel_rfl) (fun _ _ _ h => h) (Or.inl ⟨by rfl, ?_⟩) (by assumption) ?_
          case refine_2 => ((intro w hSw; (try dsimp only at hSw); go_simp); try with_reducible rfl)
          try simp only [Act.put, List.setIfInBounds_toArray, List.set_cons_zero, List.set_cons_succ]
          refine wpAnyH_take (i := 17) (oi := { dst := some 98, op := _, type := _, pos := _, after := _, guard := _ }) (v := ?_) rfl (by kernel_rfl) (by kernel_rfl) (by kernel_rfl) (fun _ _ _ h => h) (Or.inl ⟨by rfl, ?_⟩) (by assumption) ?_
          case refine_2 => ((intro w hSw; (try dsimp only at hSw); go_simp); try with_reducible rfl)
          try simp only [Act.put, List.setIfInBounds_toArray, List.set_cons_zero, List.set_cons_succ]
          refine wpAnyH_take (i := 18) (oi := { dst := some 99, op := _, type := _, pos := _, after := _, guard := _ }) (v := ?_) rfl (by kernel_rfl) (by kernel_rfl) (by kernel_rfl) (fun _ _ _ h => h) (Or.inl ⟨by rfl, ?_⟩) (by assumption) ?_
          case refine_2 => ((intro w hSw; (try dsimp only at hSw); go_simp); try with_reducible rfl)
          try simp only [Act.put, List.setIfInBounds_toArray, List.set_cons_zero, List.set_cons_succ]
          refine wpAnyH_take (i := 19) (oi := { dst := some 100, op := _, type := _, pos := _, after := _, guard := _ }) (v := ?_) rfl (by kernel_rfl) (by kernel_rfl) (by kernel_rfl) (fun _ _ _ h => h) (Or.inl ⟨by rfl, ?_⟩) (by assumption) ?_
          case refine_2 => ((intro w hSw; (try dsimp only at hSw); go_simp); try with_reducible rfl)
          try simp only [Act.put, List.setIfInBounds_toArray, List.set_cons_zero, List.set_cons_succ]
          refine wpAnyH_take (i := 20) (oi := { dst := some 101, op := _, type := _, pos := _, after := _, guard := _ }) (v := ?_) rfl (by kernel_rfl) (by kernel_rfl) (by kernel_rfl) (fun _ _ _ h => h) (Or.inl ⟨by rfl, ?_⟩) (by assumption) ?_
          case refine_2 => ((intro w hSw; (try dsimp only at hSw); go_simp); try with_reducible rfl)
          try simp only [Act.put, List.setIfInBounds_toArray, List.set_cons_zero, List.set_cons_succ]
          refine wpAnyH_take (i := 21) (oi := { dst := some 102, op := _, type := _, pos := _, after := _, guard := _ }) (v := ?_) rfl (by kernel_rfl) (by kernel_rfl) (by kernel_rfl) (fun _ _ _ h => h) (Or.inl ⟨by rfl, ?_⟩) (by assumption) ?_
          case refine_2 => ((intro w hSw; (try dsimp only at hSw); go_simp); try with_reducible rfl)
          try simp only [Act.put, List.setIfInBounds_toArray, List.set_cons_zero, List.set_cons_succ]
          refine wpAnyH_take (i := 22) (oi := { dst := some 103, op := _, type := _, pos := _, after := _, guard := _ }) (v := ?_) rfl (by kernel_rfl) (by kernel_rfl) (by kernel_rfl) (fun _ _ _ h => h) (Or.inl ⟨by rfl, ?_⟩) (by assumption) ?_
          case refine_2 => ((intro w hSw; (try dsimp only at hSw); go_simp); try with_reducible rfl)
          try simp only [Act.put, List.setIfInBounds_toArray, List.set_cons_zero, List.set_cons_succ]
          refine wpAnyH_ready (rs := [16, 23]) (by kernel_rfl) (by simp) ?_
          refine AllReadyH.cons (o := { dst := some 97, op := _, type := _, pos := _, after := _, guard := _ }) rfl (fun K hK => ?_) (AllReadyH.cons (o := { dst := some 104, op := _, type := _, pos := _, after := _, guard := _ }) rfl (fun K hK => ?_) AllReadyH.nil)
          · skip
            go_simp
            refine hK.out _ _ (q2) (fun hHeld => ?_)
            clear hK K
            try simp only [Act.put, List.setIfInBounds_toArray, List.set_cons_zero, List.set_cons_succ]
            refine wpAnyH_ready (rs := [23]) (by kernel_rfl) (by simp) ?_
            refine AllReadyH.cons (o := { dst := some 104, op := _, type := _, pos := _, after := _, guard := _ }) rfl (fun K hK => ?_) AllReadyH.nil
            go_simp
            refine hK.out _ _ (q2) (fun hHeld => ?_)
            clear hK K
            try simp only [Act.put, List.setIfInBounds_toArray, List.set_cons_zero, List.set_cons_succ]
            refine wpAnyH_take (i := 24) (oi := { dst := some 105, op := _, type := _, pos := _, after := _, guard := _ }) (v := ?_) rfl (by kernel_rfl) (by kernel_rfl) (by kernel_rfl) (fun _ _ _ h => h) (Or.inl ⟨by rfl, ?_⟩) (by assumption) ?_
            case refine_2 => ((intro w hSw; (try dsimp only at hSw); go_simp); try with_reducible rfl)
            try simp only [Act.put, List.setIfInBounds_toArray, List.set_cons_zero, List.set_cons_succ]
            refine wpAnyH_ready (rs := [25]) (by kernel_rfl) (by simp) ?_
            refine AllReadyH.cons (o := { dst := none, op := _, type := _, pos := _, after := _, guard := _ }) rfl (fun K hK => ?_) AllReadyH.nil
            go_simp
            refine hK.out _ _ ((HPw.out.store i him2 (cu, pu)).1.cells.2.2.1) (fun hHeld => ?_)
            clear hK K
            try simp only [Act.put, List.setIfInBounds_toArray, List.set_cons_zero, List.set_cons_succ]
            have HPL3 := Lib.hid (HPw.out.store i him2 (cu, pu))
            obtain ⟨W2, hW2⟩ : ∃ W2, W2 = (wr.setCell ⟨g, i * 2, none⟩ (.int .i64 cu)).setCell ⟨g, i * 2 + 1, none⟩ (.int .i64 pu) := ⟨_, rfl⟩
            rw [← hW2]
            rw [show (wr.setCell ⟨g, i * 2, none⟩ (.int .i64 cu)).setCell ⟨g, i * 2 + 1, none⟩ (.int .i64 pu) = W2 from hW2.symm] at HPL3
            clear hW2 hHeld
            have hHeld : W2.drew.cell? ⟨Bp, 1, none⟩ = some (.slice (some ⟨g, 0, none⟩) m c2) := HPL3.out.1.cells.2.2.1
            obtain ⟨x1, x2, u3, u4⟩ := HPL3.out.1.2.cells b hbm
            obtain ⟨j1, j2⟩ := HPL3.out.1.2.half b hbm (.int .i64 ci)
            refine wpAnyH_take (i := 26) (oi := { dst := some 106, op := _, type := _, pos := _, after := _, guard := _ }) (v := ?_) rfl (by kernel_rfl) (by kernel_rfl) (by kernel_rfl) (fun _ _ _ h => h) (Or.inl ⟨by rfl, ?_⟩) (by assumption) ?_
            case refine_2 => ((intro w hSw; (try dsimp only at hSw); go_simp); try with_reducible rfl)
            try simp only [Act.put, List.setIfInBounds_toArray, List.set_cons_zero, List.set_cons_succ]
            refine wpAnyH_ready (rs := [27]) (by kernel_rfl) (by simp) ?_
            refine AllReadyH.cons (o := { dst := none, op := _, type := _, pos := _, after := _, guard := _ }) rfl (fun K hK => ?_) AllReadyH.nil
            go_simp
            refine hK.out _ _ ((HPL3.out.1.store b hbm (ci, pi)).1.cells.2.2.1) (fun hHeld => ?_)
            clear hK K
            try simp only [Act.put, List.setIfInBounds_toArray, List.set_cons_zero, List.set_cons_succ]
            have HPL4 := Lib.hid (HPL3.out.1.store b hbm (ci, pi)).1
            have hg4 := (HPL3.out.1.store b hbm (ci, pi)).2
            refine wpAnyH_done (by kernel_rfl) ?_ _
            clear hHeld
            go_wp2
            have hsw : (L1.set i (cu, pu)).set b (ci, pi) = swapL L1 i b := by rw [HCi.out, HPi.out, HCu.out, HPu.out]; rfl
            have hgg : ∀ k, some g = some k → k = Bp ∨ some g = some k ∨ w.heap.size ≤ k := fun k e => .inr (.inl e)
            have hiL : i < L1.length := by rw [HLl1.out]; exact him2
            have hbL : b < L1.length := by rw [HLl1.out]; exact hbm
            refine ⟨⟨b, swapL L1 i b, .inl hbm, rfl, by rw [swap_len]; exact HLl1.out, dn_step HD1.out hbL HBp.out hb0 HBg.out (fun j h1 h2 h3 => HAll.out j h1 (by rw [← HLl1.out]; exact h2) h3), (swap_perm L1 hiL hbL).trans HPm1.out, by rw [← hsw]; exact HPL4.out, ((HKs.out.grown HPL3.out.2 hgg).grown hg4 hgg).below (below_drewN (Below.refl _ _) 1), ((HRs.out.grown HPL3.out.2 (by simp; omega) (by simp; omega)).grown hg4 (by simp; omega) (by simp; omega)).below (below_drewN (Below.refl _ _) 1)⟩, ?_⟩
            show m - (b : Int).toNat < m - (i : Int).toNat
            omega
          · skip
            go_simp
            refine hK.out _ _ (q2) (fun hHeld => ?_)
            clear hK K
            try simp only [Act.put, List.setIfInBounds_toArray, List.set_cons_zero, List.set_cons_succ]
            refine wpAnyH_ready (rs := [16]) (by kernel_rfl) (by simp) ?_
            refine AllReadyH.cons (o := { dst := some 97, op := _, type := _, pos := _, after := _, guard := _ }) rfl (fun K hK => ?_) AllReadyH.nil
            go_simp
            refine hK.out _ _ (q2) (fun hHeld => ?_)
            clear hK K
            try simp only [Act.put, List.setIfInBounds_toArray, List.set_cons_zero, List.set_cons_succ]
            refine wpAnyH_take (i := 24) (oi := { dst := some 105, op := _, type := _, pos := _, after := _, guard := _ }) (v := ?_) rfl (by kernel_rfl) (by kernel_rfl) (by kernel_rfl) (fun _ _ _ h => h) (Or.inl ⟨by rfl, ?_⟩) (by assumption) ?_
            case refine_2 => ((intro w hSw; (try dsimp only at hSw); go_simp); try with_reducible rfl)
            try simp only [Act.put, List.setIfInBounds_toArray, List.set_cons_zero, List.set_cons_succ]
            refine wpAnyH_ready (rs := [25]) (by kernel_rfl) (by simp) ?_
            refine AllReadyH.cons (o := { dst := none, op := _, type := _, pos := _, after := _, guard := _ }) rfl (fun K hK => ?_) AllReadyH.nil
            go_simp
            refine hK.out _ _ ((HPw.out.store i him2 (cu, pu)).1.cells.2.2.1) (fun hHeld => ?_)
            clear hK K
            try simp only [Act.put, List.setIfInBounds_toArray, List.set_cons_zero, List.set_cons_succ]
            have HPL3 := Lib.hid (HPw.out.store i him2 (cu, pu))
            obtain ⟨W2, hW2⟩ : ∃ W2, W2 = (wr.setCell ⟨g, i * 2, none⟩ (.int .i64 cu)).setCell ⟨g, i * 2 + 1, none⟩ (.int .i64 pu) := ⟨_, rfl⟩
            rw [← hW2]
            rw [show (wr.setCell ⟨g, i * 2, none⟩ (.int .i64 cu)).setCell ⟨g, i * 2 + 1, none⟩ (.int .i64 pu) = W2 from hW2.symm] at HPL3
            clear hW2 hHeld
            have hHeld : W2.drew.cell? ⟨Bp, 1, none⟩ = some (.slice (some ⟨g, 0, none⟩) m c2) := HPL3.out.1.cells.2.2.1
            obtain ⟨x1, x2, u3, u4⟩ := HPL3.out.1.2.cells b hbm
            obtain ⟨j1, j2⟩ := HPL3.out.1.2.half b hbm (.int .i64 ci)
            refine wpAnyH_take (i := 26) (oi := { dst := some 106, op := _, type := _, pos := _, after := _, guard := _ }) (v := ?_) rfl (by kernel_rfl) (by kernel_rfl) (by kernel_rfl) (fun _ _ _ h => h) (Or.inl ⟨by rfl, ?_⟩) (by assumption) ?_
            case refine_2 => ((intro w hSw; (try dsimp only at hSw); go_simp); try with_reducible rfl)
            try simp only [Act.put, List.setIfInBounds_toArray, List.set_cons_zero, List.set_cons_succ]
            refine wpAnyH_ready (rs := [27]) (by kernel_rfl) (by simp) ?_
            refine AllReadyH.cons (o := { dst := none, op := _, type := _, pos := _, after := _, guard := _ }) rfl (fun K hK => ?_) AllReadyH.nil
            go_simp
            refine hK.out _ _ ((HPL3.out.1.store b hbm (ci, pi)).1.cells.2.2.1) (fun hHeld => ?_)
            clear hK K
            try simp only [Act.put, List.setIfInBounds_toArray, List.set_cons_zero, List.set_cons_succ]
            have HPL4 := Lib.hid (HPL3.out.1.store b hbm (ci, pi)).1
            have hg4 := (HPL3.out.1.store b hbm (ci, pi)).2
            refine wpAnyH_done (by kernel_rfl) ?_ _
            clear hHeld
            go_wp2
            have hsw : (L1.set i (cu, pu)).set b (ci, pi) = swapL L1 i b := by rw [HCi.out, HPi.out, HCu.out, HPu.out]; rfl
            have hgg : ∀ k, some g = some k → k = Bp ∨ some g = some k ∨ w.heap.size ≤ k := fun k e => .inr (.inl e)
            have hiL : i < L1.length := by rw [HLl1.out]; exact him2
            have hbL : b < L1.length := by rw [HLl1.out]; exact hbm
            refine ⟨⟨b, swapL L1 i b, .inl hbm, rfl, by rw [swap_len]; exact HLl1.out, dn_step HD1.out hbL HBp.out hb0 HBg.out (fun j h1 h2 h3 => HAll.out j h1 (by rw [← HLl1.out]; exact h2) h3), (swap_perm L1 hiL hbL).trans HPm1.out, by rw [← hsw]; exact HPL4.out, ((HKs.out.grown HPL3.out.2 hgg).grown hg4 hgg).below (below_drewN (Below.refl _ _) 1), ((HRs.out.grown HPL3.out.2 (by simp; omega) (by simp; omega)).grown hg4 (by simp; omega) (by simp; omega)).below (below_drewN (Below.refl _ _) 1)⟩, ?_⟩
            show m - (b : Int).toNat < m - (i : Int).toNat
            omega

end Go.Proofs.Ytkhhloeemecokaa
