/- Contracts: blank, index, at of the program's fields. -/
import Derived.Test.YtkhhloeemecokaaMat
import Derived.Test.YtkhhloeemecokaaPlainG
import Derived.Test.YtkhhloeemecokaaValid
import Derived.IntWalk
import Derived.OneCell
import Derived.Laws.ResultCell
import Derived.Deep.RegionHeld3
namespace Go.Proofs.Ytkhhloeemecokaa
open Go.RowKit
set_option linter.unusedVariables false

theorem results_cell1 {fn : Func} {p : Tmp} {ty : TypeId} (h : fn.results = #[.cell p ty]) (tmps : Array Value) (P : Program) (w : World) :
    (results fn tmps).run P w = ((asAddr (tmps.getD p undef)).run P w).andThen fun a w₁ => (loadVar ty a).run P w₁ := by
  simp only [results, h]
  simp [Sem.run_bind, Result.andThen]

/-- A field's block. -/
def FldAt (B R C : Nat) (s : Value) (w : World) : Prop := w.heap[B]? = some (.cells #[.int .i64 R, .int .i64 C, s] 49 (0, 0))
theorem FldAt.cells {B R C : Nat} {s : Value} {wr : World} (h : FldAt B R C s wr) : B < wr.heap.size ∧ wr.cell? ⟨B, 0, none⟩ = some (.int .i64 R) ∧ wr.cell? ⟨B, 1, none⟩ = some (.int .i64 C) ∧ wr.cell? ⟨B, 2, none⟩ = some s := by
  unfold FldAt at h
  exact ⟨(Array.getElem?_eq_some_iff.1 h).1, by rw [cell_of_row _ B 0 _ _ (0, 0) h]; rfl, by rw [cell_of_row _ B 1 _ _ (0, 0) h]; rfl, by rw [cell_of_row _ B 2 _ _ (0, 0) h]; rfl⟩
theorem FldAt.free {B R C : Nat} {s : Value} {wr : World} (h : FldAt B R C s wr) : wr.frozen? ⟨B, 0, none⟩ = false ∧ wr.frozen? ⟨B, 1, none⟩ = false ∧ wr.frozen? ⟨B, 2, none⟩ = false := by
  unfold FldAt at h
  exact ⟨by simp [World.frozen?, h], by simp [World.frozen?, h], by simp [World.frozen?, h]⟩
theorem FldAt.below {B R C : Nat} {s : Value} {wr w' : World} (h : FldAt B R C s wr) (hb : Below wr.heap.size wr w') : FldAt B R C s w' := by
  have hl := h.cells.1
  unfold FldAt at *
  exact (hb.block B hl).trans h
theorem FldAt.new (w : World) (R C : Nat) (s : Value) : FldAt w.heap.size R C s (w.alloc (.cells #[.int .i64 R, .int .i64 C, s] 49)) := heap_alloc_new w _
theorem FldAt.grown {B R C : Nat} {s : Value} {wr w' : World} {r : Option Nat} (h : FldAt B R C s wr) (hg : wr.grownBy w' r) (hr : r ≠ some B) : FldAt B R C s w' := by
  have hl := h.cells.1
  unfold FldAt at *
  exact (hg.block B hl (Ne.symm hr)).trans h
theorem FldAt.put {B R C : Nat} {s : Value} {wr : World} (h : FldAt B R C s wr) (R' C' : Nat) (s' : Value) : FldAt B R' C' s' (((wr.setCell ⟨B, 0, none⟩ (.int .i64 R')).setCell ⟨B, 1, none⟩ (.int .i64 C')).setCell ⟨B, 2, none⟩ s') := by
  have hl := h.cells.1
  unfold FldAt at *
  have he := (Array.getElem?_eq_some_iff.1 h).2
  simp [World.setCell, hl, Array.getElem_modify, he]
theorem Own.set3 {w : World} {B : Nat} {v : Value} {zs : List Int} (h : Own w B v zs) {g : Nat} (hg : g < B) (x y z : Value) : Own (((w.setCell ⟨g, 0, none⟩ x).setCell ⟨g, 1, none⟩ y).setCell ⟨g, 2, none⟩ z) B v zs := by
  have hne : ∀ (w' : World), Own w' B v zs → ∀ k, v.ownBlock = some k → k ≠ g := fun w' h k hk => by have := (h.lt k hk).1; omega
  have h1 := h.setOther (hne _ h) 0 x
  have h2 := h1.setOther (hne _ h1) 1 y
  exact h2.setOther (hne _ h2) 2 z
theorem below_set3 {B : Nat} {w0 w : World} (h : Below B w0 w) {g : Nat} (hg : B ≤ g) (x y z : Value) : Below B w0 (((w.setCell ⟨g, 0, none⟩ x).setCell ⟨g, 1, none⟩ y).setCell ⟨g, 2, none⟩ z) :=
  ((h.setCell (p := ⟨g, 0, none⟩) hg _).setCell (p := ⟨g, 1, none⟩) hg _).setCell (p := ⟨g, 2, none⟩) hg _
theorem FldAt.zero (w : World) : FldAt w.heap.size 0 0 (.slice none 0 0) (w.alloc (.cells #[.int .i64 0, .int .i64 0, .slice none 0 0] 49)) := FldAt.new w 0 0 (.slice none 0 0)
theorem FldAt.other {B R C : Nat} {s : Value} {wr : World} (h : FldAt B R C s wr) {g : Nat} (hg : g ≠ B) (i : Nat) (x : Value) : FldAt B R C s (wr.setCell ⟨g, i, none⟩ x) := by
  unfold FldAt at *
  rw [heap_setCell_other wr ⟨g, i, none⟩ B x (fun e => hg (by simpa using e.symm))]
  exact h

theorem index_any (R C r c P : Nat) (a : Option Addr) (n cap : Nat) (w : World) (hP : P = r * C) (hb : P + c ≤ 10000) :
    Calls Try.prog 61 #[.agg #[.int .i64 R, .int .i64 C, .slice a n cap], .int .i64 r, .int .i64 c] w fun e w' => e = .returned (.int .i64 ((P : Int) + c)) ∧ w' = w.alloc (.cells #[.int .i64 R, .int .i64 C, .slice a n cap] 49) := by
  have t1 : (r : Int) * (C : Int) = (P : Int) := by rw [hP]; simp
  clear hP
  go_enter Try.func61, Try.ntmps61
  go_wp2
  go_ret
  exact ⟨rfl, rfl⟩

/-- What blank gives. -/
def GivesBlank (R C N : Nat) (w : World) (e : Ending) (w' : World) : Prop :=
  ∃ g, e = .returned (.agg #[.int .i64 R, .int .i64 C, .slice (some ⟨g, 0, none⟩) N N]) ∧ w.heap.size ≤ g ∧ Own w' w.heap.size (.slice (some ⟨g, 0, none⟩) N N) (List.replicate N 0) ∧ Below w.heap.size w w'
theorem blank_any (R C N : Nat) (w : World) (hN : N = R * C) (hb : N ≤ 10000) :
    Calls Try.prog 59 #[.int .i64 R, .int .i64 C] w (GivesBlank R C N w) := by
  have t1 : (R : Int) * (C : Int) = (N : Int) := by rw [hN]; simp
  obtain ⟨i0, hi, hz0, hz1, hz2⟩ := info_parts Try.infoInt
  clear hN
  go_enter Try.func59, Try.ntmps59
  go_wp2_with (at_make; refine wpList_make_full _ rfl _ _ 28 rfl (w.heap.size + 1) 3 i0 (.int .i64 0) 1 Try.underlying28 hi hz0 hz1 .i64 .i64 _ _ N rfl rfl rfl rfl (by rw [hz2]; omega) (by unfold maxLen; omega) (by simp) ?_; intro w1 hown hgrow; (have F1 := (FldAt.zero w).grown hgrow (by simp)); (obtain ⟨f1, f2, f3, f4⟩ := F1.cells); (obtain ⟨f5, f6, f7⟩ := F1.free))
  (try simp only [Exit.inBlock, Exit.then])
  have b0 := (Below.alloc (Below.refl w.heap.size w) (Nat.le_refl _) (.cells #[.int .i64 0, .int .i64 0, .slice none 0 0] 49)).grown hgrow (by simp) (fun k e => by cases e)
  rw [show (w.alloc (.cells #[.int .i64 0, .int .i64 0, .slice none 0 0] 49)).heap.size = w.heap.size + 1 by simp] at hown
  refine bodyPost_ret (v := .agg #[.int .i64 R, .int .i64 C, .slice (some ⟨w.heap.size + 1, 0, none⟩) N N]) ?_ rfl ⟨w.heap.size + 1, rfl, by omega, ((Own.made hown).set3 (by omega) _ _ _).mono (by omega), below_set3 b0 (Nat.le_refl _) _ _ _⟩
  rw [results_cell1 rfl]
  go_simp

end Go.Proofs.Ytkhhloeemecokaa
