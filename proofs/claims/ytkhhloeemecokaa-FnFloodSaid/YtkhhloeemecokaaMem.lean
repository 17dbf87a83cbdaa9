/- Memory words for slices of ints: 'Row' (a slice reads as a list), 'Own' (a slice of the call's own), and how both are kept. -/
import Derived.WalkKit
import Derived.Lib.Hide
import Derived.Below
import Derived.WalkSpells
import Derived.WalkLawsBesides
namespace Go.Proofs.Ytkhhloeemecokaa
open Go.RowKit

theorem ret_int {k : IntKind} {a b : Int} (h : a = b) : Ending.returned (.int k a) = .returned (.int k b) := by rw [h]
theorem ret_bool {a b : Bool} (h : a = b) : Ending.returned (.bool a) = .returned (.bool b) := by rw [h]

theorem val_int {k : IntKind} {a b : Int} (h : a = b) : Value.int k a = Value.int k b := by rw [h]

/-- The slice value reads as the list zs. -/
def Row (w : World) (v : Value) (zs : List Int) : Prop :=
  ∃ a cap, v = .slice a zs.length cap ∧ (zs = [] ∨ ∃ b off, a = some ⟨b, off, none⟩ ∧ ∀ i, i < zs.length → w.cell? ⟨b, off + i, none⟩ = some (.int .i64 (zs.getD i 0)))

/-- The slice value is the call's own, in a block from B on, and reads as zs. -/
def Own (w : World) (B : Nat) (v : Value) (zs : List Int) : Prop :=
  w.ownsRow B 3 1 v zs.length (zs.map (Value.int .i64))

theorem Own.row {w : World} {B : Nat} {v : Value} {zs : List Int} (h : Own w B v zs) : Row w v zs := by
  rcases h.2 with ⟨hv, hn⟩ | ⟨g, cap, cur, hv, hB, hh, hle, hm, hs, ht⟩
  · have : zs = [] := List.eq_nil_of_length_eq_zero hn
    subst this
    exact ⟨none, 0, hv, .inl rfl⟩
  · refine ⟨some ⟨g, 0, none⟩, cap, hv, .inr ⟨g, 0, rfl, fun i hi => ?_⟩⟩
    subst hv
    have := World.ownsRow.cellAt h i (by omega)
    rw [Nat.zero_add, this]
    simp [hi]

theorem Own.nil (w : World) (B : Nat) : Own w B (.slice none 0 0) [] := World.ownsRow_nil w B 3 1

theorem Own.lt {w : World} {B : Nat} {v : Value} {zs : List Int} (h : Own w B v zs) : ∀ k, v.ownBlock = some k → B ≤ k ∧ k < w.heap.size := World.ownsRow.lt h

theorem Own.shape {w : World} {B : Nat} {v : Value} {zs : List Int} (h : Own w B v zs) : ∃ a cap, v = .slice a zs.length cap := by
  rcases h.2 with ⟨hv, hn⟩ | ⟨g, cap, cur, hv, _⟩
  · exact ⟨none, 0, by rw [hv, hn]⟩
  · exact ⟨_, _, hv⟩

theorem Own.mono {w : World} {B B' : Nat} {v : Value} {zs : List Int} (h : Own w B v zs) (hB : B' ≤ B) : Own w B' v zs := by
  refine ⟨h.1, ?_⟩
  rcases h.2 with hn | ⟨g, cap, cur, hv, hb, r⟩
  · exact .inl hn
  · exact .inr ⟨g, cap, cur, hv, by omega, r⟩

theorem Own.kept {w w' : World} {B : Nat} {v : Value} {zs : List Int} {r : Option Nat} (h : Own w B v zs) (hg : w.grownBy w' r) (hne : ∀ k, v.ownBlock = some k → r ≠ some k) : Own w' B v zs := by
  refine World.ownsRow.kept h hg ?_
  cases hv : v.ownBlock with
  | none => exact .inl rfl
  | some k => exact .inr fun e => hne k hv e.symm

/-- Kept while only a block below B is written. -/
theorem Own.grown {w w' : World} {B : Nat} {v : Value} {zs : List Int} {r : Option Nat} (h : Own w B v zs) (hg : w.grownBy w' r) (hne : ∀ k, r = some k → k < B) : Own w' B v zs := by
  refine h.kept hg fun k hk e => ?_
  have := hne k e
  have := (h.lt k hk).1
  omega

theorem grownBy_of_below {w w' : World} (h : Below w.heap.size w w') (r : Option Nat) : w.grownBy w' r :=
  ⟨h.os, h.tape, h.output, h.size, fun k hk _ => h.block k hk⟩

theorem Own.below {w w' : World} {B : Nat} {v : Value} {zs : List Int} (h : Own w B v zs) (hb : Below w.heap.size w w') : Own w' B v zs :=
  h.kept (grownBy_of_below hb none) (fun _ _ e => by cases e)

theorem Row.below {w w' : World} {v : Value} {zs : List Int} (h : Row w v zs) (hb : Below w.heap.size w w') : Row w' v zs := by
  obtain ⟨a, cap, hv, h⟩ := h
  refine ⟨a, cap, hv, ?_⟩
  rcases h with h | ⟨b, off, ha, hc⟩
  · exact .inl h
  · exact .inr ⟨b, off, ha, fun i hi => by rw [hb.cell (World.block_lt_of_cell? w _ (hc i hi))]; exact hc i hi⟩

/-- A row that lies below B is kept while nothing below B is written. -/
theorem Row.below' {w w1 w2 : World} {B : Nat} {v : Value} {zs : List Int} (h : Row w v zs) (hB : w.heap.size ≤ B) (h1 : Below w.heap.size w w1) (hb : Below B w1 w2) : Row w2 v zs :=
  (h.below (h1.trans (hb.mono hB)))

theorem below_of_grown {w w' : World} {r : Option Nat} {B : Nat} (hg : w.grownBy w' r) (hB : B ≤ w.heap.size) (hr : ∀ k, r = some k → B ≤ k) : Below B w w' :=
  (Below.refl B w).grown hg hB hr

/-- What a call gives that returns a new slice of ints. -/
def GivesRow (zs : List Int) (w : World) (e : Ending) (w' : World) : Prop :=
  ∃ a cap, e = .returned (.slice a zs.length cap) ∧ Own w' w.heap.size (.slice a zs.length cap) zs ∧ Below w.heap.size w w'

/-- What a call gives that returns a new slice of ints and a bool. -/
def GivesRowB (zs : List Int) (b : Bool) (w : World) (e : Ending) (w' : World) : Prop :=
  ∃ a cap, e = .returned (.tuple #[.slice a zs.length cap, .bool b]) ∧ Own w' w.heap.size (.slice a zs.length cap) zs ∧ Below w.heap.size w w'

theorem GivesRowB.nil (w : World) (b : Bool) : GivesRowB [] b w (.returned (.tuple #[.slice none 0 0, .bool b])) w := ⟨none, 0, rfl, Own.nil _ _, Below.refl _ _⟩

theorem bcell {W w1 : World} (hb : Below W.heap.size W w1) : (∀ b o, b < W.heap.size → w1.cell? ⟨b, o, none⟩ = W.cell? ⟨b, o, none⟩) ∧ (∀ b o, b < W.heap.size → w1.frozen? ⟨b, o, none⟩ = W.frozen? ⟨b, o, none⟩) :=
  ⟨fun b o h => hb.cell (p := ⟨b, o, none⟩) h, fun b o h => hb.frozen (p := ⟨b, o, none⟩) h⟩

theorem Row.shape {w : World} {v : Value} {zs : List Int} (h : Row w v zs) : ∃ a cap, v = .slice a zs.length cap := by
  obtain ⟨a, cap, hv, _⟩ := h
  exact ⟨a, cap, hv⟩

/-- The cells of a row, at its address. -/
theorem Row.cells {w : World} {a : Option Addr} {n cap : Nat} {zs : List Int} (h : Row w (.slice a n cap) zs) :
    n = zs.length ∧ ∀ i, i < n → ∃ b off, a = some ⟨b, off, none⟩ ∧ w.cell? ⟨b, off + i, none⟩ = some (.int .i64 (zs.getD i 0)) := by
  obtain ⟨a', cap', hv, h⟩ := h
  simp only [Value.slice.injEq] at hv
  obtain ⟨rfl, rfl, rfl⟩ := hv
  refine ⟨rfl, fun i hi => ?_⟩
  rcases h with h | ⟨b, off, ha, hc⟩
  · subst h; simp at hi
  · exact ⟨b, off, ha, hc i hi⟩

theorem Own.len {w : World} {B n cap : Nat} {a : Option Addr} {zs : List Int} (h : Own w B (.slice a n cap) zs) : n = zs.length := by
  obtain ⟨a', cap', hv⟩ := h.shape
  simp only [Value.slice.injEq] at hv
  exact hv.2.1

theorem Own.owns {w : World} {B n cap : Nat} {a : Option Addr} {zs : List Int} (h : Own w B (.slice a n cap) zs) : w.ownsRow B 3 1 (.slice a n cap) n (zs.map (Value.int .i64)) := by
  obtain rfl := h.len
  exact h

theorem Own.cellAt {w : World} {B g n cap : Nat} {zs : List Int} (h : Own w B (.slice (some ⟨g, 0, none⟩) n cap) zs) (i : Nat) (hi : i < n) : w.cell? ⟨g, i, none⟩ = some (.int .i64 (zs.getD i 0)) := by
  obtain rfl := h.len
  rw [World.ownsRow.cellAt h i (by omega)]
  simp [hi]

theorem Own.frozenAt {w : World} {B g n cap : Nat} {zs : List Int} (h : Own w B (.slice (some ⟨g, 0, none⟩) n cap) zs) (i : Nat) : w.frozen? ⟨g, i, none⟩ = false := by
  obtain rfl := h.len
  exact World.ownsRow.frozenAt h i

theorem Own.store {w : World} {B g n cap : Nat} {zs : List Int} (h : Own w B (.slice (some ⟨g, 0, none⟩) n cap) zs) (i : Nat) (x : Int) :
    Own (w.setCell ⟨g, i, none⟩ (.int .i64 x)) B (.slice (some ⟨g, 0, none⟩) n cap) (zs.set i x) ∧ w.grownBy (w.setCell ⟨g, i, none⟩ (.int .i64 x)) (some g) := by
  obtain rfl := h.len
  have := World.ownsRow.stored h i (.int .i64 x)
  refine ⟨?_, this.2⟩
  unfold Own
  rw [List.length_set, List.map_set]
  exact this.1

theorem Own.made {w : World} {B g n : Nat} (h : w.ownsRow B 3 1 (.slice (some ⟨g, 0, none⟩) n n) n (madeCells (Value.int .i64 0).cells (n * 1)).toList) : Own w B (.slice (some ⟨g, 0, none⟩) n n) (List.replicate n 0) := by
  unfold Own
  have e : (madeCells (Value.int .i64 0).cells (n * 1)).toList = (List.replicate n (0 : Int)).map (Value.int .i64) := by
    rw [Nat.mul_one]
    show (madeCells #[Value.int .i64 0] n).toList = _
    rw [toList_madeCells_one]
    simp
  rw [e] at h
  simpa using h

theorem below_setCell_own {w0 w : World} {B g : Nat} (h : Below B w0 w) (hg : B ≤ g) (i : Nat) (x : Value) : Below B w0 (w.setCell ⟨g, i, none⟩ x) := h.setCell hg x

theorem getD_set_eq (zs : List Int) (i : Nat) (x : Int) (h : i < zs.length) : (zs.set i x).getD i 0 = x := by simp [h]

theorem fill_step (zs : List Int) (k : Nat) (h : k < zs.length) :
    (zs.take k ++ List.replicate (zs.length - k) 0).set k (zs.getD k 0) = zs.take (k + 1) ++ List.replicate (zs.length - (k + 1)) 0 := by
  have hk : (zs.take k).length = k := by simp; omega
  rw [List.set_append_right _ _ (by omega), hk, Nat.sub_self]
  rw [show zs.length - k = (zs.length - (k + 1)) + 1 from by omega, List.replicate_succ, List.set_cons_zero]
  rw [List.take_succ_eq_append_getElem h, List.append_assoc, List.singleton_append, List.getD_eq_getElem?_getD, List.getElem?_eq_getElem h]
  rfl

theorem fill_step' (zs : List Int) (n k : Nat) (hn : n = zs.length) (h : k < n) :
    (zs.take k ++ List.replicate (n - k) 0).set k (zs.getD k 0) = zs.take (k + 1) ++ List.replicate (n - (k + 1)) 0 := by
  subst hn
  exact fill_step zs k h

theorem GivesRow.mk {zs : List Int} {w w' : World} {a : Option Addr} {n cap : Nat} (hn : n = zs.length) (ho : Own w' w.heap.size (.slice a n cap) zs) (hb : Below w.heap.size w w') :
    GivesRow zs w (.returned (.slice a n cap)) w' := by
  subst hn
  exact ⟨a, cap, rfl, ho, hb⟩

theorem GivesRowB.mk {zs : List Int} {b : Bool} {w w' : World} {a : Option Addr} {n cap : Nat} (hn : n = zs.length) (ho : Own w' w.heap.size (.slice a n cap) zs) (hb : Below w.heap.size w w') :
    GivesRowB zs b w (.returned (.tuple #[.slice a n cap, .bool b])) w' := by
  subst hn
  exact ⟨a, cap, rfl, ho, hb⟩

theorem GivesRowB.of {zs : List Int} {b : Bool} {w w' : World} {v : Value} (ho : Own w' w.heap.size v zs) (hb : Below w.heap.size w w') : GivesRowB zs b w (.returned (.tuple #[v, .bool b])) w' := by
  obtain ⟨a, cap, rfl⟩ := ho.shape
  exact ⟨a, cap, rfl, ho, hb⟩
theorem GivesRow.of {zs : List Int} {w w' : World} {v : Value} (ho : Own w' w.heap.size v zs) (hb : Below w.heap.size w w') : GivesRow zs w (.returned v) w' := by
  obtain ⟨a, cap, rfl⟩ := ho.shape
  exact ⟨a, cap, rfl, ho, hb⟩

theorem Row.drewN {w : World} {v : Value} {zs : List Int} (h : Row w v zs) (n : Nat) : Row (w.drewN n) v zs := h
theorem Own.drewN {w : World} {B : Nat} {v : Value} {zs : List Int} (h : Own w B v zs) (n : Nat) : Own (w.drewN n) B v zs := h

theorem take_eq_step (xs ys : List Int) (k : Nat) (hk : k < xs.length) (hk' : k < ys.length) (h : xs.take k = ys.take k) (e : xs.getD k 0 = ys.getD k 0) : xs.take (k + 1) = ys.take (k + 1) := by
  rw [List.take_succ_eq_append_getElem hk, List.take_succ_eq_append_getElem hk', h]
  simp [hk, hk'] at e
  rw [e]

theorem ne_of_getD (xs ys : List Int) (k : Nat) (e : ¬ xs.getD k 0 = ys.getD k 0) : ¬ xs = ys := fun h => e (by rw [h])

/-- The marks k, k + 1, .. -/
def marks (k : Int) (n : Nat) : List Int := (List.range n).map (fun i : Nat => k + (i : Int))
theorem marks_len (k : Int) (n : Nat) : (marks k n).length = n := by simp [marks]
theorem marks_getD (k : Int) (n i : Nat) (h : i < n) : (marks k n).getD i 0 = k + (i : Int) := by simp [marks, h]
theorem marks_step (zs : List Int) (m : Int) (k : Nat) (h : k < zs.length) :
    (marks m k ++ zs.drop k).set k (m + (k : Int)) = marks m (k + 1) ++ zs.drop (k + 1) := by
  rw [List.set_append_right _ _ (by rw [marks_len]; omega), marks_len, Nat.sub_self, List.drop_eq_getElem_cons h, List.set_cons_zero]
  simp [marks, List.range_succ]

theorem Own.addr {w : World} {B n cap : Nat} {a : Option Addr} {zs : List Int} (h : Own w B (.slice a n cap) zs) (hn : 0 < n) : ∃ g, a = some ⟨g, 0, none⟩ := by
  have hl := h.len
  rcases h.2 with ⟨_, h0⟩ | ⟨g, cap, cur, hv, _⟩
  · omega
  · simp only [Value.slice.injEq] at hv
    exact ⟨g, hv.1⟩

theorem grownBy_refl (w : World) (r : Option Nat) : w.grownBy w r := ⟨rfl, rfl, rfl, Nat.le_refl _, fun _ _ _ => rfl⟩
theorem grownBy_trans {w1 w2 w3 : World} {r : Option Nat} (h : w1.grownBy w2 r) (k : w2.grownBy w3 r) : w1.grownBy w3 r :=
  ⟨k.os.trans h.os, k.tape.trans h.tape, k.output.trans h.output, Nat.le_trans h.size k.size, fun i hi hne => (k.block i (Nat.lt_of_lt_of_le hi h.size) hne).trans (h.block i hi hne)⟩

theorem add_at (b off i : Nat) : (⟨b, off, none⟩ : Addr).add i = ⟨b, off + i, none⟩ := by
  unfold Addr.add
  split <;> simp_all

theorem calls_below {P : Program} {f : FuncId} {args : Array Value} {w : World} {v : Value} (h : Calls P f args w fun e w' => e = .returned v ∧ ∃ n, w' = w.drewN n) :
    Calls P f args w fun e w' => e = .returned v ∧ Below w.heap.size w w' :=
  h.mono fun _ _ ⟨he, n, hn⟩ => ⟨he, by rw [hn]; exact below_drewN (Below.refl _ _) n⟩
theorem calls_same {P : Program} {f : FuncId} {args : Array Value} {w : World} {v : Value} (h : Calls P f args w fun e w' => e = .returned v ∧ w = w') :
    Calls P f args w fun e w' => e = .returned v ∧ Below w.heap.size w w' :=
  h.mono fun _ _ ⟨he, hn⟩ => ⟨he, by rw [← hn]; exact Below.refl _ _⟩

/-- What is written to an own slice stays above. -/
theorem below_own {w0 w w' : World} {B : Nat} {v : Value} {zs : List Int} (h : Below B w0 w) (ho : Own w B v zs) (hB : B ≤ w.heap.size) (hg : w.grownBy w' v.ownBlock) : Below B w0 w' :=
  h.trans (below_of_grown hg hB (fun k e => (ho.lt k e).1))

end Go.Proofs.Ytkhhloeemecokaa
