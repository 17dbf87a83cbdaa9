/- Memory words for slices of slices of ints: 'MRow' (it reads as a list of lists), 'OwnM' (the call's own, row behind row); contracts of szIntSS, toIntSS, eqIntSS, markIntSS. -/
import Derived.Test.YtkhhloeemecokaaBase
namespace Go.Proofs.Ytkhhloeemecokaa
open Go.RowKit

/-- The value reads as the list of lists. -/
def MRow (w : World) (v : Value) (g : List (List Int)) : Prop :=
  ∃ a cap, v = .slice a g.length cap ∧ (g = [] ∨ ∃ b off, a = some ⟨b, off, none⟩ ∧ ∀ i, i < g.length → ∃ u, w.cell? ⟨b, off + i, none⟩ = some u ∧ Row w u (g.getD i []))
theorem MRow.shape {w : World} {v : Value} {g : List (List Int)} (h : MRow w v g) : ∃ a cap, v = .slice a g.length cap := by
  obtain ⟨a, cap, hv, _⟩ := h
  exact ⟨a, cap, hv⟩
theorem MRow.below {w w' : World} {v : Value} {g : List (List Int)} (h : MRow w v g) (hb : Below w.heap.size w w') : MRow w' v g := by
  obtain ⟨a, cap, hv, h⟩ := h
  refine ⟨a, cap, hv, ?_⟩
  rcases h with h | ⟨b, off, ha, hc⟩
  · exact .inl h
  · refine .inr ⟨b, off, ha, fun i hi => ?_⟩
    obtain ⟨u, h1, h2⟩ := hc i hi
    exact ⟨u, by rw [hb.cell (World.block_lt_of_cell? w _ h1)]; exact h1, h2.below hb⟩
theorem MRow.cells {w : World} {a : Option Addr} {n cap : Nat} {g : List (List Int)} (h : MRow w (.slice a n cap) g) :
    n = g.length ∧ ∀ i, i < n → ∃ b off u, a = some ⟨b, off, none⟩ ∧ w.cell? ⟨b, off + i, none⟩ = some u ∧ Row w u (g.getD i []) := by
  obtain ⟨a', cap', hv, h⟩ := h
  simp only [Value.slice.injEq] at hv
  obtain ⟨rfl, rfl, rfl⟩ := hv
  refine ⟨rfl, fun i hi => ?_⟩
  rcases h with h | ⟨b, off, ha, hc⟩
  · subst h; simp at hi
  · obtain ⟨u, h1, h2⟩ := hc i hi
    exact ⟨b, off, u, ha, h1, h2⟩

/-- The matrix is the call's own: the row i lies in a block from L i on, ahead of L (i + 1). -/
def FillM (w : World) (B : Nat) (v : Value) (n k : Nat) (g : List (List Int)) : Prop :=
  ∃ (us : List Value) (L : Nat → Nat), us.length = k ∧ w.ownsRow B 28 1 v n (us ++ List.replicate (n - k) (.slice none 0 0)) ∧ (∀ j, v.ownBlock = some j → j < L 0) ∧ (∀ i, L i ≤ L (i + 1)) ∧ L k ≤ w.heap.size ∧ B ≤ L 0 ∧
    ∀ i, i < k → Own w (L i) (us.getD i undef) (g.getD i []) ∧ ∀ j, (us.getD i undef).ownBlock = some j → j < L (i + 1)
def OwnM (w : World) (B : Nat) (v : Value) (g : List (List Int)) : Prop := FillM w B v g.length g.length g

theorem mono_le {L : Nat → Nat} (h : ∀ i, L i ≤ L (i + 1)) {i j : Nat} (hij : i ≤ j) : L i ≤ L j := by
  induction j with
  | zero => obtain rfl : i = 0 := by omega
            exact Nat.le_refl _
  | succ j ih =>
    by_cases e : i = j + 1
    · rw [e]; exact Nat.le_refl _
    · exact Nat.le_trans (ih (by omega)) (h j)

theorem FillM.below {w w' : World} {B n k : Nat} {v : Value} {g : List (List Int)} (h : FillM w B v n k g) (hb : Below w.heap.size w w') : FillM w' B v n k g := by
  obtain ⟨us, L, h1, h2, h3, h4, h5, h6, h7⟩ := h
  refine ⟨us, L, h1, h2.kept (grownBy_of_below hb none) (by cases v.ownBlock <;> simp), h3, h4, Nat.le_trans h5 hb.size, h6, fun i hi => ⟨(h7 i hi).1.below hb, (h7 i hi).2⟩⟩
theorem FillM.cell {w : World} {B n k m cap : Nat} {g : List (List Int)} (h : FillM w B (.slice (some ⟨m, 0, none⟩) n cap) n k g) (i : Nat) (hi : i < n) : (∃ u, w.cell? ⟨m, i, none⟩ = some u) ∧ w.frozen? ⟨m, i, none⟩ = false := by
  obtain ⟨us, L, h1, h2, -⟩ := h
  have hl := h2.1
  rw [Nat.mul_one] at hl
  refine ⟨⟨(us ++ List.replicate (n - k) (.slice none 0 0))[i]'(by omega), ?_⟩, World.ownsRow.frozenAt h2 i⟩
  rw [World.ownsRow.cellAt h2 i (by omega)]
  simp only [List.getElem?_eq_getElem (show i < (us ++ List.replicate (n - k) (Value.slice none 0 0)).length by omega)]
/-- A store to another block than the row's. -/
theorem Own.setOther {w : World} {B : Nat} {v : Value} {zs : List Int} (h : Own w B v zs) {g : Nat} (hg : ∀ k, v.ownBlock = some k → k ≠ g) (i : Nat) (x : Value) : Own (w.setCell ⟨g, i, none⟩ x) B v zs :=
  h.kept (r := some g) ⟨rfl, rfl, rfl, by simp, fun k _ hk => heap_setCell_other w ⟨g, i, none⟩ k x (fun e => hk (by simp [e]))⟩ (fun k hk e => hg k hk (by simpa using e.symm))
theorem FillM.step {w : World} {B n k m cap : Nat} {g : List (List Int)} (h : FillM w B (.slice (some ⟨m, 0, none⟩) n cap) n k g) (hk : k < n) {w' : World} (hb : Below w.heap.size w w') {u : Value} (hu : Own w' w.heap.size u (g.getD k [])) :
    FillM (w'.setCell ⟨m, k, none⟩ u) B (.slice (some ⟨m, 0, none⟩) n cap) n (k + 1) g := by
  have hsz := hb.size
  obtain ⟨us, L, h1, h2, h3, h4, h5, h6, h7⟩ := h.below hb
  obtain ⟨us', L', h1', h2', h3', h4', h5', h6', h7'⟩ := h
  clear us L h1 h2 h3 h4 h5 h6 h7
  have h2 := h2'.kept (grownBy_of_below hb none) (by simp [Value.ownBlock])
  have hm : m < L' 0 := h3' m rfl
  refine ⟨us' ++ [u], fun i => if i ≤ k then L' i else w'.heap.size, by simp [h1'], ?_, fun j hj => ?_, fun i => ?_, ?_, ?_, fun i hi => ?_⟩
  · have := (World.ownsRow.stored h2 k u).1
    rw [show us' ++ [u] ++ List.replicate (n - (k + 1)) (Value.slice none 0 0) = (us' ++ List.replicate (n - k) (Value.slice none 0 0)).set k u by
      rw [List.set_append_right _ _ (by omega), h1', Nat.sub_self, show n - k = (n - (k + 1)) + 1 by omega, List.replicate_succ, List.set_cons_zero, List.append_assoc]; rfl]
    exact this
  · simp only [Nat.zero_le, if_true]; exact h3' j hj
  · show (if i ≤ k then L' i else w'.heap.size) ≤ (if i + 1 ≤ k then L' (i + 1) else w'.heap.size)
    by_cases e1 : i + 1 ≤ k
    · rw [if_pos (by omega), if_pos e1]; exact h4' i
    · rw [if_neg e1]
      by_cases e2 : i ≤ k
      · rw [if_pos e2]
        exact Nat.le_trans (mono_le h4' e2) (Nat.le_trans h5' hsz)
      · rw [if_neg e2]; exact Nat.le_refl _
  · simp [if_neg (show ¬ k + 1 ≤ k by omega)]
  · simpa using h6'
  · have hne : ∀ (v' : Value) (zs : List Int), Own w' (L' i) v' zs → i ≤ k → ∀ j, v'.ownBlock = some j → j ≠ m := by
      intro v' zs ho hik j hj
      have := (ho.lt j hj).1
      have := mono_le h4' (Nat.zero_le i)
      omega
    by_cases e : i < k
    · have h7 := h7' i e
      rw [show (us' ++ [u]).getD i undef = us'.getD i undef by simp [List.getD_eq_getElem?_getD, List.getElem?_append, h1', e]]
      simp only [if_pos (show i ≤ k by omega), if_pos (show i + 1 ≤ k by omega)]
      exact ⟨(h7.1.below hb).setOther (hne _ _ (h7.1.below hb) (by omega)) _ _, h7.2⟩
    · obtain rfl : i = k := by omega
      rw [show (us' ++ [u]).getD i undef = u by simp [List.getD_eq_getElem?_getD, h1']]
      simp only [Nat.le_refl, if_true, if_neg (show ¬ i + 1 ≤ i by omega)]
      have hu' := hu.mono h5'
      exact ⟨hu'.setOther (hne _ _ hu' (Nat.le_refl _)) _ _, fun j hj => (hu.lt j hj).2⟩
theorem FillM.start {w : World} {B n : Nat} {g : List (List Int)} (hB : B < w.heap.size) (h : w.ownsRow B 28 1 (.slice (some ⟨B, 0, none⟩) n n) n (madeCells (Value.slice none 0 0).cells (n * 1)).toList) : FillM w B (.slice (some ⟨B, 0, none⟩) n n) n 0 g := by
  refine ⟨[], fun _ => w.heap.size, rfl, ?_, fun j hj => ?_, fun _ => Nat.le_refl _, Nat.le_refl _, Nat.le_of_lt hB, fun i hi => by omega⟩
  · have e : (madeCells (Value.slice none 0 0).cells (n * 1)).toList = List.replicate n (Value.slice none 0 0) := by
      rw [Nat.mul_one]
      show (madeCells #[Value.slice none 0 0] n).toList = _
      rw [toList_madeCells_one]
    rw [e] at h
    simpa using h
  · simp [Value.ownBlock] at hj; subst hj; exact hB
theorem OwnM.mrow {w : World} {B : Nat} {v : Value} {g : List (List Int)} (h : OwnM w B v g) : MRow w v g := by
  obtain ⟨us, L, h1, h2, h3, h4, h5, h6, h7⟩ := h
  rw [Nat.sub_self, List.replicate_zero, List.append_nil] at h2
  have h2' := h2
  rcases h2.2 with ⟨hv, hn⟩ | ⟨b, cap, cur, hv, hB, hh, hle, hm, hs, ht⟩
  · have : g = [] := List.eq_nil_of_length_eq_zero hn
    subst this
    exact ⟨none, 0, hv, .inl rfl⟩
  · refine ⟨some ⟨b, 0, none⟩, cap, hv, .inr ⟨b, 0, rfl, fun i hi => ?_⟩⟩
    subst hv
    refine ⟨us.getD i undef, ?_, (h7 i hi).1.row⟩
    rw [Nat.zero_add, World.ownsRow.cellAt h2' i (by omega)]
    simp [h1, hi]
theorem OwnM.below {w w' : World} {B : Nat} {v : Value} {g : List (List Int)} (h : OwnM w B v g) (hb : Below w.heap.size w w') : OwnM w' B v g := FillM.below h hb
theorem OwnM.shape {w : World} {B : Nat} {v : Value} {g : List (List Int)} (h : OwnM w B v g) : ∃ a cap, v = .slice a g.length cap := h.mrow.shape

/-- The number of all elements. -/
def tot (g : List (List Int)) : Nat := (g.map List.length).sum
theorem tot_step (g : List (List Int)) (k : Nat) (h : k < g.length) : tot (g.take (k + 1)) = tot (g.take k) + (g.getD k []).length := by
  unfold tot
  rw [List.take_succ_eq_append_getElem h, List.map_append, List.sum_append]
  simp [h]
theorem tot_all (g : List (List Int)) : tot (g.take g.length) = tot g := by rw [List.take_length]
theorem tot_row (g : List (List Int)) (k : Nat) (h : k < g.length) : (g.getD k []).length ≤ tot g := by
  unfold tot
  have : (g.getD k []).length ∈ g.map List.length := by
    simp only [List.mem_map]
    exact ⟨g.getD k [], by simp [h], rfl⟩
  clear h
  generalize (g.getD k []).length = x at this
  generalize g.map List.length = l at this
  induction l with
  | nil => simp at this
  | cons y l ih =>
    simp only [List.sum_cons]
    rcases List.mem_cons.1 this with h | h
    · omega
    · have := ih h; omega
/-- What szIntSS tells. -/
def SzV (g : List (List Int)) (left : Int) (r : Int) : Prop := -1 ≤ r ∧ r ≤ left ∧ (0 ≤ r → (g.length : Int) + tot g ≤ left)

end Go.Proofs.Ytkhhloeemecokaa
