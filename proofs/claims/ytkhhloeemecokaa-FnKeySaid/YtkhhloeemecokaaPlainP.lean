/- Plain words for heaps of pairs, ordered by the second part. -/
import Derived.Test.YtkhhloeemecokaaPlain
namespace Go.Proofs.Ytkhhloeemecokaa


def at2 (L : List (Int × Int)) (i : Nat) : Int × Int := L.getD i (0, 0)
def pa (L : List (Int × Int)) (i : Nat) : Int := (at2 L i).2
def Heap (L : List (Int × Int)) : Prop := ∀ i, 0 < i → i < L.length → pa L i ≤ pa L ((i - 1) / 2)
def HeapUp (L : List (Int × Int)) (i : Nat) : Prop := (∀ j, 0 < j → j < L.length → j ≠ i → pa L j ≤ pa L ((j - 1) / 2)) ∧ (∀ j, 0 < j → j < L.length → (j - 1) / 2 = i → 0 < i → pa L j ≤ pa L ((i - 1) / 2))
def HeapDn (L : List (Int × Int)) (i : Nat) : Prop := (∀ j, 0 < j → j < L.length → (j - 1) / 2 ≠ i → pa L j ≤ pa L ((j - 1) / 2)) ∧ (∀ j, 0 < j → j < L.length → (j - 1) / 2 = i → 0 < i → pa L j ≤ pa L ((i - 1) / 2))
def swapL (L : List (Int × Int)) (i j : Nat) : List (Int × Int) := (L.set i (at2 L j)).set j (at2 L i)
theorem swap_len (L : List (Int × Int)) (i j : Nat) : (swapL L i j).length = L.length := by simp [swapL]
theorem set_at2 (L : List (Int × Int)) (i : Nat) (x : Int × Int) (k : Nat) : at2 (L.set i x) k = if i = k ∧ i < L.length then x else at2 L k := by
  unfold at2
  simp only [List.getD_eq_getElem?_getD, List.getElem?_set]
  by_cases h : i = k
  · subst h
    by_cases h2 : i < L.length
    · simp [h2]
    · simp [h2]
  · simp [h]
theorem swap_at (L : List (Int × Int)) {i j : Nat} (hi : i < L.length) (hj : j < L.length) (k : Nat) : at2 (swapL L i j) k = if k = j then at2 L i else if k = i then at2 L j else at2 L k := by
  unfold swapL
  rw [set_at2, set_at2]
  simp only [List.length_set]
  by_cases h1 : j = k
  · subst h1; simp [hj]
  · rw [if_neg (by simp [h1]), if_neg (Ne.symm h1)]
    by_cases h2 : i = k
    · subst h2; simp [hi]
    · rw [if_neg (by simp [h2]), if_neg (Ne.symm h2)]
theorem swap_pa (L : List (Int × Int)) {i j : Nat} (hi : i < L.length) (hj : j < L.length) (k : Nat) : pa (swapL L i j) k = if k = j then pa L i else if k = i then pa L j else pa L k := by
  unfold pa
  rw [swap_at L hi hj]
  split
  · rfl
  · split <;> rfl
theorem at2_mem {L : List (Int × Int)} {i : Nat} (h : i < L.length) : at2 L i ∈ L := by
  unfold at2
  rw [List.getD_eq_getElem?_getD, List.getElem?_eq_getElem h]
  simp
theorem at2_get {L : List (Int × Int)} {i : Nat} (h : i < L.length) : at2 L i = L[i] := by
  unfold at2
  rw [List.getD_eq_getElem?_getD, List.getElem?_eq_getElem h]
  rfl
/-- An exchange keeps the items: by counting. -/
theorem count_set {L : List (Int × Int)} {i : Nat} (h : i < L.length) (x a : Int × Int) : (L.set i x).count a + (if at2 L i = a then 1 else 0) = L.count a + (if x = a then 1 else 0) := by
  rw [at2_get h]
  induction L generalizing i with
  | nil => simp at h
  | cons y l ih =>
    cases i with
    | zero =>
      simp only [List.set_cons_zero, List.count_cons, List.getElem_cons_zero, beq_iff_eq]
      omega
    | succ i =>
      have := ih (i := i) (by simpa using h)
      simp only [List.set_cons_succ, List.count_cons, List.getElem_cons_succ]
      omega
theorem swap_perm (L : List (Int × Int)) {i j : Nat} (hi : i < L.length) (hj : j < L.length) : (swapL L i j).Perm L := by
  rw [List.perm_iff_count]
  intro a
  have h1 := count_set hi (at2 L j) a
  have h2 := count_set (L := L.set i (at2 L j)) (i := j) (by simpa using hj) (at2 L i) a
  rw [set_at2] at h2
  unfold swapL
  rw [ite_self] at h2
  omega
theorem up_start {L : List (Int × Int)} (h : Heap L) (x : Int × Int) : HeapUp (L ++ [x]) L.length := by
  have hp : ∀ j, j < L.length → pa (L ++ [x]) j = pa L j := fun j hj => by
    simp [pa, at2, List.getD_eq_getElem?_getD, List.getElem?_append, hj]
  constructor
  · intro j h1 h2 h3
    simp only [List.length_append, List.length_cons, List.length_nil] at h2
    rw [hp j (by omega), hp _ (by omega)]
    exact h j h1 (by omega)
  · intro j h1 h2 h3 h4
    simp only [List.length_append, List.length_cons, List.length_nil] at h2
    omega
theorem up_step {L : List (Int × Int)} {i : Nat} (h : HeapUp L i) (h0 : 0 < i) (hi : i < L.length) (hlt : pa L ((i - 1) / 2) < pa L i) : HeapUp (swapL L i ((i - 1) / 2)) ((i - 1) / 2) := by
  obtain ⟨ha, hb⟩ := h
  have hu : (i - 1) / 2 < L.length := by omega
  constructor
  · intro j h1 h2 h3
    rw [swap_len] at h2
    rw [swap_pa L hi hu, swap_pa L hi hu, if_neg h3]
    by_cases e : j = i
    · subst e
      rw [if_pos rfl, if_pos rfl]
      omega
    · rw [if_neg e]
      by_cases e2 : (j - 1) / 2 = (i - 1) / 2
      · rw [if_pos e2]
        have := ha j h1 h2 e
        rw [e2] at this
        omega
      · rw [if_neg e2]
        by_cases e3 : (j - 1) / 2 = i
        · rw [if_pos e3]
          exact hb j h1 h2 e3 h0
        · rw [if_neg e3]
          exact ha j h1 h2 e
  · intro j h1 h2 h3 h4
    rw [swap_len] at h2
    have hne : j ≠ (i - 1) / 2 := by omega
    have hg : ((i - 1) / 2 - 1) / 2 ≠ (i - 1) / 2 := by omega
    have hg2 : ((i - 1) / 2 - 1) / 2 ≠ i := by omega
    rw [swap_pa L hi hu, swap_pa L hi hu, if_neg hne, if_neg hg, if_neg hg2]
    have hup := ha ((i - 1) / 2) h4 hu (by omega)
    by_cases e : j = i
    · rw [if_pos e]; exact hup
    · rw [if_neg e]
      have := ha j h1 h2 e
      rw [h3] at this
      omega
theorem up_done {L : List (Int × Int)} {i : Nat} (h : HeapUp L i) (hd : i = 0 ∨ pa L i ≤ pa L ((i - 1) / 2)) : Heap L := by
  intro j h1 h2
  by_cases e : j = i
  · subst e
    rcases hd with hd | hd
    · omega
    · exact hd
  · exact h.1 j h1 h2 e
theorem heap_max {L : List (Int × Int)} (h : Heap L) : ∀ i, i < L.length → pa L i ≤ pa L 0 := by
  intro i
  induction i using Nat.strongRecOn with
  | ind i ih =>
    intro hi
    by_cases h0 : i = 0
    · subst h0; exact Int.le_refl _
    · have h1 := h i (by omega) hi
      have h2 := ih ((i - 1) / 2) (by omega) (by omega)
      omega
theorem heap_top {L : List (Int × Int)} (h : Heap L) {x : Int × Int} (hx : x ∈ L) : x.2 ≤ pa L 0 := by
  obtain ⟨i, hi, rfl⟩ := List.mem_iff_getElem.1 hx
  have := heap_max h i hi
  unfold pa at this
  rw [at2_get hi] at this
  exact this
/-- The last item at the head, one item less. -/
def dropL (L : List (Int × Int)) : List (Int × Int) := (L.set 0 (at2 L (L.length - 1))).take (L.length - 1)
theorem drop_len (L : List (Int × Int)) : (dropL L).length = L.length - 1 := by simp [dropL]
theorem drop_at {L : List (Int × Int)} {i : Nat} (hi : i + 1 < L.length) : at2 (dropL L) i = if i = 0 then at2 L (L.length - 1) else at2 L i := by
  unfold dropL
  have : at2 ((L.set 0 (at2 L (L.length - 1))).take (L.length - 1)) i = at2 (L.set 0 (at2 L (L.length - 1))) i := by
    unfold at2
    simp only [List.getD_eq_getElem?_getD, List.getElem?_take]
    rw [if_pos (by omega)]
  rw [this, set_at2]
  by_cases e : 0 = i
  · subst e; rw [if_pos ⟨rfl, by omega⟩, if_pos rfl]
  · rw [if_neg (by simp [e]), if_neg (Ne.symm e)]
theorem drop_perm {L : List (Int × Int)} (h : 0 < L.length) : (at2 L 0 :: dropL L).Perm L := by
  rw [List.perm_iff_count]
  intro a
  have h1 := count_set h (at2 L (L.length - 1)) a
  have h2 : L.set 0 (at2 L (L.length - 1)) = dropL L ++ [at2 L (L.length - 1)] := by
    unfold dropL
    have hl : (L.set 0 (at2 L (L.length - 1))).length = L.length := by simp
    conv => lhs; rw [← List.take_append_drop (L.length - 1) (L.set 0 (at2 L (L.length - 1)))]
    congr 1
    rw [List.drop_eq_getElem_cons (by omega), List.drop_of_length_le (by omega)]
    congr 1
    rw [← at2_get (by omega), set_at2]
    split
    · rename_i h; rfl
    · rfl
  rw [h2] at h1
  simp only [List.count_append, List.count_cons, List.count_nil, beq_iff_eq] at h1 ⊢
  omega
theorem dn_start {L : List (Int × Int)} (h : Heap L) : HeapDn (dropL L) 0 := by
  constructor
  · intro j h1 h2 h3
    rw [drop_len] at h2
    unfold pa
    rw [drop_at (by omega), drop_at (by omega), if_neg (by omega), if_neg (by omega)]
    exact h j h1 (by omega)
  · intro j h1 h2 h3 h4
    omega
theorem dn_step {L : List (Int × Int)} {i b : Nat} (h : HeapDn L i) (hb : b < L.length) (hp : (b - 1) / 2 = i) (h0 : 0 < b) (hgt : pa L i < pa L b) (hmax : ∀ j, 0 < j → j < L.length → (j - 1) / 2 = i → pa L j ≤ pa L b) : HeapDn (swapL L i b) b := by
  obtain ⟨ha, hc⟩ := h
  have hi : i < L.length := by omega
  constructor
  · intro j h1 h2 h3
    rw [swap_len] at h2
    rw [swap_pa L hi hb, swap_pa L hi hb, if_neg h3]
    by_cases e : j = b
    · subst e
      rw [if_pos rfl, if_pos hp]
      omega
    · rw [if_neg e]
      by_cases e2 : j = i
      · rw [if_pos e2]
        subst e2
        rw [if_neg (by omega)]
        exact hc b h0 hb hp h1
      · rw [if_neg e2]
        by_cases e3 : (j - 1) / 2 = i
        · rw [if_pos e3]
          exact hmax j h1 h2 e3
        · rw [if_neg e3]
          exact ha j h1 h2 e3
  · intro j h1 h2 h3 h4
    rw [swap_len] at h2
    rw [swap_pa L hi hb, swap_pa L hi hb, if_neg (by omega), if_neg (by omega), hp, if_neg (by omega), if_pos rfl]
    have := ha j h1 h2 (by omega)
    rw [h3] at this
    exact this
theorem dn_done {L : List (Int × Int)} {i : Nat} (h : HeapDn L i) (hd : ∀ j, 0 < j → j < L.length → (j - 1) / 2 = i → pa L j ≤ pa L i) : Heap L := by
  intro j h1 h2
  by_cases e : (j - 1) / 2 = i
  · rw [e]; exact hd j h1 h2 e
  · exact h.1 j h1 h2 e

end Go.Proofs.Ytkhhloeemecokaa
