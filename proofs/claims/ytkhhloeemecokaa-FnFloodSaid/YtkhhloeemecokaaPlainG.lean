/- Plain words for grids: what a grid is, its cells as one list. -/
import Derived.Test.YtkhhloeemecokaaPlain
namespace Go.Proofs.Ytkhhloeemecokaa

def cellG (g : List (List Int)) (r c : Nat) : Int := (g.getD r []).getD c 0
def colsG (g : List (List Int)) : Nat := (g.getD 0 []).length
def rowOk (C : Nat) (z : List Int) : Bool := z.length == C && z.all htB
def gvalB (g : List (List Int)) : Bool := inB g.length 1 7 && inB (colsG g) 1 7 && g.all (rowOk (colsG g))
def flatG (g : List (List Int)) (R C k : Nat) : List Int := (List.range (R * C)).map (fun i => if i < k then cellG g (i / C) (i % C) else 0)

theorem getD_lt {g : List (List Int)} {i : Nat} (h : i < g.length) : g.getD i [] ∈ g := by
  rw [List.getD_eq_getElem?_getD, List.getElem?_eq_getElem h]
  simp
theorem gval_row {g : List (List Int)} (h : gvalB g = true) (i : Nat) (hi : i < g.length) : rowOk (colsG g) (g.getD i []) = true := by
  unfold gvalB at h
  simp only [Bool.and_eq_true, List.all_eq_true] at h
  exact h.2 _ (getD_lt hi)
theorem gval_rows {g : List (List Int)} (h : gvalB g = true) : 1 ≤ g.length ∧ g.length ≤ 7 ∧ 1 ≤ colsG g ∧ colsG g ≤ 7 := by
  unfold gvalB at h
  simp only [Bool.and_eq_true, inB_iff] at h
  omega
theorem gval_len {g : List (List Int)} (h : gvalB g = true) (i : Nat) (hi : i < g.length) : (g.getD i []).length = colsG g := by
  have := gval_row h i hi
  unfold rowOk at this
  simp only [Bool.and_eq_true, beq_iff_eq] at this
  exact this.1
theorem ht_iff {x : Int} : htB x = true ↔ 0 ≤ x ∧ x ≤ 99 := by unfold htB; exact inB_iff
theorem gval_cell {g : List (List Int)} (h : gvalB g = true) (r c : Nat) (hr : r < g.length) (hc : c < colsG g) : 0 ≤ cellG g r c ∧ cellG g r c ≤ 99 := by
  have h1 := gval_row h r hr
  have h2 := gval_len h r hr
  unfold rowOk at h1
  simp only [Bool.and_eq_true, List.all_eq_true] at h1
  unfold cellG
  have : (g.getD r []).getD c 0 ∈ g.getD r [] := by
    rw [List.getD_eq_getElem?_getD (l := g.getD r []), List.getElem?_eq_getElem (by omega)]
    simp
  exact ht_iff.1 (h1.2 _ this)
theorem gval_mk {g : List (List Int)} {C : Nat} (h1 : 1 ≤ g.length) (h2 : g.length ≤ 7) (hC : colsG g = C) (h3 : 1 ≤ C) (h4 : C ≤ 7) (h : ∀ i, i < g.length → rowOk C (g.getD i []) = true) : gvalB g = true := by
  unfold gvalB
  simp only [Bool.and_eq_true, inB_iff, List.all_eq_true]
  refine ⟨⟨by omega, by omega⟩, fun z hz => ?_⟩
  obtain ⟨i, hi, rfl⟩ := List.mem_iff_getElem.1 hz
  have := h i hi
  rw [List.getD_eq_getElem?_getD, List.getElem?_eq_getElem hi] at this
  rw [hC]
  simpa using this
theorem gval_no {g : List (List Int)} {i : Nat} (hi : i < g.length) (h : rowOk (colsG g) (g.getD i []) = false) : gvalB g = false := by
  cases hv : gvalB g with
  | false => rfl
  | true => rw [gval_row hv i hi] at h; cases h
theorem rowOk_mk {C : Nat} {z : List Int} (h1 : z.length = C) (h2 : z.all htB = true) : rowOk C z = true := by simp [rowOk, h1, h2]
theorem rowOk_len {C : Nat} {z : List Int} (h1 : z.length ≠ C) : rowOk C z = false := by simp [rowOk, h1]
theorem rowOk_ht {C : Nat} {z : List Int} {c : Nat} (hc : c < z.length) (h : htB (z.getD c 0) = false) : rowOk C z = false := by
  unfold rowOk
  rw [all_false_of htB z c hc h]
  simp

theorem flat_len (g : List (List Int)) (R C k : Nat) : (flatG g R C k).length = R * C := by simp [flatG]
theorem flat_zero (g : List (List Int)) (R C : Nat) : flatG g R C 0 = List.replicate (R * C) 0 := by
  unfold flatG
  apply List.ext_getElem <;> simp
theorem flat_set (g : List (List Int)) (R C k : Nat) : (flatG g R C k).set k (cellG g (k / C) (k % C)) = flatG g R C (k + 1) := by
  apply List.ext_getElem
  · simp [flatG]
  · intro i h1 h2
    simp only [flatG, List.getElem_set, List.getElem_map, List.getElem_range]
    by_cases e : k = i
    · subst e; simp
    · rw [if_neg e]
      by_cases e2 : i < k
      · rw [if_pos e2, if_pos (by omega)]
      · rw [if_neg e2, if_neg (by omega)]
theorem idx_div {r c C : Nat} (hc : c < C) : (r * C + c) / C = r ∧ (r * C + c) % C = c := by
  have hC : 0 < C := by omega
  constructor
  · rw [Nat.add_comm, Nat.add_mul_div_right _ _ hC, Nat.div_eq_of_lt hc, Nat.zero_add]
  · rw [Nat.add_comm, Nat.add_mul_mod_self_right, Nat.mod_eq_of_lt hc]
theorem idx_lt {r c R C : Nat} (hr : r < R) (hc : c < C) : r * C + c < R * C := by
  have : (r + 1) * C ≤ R * C := Nat.mul_le_mul_right _ (by omega)
  rw [Nat.add_mul] at this
  omega
theorem flat_set' (g : List (List Int)) {R C r c : Nat} (hc : c < C) : (flatG g R C (r * C + c)).set (r * C + c) (cellG g r c) = flatG g R C (r * C + c + 1) := by
  have h := flat_set g R C (r * C + c)
  rw [(idx_div hc).1, (idx_div hc).2] at h
  exact h
theorem flat_getD (g : List (List Int)) {R C r c : Nat} (hr : r < R) (hc : c < C) : (flatG g R C (R * C)).getD (r * C + c) 0 = cellG g r c := by
  have h := idx_lt hr hc
  unfold flatG
  rw [List.getD_eq_getElem?_getD, List.getElem?_map, List.getElem?_range h]
  simp only [Option.map_some, Option.getD_some, if_pos h, (idx_div hc).1, (idx_div hc).2]

/-- A row that is filled from the left. -/
def fillF (f : Nat → Int) (n k : Nat) : List Int := (List.range n).map (fun i => if i < k then f i else 0)
theorem fillF_len (f : Nat → Int) (n k : Nat) : (fillF f n k).length = n := by simp [fillF]
theorem fillF_zero (f : Nat → Int) (n : Nat) : fillF f n 0 = List.replicate n 0 := by
  unfold fillF
  apply List.ext_getElem <;> simp
theorem fillF_set (f : Nat → Int) (n k : Nat) : (fillF f n k).set k (f k) = fillF f n (k + 1) := by
  apply List.ext_getElem
  · simp [fillF]
  · intro i h1 h2
    simp only [fillF, List.getElem_set, List.getElem_map, List.getElem_range]
    by_cases e : k = i
    · subst e; simp
    · rw [if_neg e]
      by_cases e2 : i < k
      · rw [if_pos e2, if_pos (by omega)]
      · rw [if_neg e2, if_neg (by omega)]
theorem fillF_all (f : Nat → Int) (n : Nat) : fillF f n n = (List.range n).map f := by
  unfold fillF
  apply List.map_congr_left
  intro i hi
  rw [if_pos (List.mem_range.1 hi)]
theorem row_fill {g : List (List Int)} (h : gvalB g = true) (r : Nat) (hr : r < g.length) : fillF (cellG g r) (colsG g) (colsG g) = g.getD r [] := by
  rw [fillF_all]
  have hl := gval_len h r hr
  apply List.ext_getElem
  · simp only [List.length_map, List.length_range]; exact hl.symm
  · intro i h1 h2
    simp only [List.getElem_map, List.getElem_range]
    unfold cellG
    rw [List.getD_eq_getElem?_getD (l := g.getD r []), List.getElem?_eq_getElem h2]
    rfl
def prowB (g : List (List Int)) (r : Int) : Bool := gvalB g && decide (0 ≤ r ∧ r < g.length)
def prowL (g : List (List Int)) (r : Int) : List Int := if prowB g r then g.getD r.toNat [] else []

end Go.Proofs.Ytkhhloeemecokaa
