/- Plain laws on grids: mirrored, turned, raised. -/
import Derived.Test.YtjpcbegndnbeeaaMade
import Derived.Test.YtjpcbegndnbeeaaPlainGS
namespace Go.Proofs.Ytjpcbegndnbeeaa

theorem gridF_len (f : Nat → Nat → Int) (R C : Nat) : (gridF f R C).length = R := by simp [gridF]
theorem gridF_row (f : Nat → Nat → Int) {R C r : Nat} (h : r < R) : (gridF f R C).getD r [] = (List.range C).map (fun c => f r c) := by simp [gridF, h]
theorem gridF_cell (f : Nat → Nat → Int) {R C r c : Nat} (h : r < R) (h2 : c < C) : cellG (gridF f R C) r c = f r c := by
  unfold cellG
  rw [gridF_row f h]
  simp [h2]
theorem gridF_cols (f : Nat → Nat → Int) {R C : Nat} (h : 0 < R) : colsG (gridF f R C) = C := by
  unfold colsG
  rw [gridF_row f h]
  simp
theorem gridF_valid {f : Nat → Nat → Int} {R C : Nat} (h1 : 1 ≤ R) (h2 : R ≤ 7) (h3 : 1 ≤ C) (h4 : C ≤ 7) (h : ∀ r c, r < R → c < C → 0 ≤ f r c ∧ f r c ≤ 99) : gvalB (gridF f R C) = true := by
  refine gval_mk (C := C) (by rw [gridF_len]; exact h1) (by rw [gridF_len]; exact h2) (gridF_cols f h1) h3 h4 (fun i hi => ?_)
  rw [gridF_len] at hi
  rw [gridF_row f hi]
  refine rowOk_mk (by simp) ?_
  rw [List.all_eq_true]
  intro y hy
  obtain ⟨c, hc, rfl⟩ := List.mem_map.1 hy
  exact ht_iff.2 (h i c hi (List.mem_range.1 hc))
theorem tot_gridF (f : Nat → Nat → Int) (R C : Nat) : tot (gridF f R C) = R * C := by
  unfold tot
  have : (gridF f R C).map List.length = List.replicate R C := by
    apply List.ext_getElem <;> simp [gridF]
  rw [this]
  simp
/-- Rows of the mirrored grid are the rows backwards. -/
theorem mirror_row {g : List (List Int)} (hv : gvalB g = true) {r : Nat} (hr : r < g.length) : (gridF (fun r c => cellG g r (colsG g - 1 - c)) g.length (colsG g)).getD r [] = (g.getD r []).reverse := by
  rw [gridF_row _ hr]
  have hl := gval_len hv r hr
  apply List.ext_getElem
  · simp only [List.length_map, List.length_range, List.length_reverse]; exact hl.symm
  · intro i h1 h2
    simp only [List.length_map, List.length_range] at h1
    simp only [List.getElem_map, List.getElem_range, List.getElem_reverse]
    unfold cellG
    rw [List.getD_eq_getElem?_getD (l := g.getD r []), List.getElem?_eq_getElem (by omega)]
    simp only [hl, Option.getD_some]
theorem gval_prof {g : List (List Int)} (hv : gvalB g = true) {r : Nat} (hr : r < g.length) : validB (g.getD r []) = true := by
  rw [← row_fill hv r hr]
  exact row_valid hv hr

end Go.Proofs.Ytjpcbegndnbeeaa
