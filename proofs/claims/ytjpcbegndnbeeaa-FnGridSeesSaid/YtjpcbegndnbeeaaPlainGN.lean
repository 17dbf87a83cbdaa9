/- Plain laws on sight over grids: turned, mirrored, raised; neighbors. -/
import Derived.Test.YtjpcbegndnbeeaaPlainGM
import Derived.Test.YtjpcbegndnbeeaaPlainV
import Derived.Test.YtjpcbegndnbeeaaNear0
namespace Go.Proofs.Ytjpcbegndnbeeaa

theorem fillF_congr {f g : Nat → Int} {n : Nat} (h : ∀ i, i < n → f i = g i) : fillF f n n = fillF g n n := by
  rw [fillF_all, fillF_all]
  exact List.map_congr_left (fun i hi => h i (List.mem_range.1 hi))
theorem fill_rev (f : Nat → Int) (n : Nat) : fillF (fun i => f (n - 1 - i)) n n = (fillF f n n).reverse := by
  rw [fillF_all, fillF_all]
  apply List.ext_getElem
  · simp
  · intro i h1 h2
    simp
theorem pairs_fill_rev {f : Nat → Int} {n : Nat} (hv : validB (fillF f n n) = true) : pairsV (fillF (fun i => f (n - 1 - i)) n n) = pairsV (fillF f n n) := by
  rw [fill_rev, gpairs_rev hv]
theorem rowP_grid (f : Nat → Nat → Int) {R C r : Nat} (hr : r < R) : rowP (gridF f R C) r = pairsV (fillF (fun c => f r c) C C) := by
  unfold rowP
  rw [gridF_cols f (by omega), fillF_congr (fun c hc => gridF_cell f hr hc)]
theorem colP_grid (f : Nat → Nat → Int) {R C c : Nat} (hc : c < C) : colP (gridF f R C) c = pairsV (fillF (fun r => f r c) R R) := by
  unfold colP
  rw [gridF_len, fillF_congr (fun r hr => gridF_cell f hr hc)]
theorem gs_grid {f : Nat → Nat → Int} {R C : Nat} (h1 : 1 ≤ R) (hv : gvalB (gridF f R C) = true) : gsV (gridF f R C) = sumB (fun r => pairsV (fillF (fun c => f r c) C C)) R + sumB (fun c => pairsV (fillF (fun r => f r c) R R)) C := by
  unfold gsV
  rw [if_pos hv, gridF_len, gridF_cols f (by omega), sumB_congr (fun r hr => rowP_grid f hr), sumB_congr (fun c hc => colP_grid f hc)]
theorem gs_turn {g : List (List Int)} (hv : gvalB g = true) : gvalB (turnG g) = true ∧ gsV (turnG g) = gsV g := by
  obtain ⟨g1, g2, g3, g4⟩ := gval_rows hv
  have hT : turnG g = gridF (fun r c => cellG g (g.length - 1 - c) r) (colsG g) g.length := rfl
  have hv2 : gvalB (turnG g) = true := by
    rw [hT]
    exact gridF_valid g3 g4 g1 g2 (fun r c hr hc => gval_cell hv _ r (by omega) hr)
  refine ⟨hv2, ?_⟩
  rw [hT] at hv2 ⊢
  rw [gs_grid g3 hv2]
  unfold gsV
  rw [if_pos hv]
  have e1 : sumB (fun r => pairsV (fillF (fun c => cellG g (g.length - 1 - c) r) g.length g.length)) (colsG g) = sumB (colP g) (colsG g) :=
    sumB_congr (fun r hr => pairs_fill_rev (f := fun c => cellG g c r) (col_valid hv hr))
  have e2 : sumB (fun c => pairsV (fillF (fun r => cellG g (g.length - 1 - c) r) (colsG g) (colsG g))) g.length = sumB (rowP g) g.length :=
    sumB_rev (rowP g) g.length
  rw [e1, e2]
  omega
theorem gs_mirror {g : List (List Int)} (hv : gvalB g = true) : gvalB (gridF (fun r c => cellG g r (colsG g - 1 - c)) g.length (colsG g)) = true ∧ gsV (gridF (fun r c => cellG g r (colsG g - 1 - c)) g.length (colsG g)) = gsV g := by
  obtain ⟨g1, g2, g3, g4⟩ := gval_rows hv
  have hv2 : gvalB (gridF (fun r c => cellG g r (colsG g - 1 - c)) g.length (colsG g)) = true :=
    gridF_valid g1 g2 g3 g4 (fun r c hr hc => gval_cell hv r _ hr (by omega))
  refine ⟨hv2, ?_⟩
  rw [gs_grid g1 hv2]
  unfold gsV
  rw [if_pos hv]
  have e1 : sumB (fun r => pairsV (fillF (fun c => cellG g r (colsG g - 1 - c)) (colsG g) (colsG g))) g.length = sumB (rowP g) g.length :=
    sumB_congr (fun r hr => pairs_fill_rev (f := fun c => cellG g r c) (row_valid hv hr))
  have e2 : sumB (fun c => pairsV (fillF (fun r => cellG g r (colsG g - 1 - c)) g.length g.length)) (colsG g) = sumB (colP g) (colsG g) :=
    sumB_rev (colP g) (colsG g)
  rw [e1, e2]
theorem sees_up {f : Nat → Int} {n i k : Nat} (h : i < k) (hk : k < n) : seesB (fillF (fun i => f i + 1) n n) i k 0 = seesB (fillF f n n) i k 0 := by
  rw [seesB_zero, seesB_zero]
  unfold lookB
  rw [if_pos (by omega), if_pos (by omega), fill_getD _ _ _ (by omega), fill_getD _ _ _ hk, fill_getD _ _ _ (by omega), fill_getD _ _ _ hk]
  refine clearB_eq ?_
  unfold clearP
  refine forall_congr' (fun j => forall_congr' (fun h1 => forall_congr' (fun h2 => ?_)))
  rw [fill_getD _ _ _ (by omega), fill_getD _ _ _ (by omega)]
  rw [Int.add_mul, Int.add_mul, Int.add_mul]
  omega
theorem pairs_up {f : Nat → Int} {n : Nat} (h1 : validB (fillF f n n) = true) (h2 : validB (fillF (fun i => f i + 1) n n) = true) : pairsV (fillF (fun i => f i + 1) n n) = pairsV (fillF f n n) := by
  unfold pairsV
  rw [if_pos h1, if_pos h2, fillF_len, fillF_len]
  unfold pairsS
  exact sumB_congr (fun k hk => cntB_congr (fun i hi => sees_up hi hk))
theorem gs_raise {g : List (List Int)} (hv : gvalB g = true) (h : ∀ r c, r < g.length → c < colsG g → htB (cellG g r c + 1) = true) : gvalB (gridF (fun r c => cellG g r c + 1) g.length (colsG g)) = true ∧ gsV (gridF (fun r c => cellG g r c + 1) g.length (colsG g)) = gsV g := by
  obtain ⟨g1, g2, g3, g4⟩ := gval_rows hv
  have hb : ∀ r c, r < g.length → c < colsG g → 0 ≤ cellG g r c + 1 ∧ cellG g r c + 1 ≤ 99 := fun r c hr hc => ht_iff.1 (h r c hr hc)
  have hv2 : gvalB (gridF (fun r c => cellG g r c + 1) g.length (colsG g)) = true := gridF_valid g1 g2 g3 g4 hb
  refine ⟨hv2, ?_⟩
  rw [gs_grid g1 hv2]
  unfold gsV
  rw [if_pos hv]
  have e1 : sumB (fun r => pairsV (fillF (fun c => cellG g r c + 1) (colsG g) (colsG g))) g.length = sumB (rowP g) g.length :=
    sumB_congr (fun r hr => pairs_up (f := fun c => cellG g r c) (row_valid hv hr) (fill_valid g3 (by omega) (fun c hc => hb r c hr hc)))
  have e2 : sumB (fun c => pairsV (fillF (fun r => cellG g r c + 1) g.length g.length)) (colsG g) = sumB (colP g) (colsG g) :=
    sumB_congr (fun c hc => pairs_up (f := fun r => cellG g r c) (col_valid hv hc) (fill_valid g1 (by omega) (fun r hr => hb r c hr hc)))
  rw [e1, e2]
/-- How many neighbors. -/
def nearN (n C i : Nat) : Nat := (if C ≤ i then 1 else 0) + ((if i % C + 1 < C then 1 else 0) + ((if i < C * (n - 1) then 1 else 0) + (if 0 < i % C then 1 else 0)))
theorem near_len (n C i : Nat) : (nearL n C i).length = nearN n C i := by
  unfold nearL nearN
  split <;> split <;> split <;> split <;> simp
def sumN (f : Nat → Nat) : Nat → Nat
  | 0 => 0
  | m + 1 => sumN f m + f m
theorem sumN_cast (f : Nat → Nat) : ∀ m, sumB (fun i => (f i : Int)) m = (sumN f m : Int)
  | 0 => rfl
  | m + 1 => by simp only [sumB, sumN]; rw [sumN_cast f m]; omega
theorem near_all : ∀ n : Fin 8, ∀ C : Fin 8, sumN (nearN n.val C.val) (n.val * C.val) ≤ 2 * (n.val * (C.val - 1)) + 2 * (C.val * (n.val - 1)) := by decide +kernel
theorem sumB_ge {f : Nat → Int} {c : Int} : ∀ {n : Nat}, (∀ i, i < n → c ≤ f i) → c * n ≤ sumB f n
  | 0, _ => by simp [sumB]
  | n + 1, h => by
    have a := sumB_ge (n := n) (fun i hi => h i (by omega))
    have b := h n (by omega)
    simp only [sumB]
    rw [show ((n + 1 : Nat) : Int) = (n : Int) + 1 by omega, Int.mul_add]
    omega
theorem near_le {g : List (List Int)} (hv : gvalB g = true) : sumB (fun i => ((nearL g.length (colsG g) i).length : Int)) (g.length * colsG g) ≤ 2 * gsV g := by
  obtain ⟨g1, g2, g3, g4⟩ := gval_rows hv
  have h1 : sumB (fun i => ((nearL g.length (colsG g) i).length : Int)) (g.length * colsG g) = (sumN (nearN g.length (colsG g)) (g.length * colsG g) : Int) := by
    rw [← sumN_cast]
    exact sumB_congr (fun i hi => by rw [near_len])
  have h2 := near_all ⟨g.length, by omega⟩ ⟨colsG g, by omega⟩
  simp only at h2
  have h3 : (colsG g - 1 : Int) * g.length ≤ sumB (rowP g) g.length := sumB_ge (fun r hr => by
    have hr' := row_valid hv hr
    unfold rowP pairsV
    rw [if_pos hr', fillF_len]
    exact pairs_ge _ _)
  have h4 : (g.length - 1 : Int) * (colsG g) ≤ sumB (colP g) (colsG g) := sumB_ge (fun c hc => by
    have hc' := col_valid hv hc
    unfold colP pairsV
    rw [if_pos hc', fillF_len]
    exact pairs_ge _ _)
  have e3 : ((g.length * (colsG g - 1) : Nat) : Int) = (colsG g - 1 : Int) * g.length := by
    rw [Int.natCast_mul, Int.mul_comm, show ((colsG g - 1 : Nat) : Int) = (colsG g : Int) - 1 by omega]
  have e4 : ((colsG g * (g.length - 1) : Nat) : Int) = (g.length - 1 : Int) * colsG g := by
    rw [Int.natCast_mul, Int.mul_comm, show ((g.length - 1 : Nat) : Int) = (g.length : Int) - 1 by omega]
  unfold gsV
  rw [if_pos hv, h1]
  omega

end Go.Proofs.Ytjpcbegndnbeeaa
