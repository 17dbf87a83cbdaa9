/- Plain words for sight over grids: pairs of a profile backwards; rows and columns. -/
import Derived.Test.YtjpcbegndnbeeaaPlainG
import Derived.Test.YtjpcbegndnbeeaaPlainS
namespace Go.Proofs.Ytjpcbegndnbeeaa

theorem sumB_add (f g : Nat → Int) : ∀ n, sumB (fun i => f i + g i) n = sumB f n + sumB g n
  | 0 => rfl
  | n + 1 => by simp only [sumB]; rw [sumB_add f g n]; omega
theorem sumB_zero : ∀ n, sumB (fun _ => 0) n = 0
  | 0 => rfl
  | n + 1 => by simp only [sumB]; rw [sumB_zero n]; rfl
theorem sumB_front (f : Nat → Int) : ∀ n, sumB f (n + 1) = f 0 + sumB (fun i => f (i + 1)) n
  | 0 => by simp [sumB]
  | n + 1 => by
    have h := sumB_front f n
    have e : sumB f (n + 2) = sumB f (n + 1) + f (n + 1) := rfl
    rw [e, h]
    simp only [sumB]
    omega
theorem sumB_rev (f : Nat → Int) : ∀ n, sumB (fun i => f (n - 1 - i)) n = sumB f n
  | 0 => rfl
  | n + 1 => by
    rw [sumB_front]
    simp only [sumB]
    rw [← sumB_rev f n]
    have : sumB (fun i => f (n + 1 - 1 - (i + 1))) n = sumB (fun i => f (n - 1 - i)) n := sumB_congr (fun i hi => by rw [show n + 1 - 1 - (i + 1) = n - 1 - i by omega])
    rw [this]
    simp only [Nat.add_sub_cancel, Nat.sub_zero]
    omega
theorem sumB_swap (g : Nat → Nat → Int) (m : Nat) : ∀ n, sumB (fun k => sumB (fun i => g i k) m) n = sumB (fun i => sumB (fun k => g i k) n) m
  | 0 => by simp only [sumB]; exact (sumB_zero m).symm
  | n + 1 => by simp only [sumB]; rw [sumB_swap g m n, ← sumB_add]
theorem sumB_cut (f : Nat → Int) (k : Nat) : ∀ n, k ≤ n → sumB (fun i => if i < k then f i else 0) n = sumB f k
  | 0, h => by obtain rfl : k = 0 := by omega
               rfl
  | n + 1, h => by
    by_cases e : k = n + 1
    · subst e
      exact sumB_congr (fun i hi => by rw [if_pos hi])
    · simp only [sumB]
      rw [sumB_cut f k n (by omega), if_neg (by omega)]
      omega
theorem cntB_sum (f : Nat → Bool) : ∀ n, cntB f n = sumB (fun i => if f i then 1 else 0) n
  | 0 => rfl
  | n + 1 => by
    cases h : f n
    · rw [cntB_no h, cntB_sum f n]; simp [sumB, h]
    · rw [cntB_yes h, cntB_sum f n]; simp [sumB, h]
theorem sumB_le {f g : Nat → Int} : ∀ {n : Nat}, (∀ i, i < n → f i ≤ g i) → sumB f n ≤ sumB g n
  | 0, _ => Int.le_refl _
  | n + 1, h => by
    simp only [sumB]
    have a := sumB_le (n := n) (fun i hi => h i (by omega))
    have b := h n (by omega)
    omega
/-- The pairs as a sum over a square. -/
theorem pairsS_sq (p : List Int) (n : Nat) : pairsS p n = sumB (fun k => sumB (fun i => if i < k then (if seesB p i k 0 then 1 else 0) else 0) n) n := by
  unfold pairsS
  refine sumB_congr (fun k hk => ?_)
  rw [cntB_sum, sumB_cut _ k n (by omega)]
theorem gclear_rev {p : List Int} {lo hi : Nat} {a b : Int} (h : hi < p.length) : clearP p.reverse lo hi a b ↔ clearP p (p.length - 1 - hi) (p.length - 1 - lo) b a := by
  have rg : ∀ i, i < p.length → p.reverse.getD i 0 = p.getD (p.length - 1 - i) 0 := by
    intro i hi
    simp [List.getD_eq_getElem?_getD, List.getElem?_reverse hi]
  unfold clearP
  constructor
  · intro H j h1 h2
    have := H (p.length - 1 - j) (by omega) (by omega)
    rw [rg _ (by omega), show p.length - 1 - (p.length - 1 - j) = j by omega] at this
    have e1 : ((p.length - 1 - lo : Nat) : Int) - ((p.length - 1 - hi : Nat) : Int) = (hi : Int) - lo := by omega
    have e2 : ((p.length - 1 - lo : Nat) : Int) - (j : Int) = ((p.length - 1 - j : Nat) : Int) - lo := by omega
    have e3 : (j : Int) - ((p.length - 1 - hi : Nat) : Int) = (hi : Int) - ((p.length - 1 - j : Nat) : Int) := by omega
    rw [e1, e2, e3]
    omega
  · intro H j h1 h2
    have := H (p.length - 1 - j) (by omega) (by omega)
    rw [rg _ (by omega)]
    have e1 : ((p.length - 1 - lo : Nat) : Int) - ((p.length - 1 - hi : Nat) : Int) = (hi : Int) - lo := by omega
    have e2 : ((p.length - 1 - lo : Nat) : Int) - ((p.length - 1 - j : Nat) : Int) = (j : Int) - lo := by omega
    have e3 : ((p.length - 1 - j : Nat) : Int) - ((p.length - 1 - hi : Nat) : Int) = (hi : Int) - j := by omega
    rw [e1, e2, e3] at this
    omega
theorem clearB_eq {p q : List Int} {lo hi lo' hi' : Nat} {a b a' b' : Int} (h : clearP p lo hi a b ↔ clearP q lo' hi' a' b') : clearB p lo hi a b = clearB q lo' hi' a' b' := by
  rw [Bool.eq_iff_iff, clearB_iff, clearB_iff]
  exact h
theorem gsees_rev {p : List Int} {i k : Nat} (h : i < k) (hk : k < p.length) : seesB p.reverse i k 0 = seesB p (p.length - 1 - k) (p.length - 1 - i) 0 := by
  have rg : ∀ i, i < p.length → p.reverse.getD i 0 = p.getD (p.length - 1 - i) 0 := by
    intro i hi
    simp [List.getD_eq_getElem?_getD, List.getElem?_reverse hi]
  rw [seesB_zero, seesB_zero]
  unfold lookB
  rw [if_pos (by omega), if_pos (by omega), rg i (by omega), rg k hk]
  exact clearB_eq (gclear_rev hk)
theorem pairsS_rev (p : List Int) : pairsS p.reverse p.length = pairsS p p.length := by
  rw [pairsS_sq, pairsS_sq]
  obtain ⟨n, hn⟩ : ∃ n, n = p.length := ⟨_, rfl⟩
  rw [← hn]
  have e1 : sumB (fun k => sumB (fun i => if i < k then (if seesB p.reverse i k 0 then (1 : Int) else 0) else 0) n) n = sumB (fun k => sumB (fun i => if i < k then (if seesB p (n - 1 - k) (n - 1 - i) 0 then (1 : Int) else 0) else 0) n) n :=
    sumB_congr (fun k hk => sumB_congr (fun i hi => by
      by_cases h : i < k
      · rw [if_pos h, if_pos h, gsees_rev h (by omega), ← hn]
      · rw [if_neg h, if_neg h]))
  rw [e1, sumB_swap]
  rw [← sumB_rev (fun k => sumB (fun i => if i < k then (if seesB p i k 0 then (1 : Int) else 0) else 0) n) n]
  refine sumB_congr (fun i hi => ?_)
  show _ = sumB (fun j => if j < n - 1 - i then (if seesB p j (n - 1 - i) 0 then (1 : Int) else 0) else 0) n
  rw [← sumB_rev (fun j => if j < n - 1 - i then (if seesB p j (n - 1 - i) 0 then (1 : Int) else 0) else 0) n]
  refine sumB_congr (fun k hk => ?_)
  by_cases h : i < k
  · rw [if_pos h, if_pos (show n - 1 - k < n - 1 - i by omega)]
  · rw [if_neg h, if_neg (show ¬ n - 1 - k < n - 1 - i by omega)]
theorem rev_valid' {p : List Int} (h : validB p = true) : validB p.reverse = true := by
  unfold validB at h ⊢
  simpa using h
theorem gpairs_rev {p : List Int} (h : validB p = true) : pairsV p.reverse = pairsV p := by
  unfold pairsV
  rw [if_pos h, if_pos (rev_valid' h), List.length_reverse, pairsS_rev]

noncomputable def rowP (g : List (List Int)) (r : Nat) : Int := pairsV (fillF (cellG g r) (colsG g) (colsG g))
noncomputable def colP (g : List (List Int)) (c : Nat) : Int := pairsV (fillF (fun r => cellG g r c) g.length g.length)
noncomputable def gsV (g : List (List Int)) : Int := if gvalB g then sumB (rowP g) g.length + sumB (colP g) (colsG g) else -1
theorem fill_getD (f : Nat → Int) (n i : Nat) (h : i < n) : (fillF f n n).getD i 0 = f i := by
  rw [fillF_all]; simp [h]
theorem fill_valid {f : Nat → Int} {n : Nat} (h1 : 1 ≤ n) (h2 : n ≤ 20) (h : ∀ i, i < n → 0 ≤ f i ∧ f i ≤ 99) : validB (fillF f n n) = true :=
  valid_mk (by rw [fillF_len]; exact h1) (by rw [fillF_len]; exact h2) (fun i hi => by rw [fillF_len] at hi; rw [fill_getD f n i hi]; exact h i hi)
theorem row_valid {g : List (List Int)} (hv : gvalB g = true) {r : Nat} (hr : r < g.length) : validB (fillF (cellG g r) (colsG g) (colsG g)) = true := by
  have h := gval_rows hv
  exact fill_valid (by omega) (by omega) (fun c hc => gval_cell hv r c hr hc)
theorem col_valid {g : List (List Int)} (hv : gvalB g = true) {c : Nat} (hc : c < colsG g) : validB (fillF (fun r => cellG g r c) g.length g.length) = true := by
  have h := gval_rows hv
  exact fill_valid (by omega) (by omega) (fun r hr => gval_cell hv r c hr hc)
theorem pairsV_bd {p : List Int} (h : validB p = true) : 0 ≤ pairsV p ∧ pairsV p ≤ 400 := by
  unfold pairsV
  rw [if_pos h]
  exact pairsS_bd p _ (valid_len h).2
theorem sum_bd {f : Nat → Int} : ∀ {n : Nat}, (∀ i, i < n → 0 ≤ f i ∧ f i ≤ 400) → 0 ≤ sumB f n ∧ sumB f n ≤ 400 * n
  | 0, _ => by simp [sumB]
  | n + 1, h => by
    have a := sum_bd (n := n) (fun i hi => h i (by omega))
    have b := h n (by omega)
    simp only [sumB]
    omega
theorem rows_bd {g : List (List Int)} (hv : gvalB g = true) (k : Nat) (hk : k ≤ g.length) : 0 ≤ sumB (rowP g) k ∧ sumB (rowP g) k ≤ 2800 := by
  have h := gval_rows hv
  have := sum_bd (f := rowP g) (n := k) (fun i hi => pairsV_bd (row_valid hv (by omega)))
  omega
theorem cols_bd {g : List (List Int)} (hv : gvalB g = true) (k : Nat) (hk : k ≤ colsG g) : 0 ≤ sumB (colP g) k ∧ sumB (colP g) k ≤ 2800 := by
  have h := gval_rows hv
  have := sum_bd (f := colP g) (n := k) (fun i hi => pairsV_bd (col_valid hv (by omega)))
  omega
/-- The grid turned to the right. -/
def turnG (g : List (List Int)) : List (List Int) := (List.range (colsG g)).map (fun c => (List.range g.length).map (fun j => cellG g (g.length - 1 - j) c))
theorem turn_row (g : List (List Int)) (c : Nat) (hc : c < colsG g) : (turnG g).getD c [] = (fillF (fun r => cellG g r c) g.length g.length).reverse := by
  unfold turnG
  rw [show ((List.range (colsG g)).map (fun c => (List.range g.length).map (fun j => cellG g (g.length - 1 - j) c))).getD c [] = (List.range g.length).map (fun j => cellG g (g.length - 1 - j) c) by simp [hc]]
  rw [fillF_all]
  apply List.ext_getElem
  · simp
  · intro i h1 h2
    simp

end Go.Proofs.Ytjpcbegndnbeeaa
