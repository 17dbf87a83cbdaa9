/- Plain words: peaks, keys, the least height. -/
import Derived.Test.YtkhhloeemecokaaPlainPV
import Derived.Test.YtkhhloeemecokaaPlainG
import Derived.Test.YtkhhloeemecokaaPlainRG
namespace Go.Proofs.Ytkhhloeemecokaa

def hiH (h : Nat → Int) (a b : Nat) : Bool := decide (h b < h a ∨ (h a = h b ∧ a < b))
def peakH (X : List Int) (h : Nat → Int) (i : Nat) : Bool := X.all (fun x => !hiH h x.toNat i)
def bestK (P : List Int) (h : Nat → Int) (i : Nat) : Nat → Int
  | 0 => -1
  | k + 1 => if hiH h k i = true then max (bestK P h i k) (P.getD k 0) else bestK P h i k
def lowK (h : Nat → Int) (x : Int) : Nat → Int
  | 0 => x
  | k + 1 => min (lowK h x k) (h k)
def highK (h : Nat → Int) (x : Int) : Nat → Int
  | 0 => x
  | k + 1 => max (highK h x k) (h k)
noncomputable def keyH (N : Nat) (nb : Nat → List Int) (h : Nat → Int) (i : Nat) : Int :=
  if 0 ≤ bestK (passL N nb h i) h i N then bestK (passL N nb h i) h i N else lowK h (h i) N
theorem peak_no {X : List Int} {h : Nat → Int} {i m : Nat} {j : Nat} (hm : m < X.length) (hj : X.getD m 0 = j) (hh : hiH h j i = true) : peakH X h i = false := by
  unfold peakH
  have hmem : (j : Int) ∈ X := by rw [← hj, List.getD_eq_getElem?_getD, List.getElem?_eq_getElem hm]; simp
  refine Bool.eq_false_iff.2 (fun hall => ?_)
  have := List.all_eq_true.1 hall _ hmem
  rw [Int.toNat_natCast, hh] at this
  cases this
theorem peak_pre {X : List Int} {h : Nat → Int} {i m : Nat} {j : Nat} (hm : m < X.length) (hj : X.getD m 0 = j) (hh : hiH h j i = false) (hp : peakH (X.take m) h i = true) : peakH (X.take (m + 1)) h i = true := by
  unfold peakH at hp ⊢
  rw [List.take_succ_eq_append_getElem hm, List.all_append, hp, Bool.true_and]
  rw [List.getD_eq_getElem?_getD, List.getElem?_eq_getElem hm] at hj
  simp only [Option.getD_some] at hj
  simp [hj, hh]
theorem lowK_le (h : Nat → Int) (x : Int) : ∀ k, lowK h x k ≤ x ∧ ∀ j, j < k → lowK h x k ≤ h j
  | 0 => ⟨Int.le_refl _, fun j hj => absurd hj (by omega)⟩
  | k + 1 => by
    obtain ⟨h1, h2⟩ := lowK_le h x k
    refine ⟨?_, fun j hj => ?_⟩
    · show min _ _ ≤ _; omega
    · show min _ _ ≤ _
      by_cases e : j = k
      · subst e; omega
      · have := h2 j (by omega); omega
theorem lowK_at (h : Nat → Int) (x : Int) : ∀ k, lowK h x k = x ∨ ∃ j, j < k ∧ lowK h x k = h j
  | 0 => .inl rfl
  | k + 1 => by
    have e : lowK h x (k + 1) = min (lowK h x k) (h k) := rfl
    rw [e]
    by_cases hm : lowK h x k ≤ h k
    · rw [Int.min_eq_left hm]
      rcases lowK_at h x k with q | ⟨j, hj, q⟩
      · exact .inl q
      · exact .inr ⟨j, by omega, q⟩
    · rw [Int.min_eq_right (by omega)]
      exact .inr ⟨k, by omega, rfl⟩
/-- The least height does not hang on the cell that the search begins with. -/
theorem lowK_any {h : Nat → Int} {N i j : Nat} (hi : i < N) (hj : j < N) : lowK h (h i) N = lowK h (h j) N := by
  obtain ⟨-, a2⟩ := lowK_le h (h i) N
  obtain ⟨-, b2⟩ := lowK_le h (h j) N
  have h1 : lowK h (h i) N ≤ lowK h (h j) N := by
    rcases lowK_at h (h j) N with q | ⟨k, hk, q⟩
    · rw [q]; exact a2 j hj
    · rw [q]; exact a2 k hk
  have h2 : lowK h (h j) N ≤ lowK h (h i) N := by
    rcases lowK_at h (h i) N with q | ⟨k, hk, q⟩
    · rw [q]; exact b2 i hi
    · rw [q]; exact b2 k hk
  omega
theorem lowK_is {h : Nat → Int} {N i : Nat} {m : Int} (hi : i < N) (h1 : ∀ j, j < N → m ≤ h j) (h2 : ∃ j, j < N ∧ m = h j) : m = lowK h (h i) N := by
  obtain ⟨j, hj, e⟩ := h2
  have a := (lowK_le h (h i) N).2 j hj
  have b : m ≤ lowK h (h i) N := by
    rcases lowK_at h (h i) N with q | ⟨k, hk, q⟩
    · rw [q]; exact h1 i hi
    · rw [q]; exact h1 k hk
  omega
theorem flat_fun {g : List (List Int)} {n C : Nat} (hn : n = g.length) (hC : 1 ≤ C) : (fun i => (flatG g n C (n * C)).getD i 0) = hgtG g C := by
  funext i
  by_cases hi : i < n * C
  · have hq : i / C < n := Nat.div_lt_of_lt_mul (by rw [Nat.mul_comm]; exact hi)
    have hm : i % C < C := Nat.mod_lt _ hC
    have := flat_getD g (R := n) hq hm
    rw [show i / C * C + i % C = i by rw [Nat.mul_comm]; exact Nat.div_add_mod i C] at this
    exact this
  · have hq : ¬ i / C < n := fun e => hi (by
      have := (Nat.div_lt_iff_lt_mul hC).1 e
      exact this)
    rw [List.getD_eq_getElem?_getD, List.getElem?_eq_none (by rw [flat_len]; omega)]
    unfold hgtG cellG
    have e0 : g.getD (i / C) [] = [] := by rw [List.getD_eq_getElem?_getD, List.getElem?_eq_none (by omega)]; rfl
    rw [e0]
    simp
theorem grVal {g : List (List Int)} {n C : Nat} (hv : gvalB g = true) (hn : n = g.length) (hC : C = colsG g) : Gr (n * C) (nearL n C) (hgtG g C) := by
  obtain ⟨h1, h2, h3, h4⟩ := gval_rows hv
  refine grGrid g n C (by omega) (by omega) (fun i hi => ?_)
  have hq : i / C < n := Nat.div_lt_of_lt_mul (by rw [Nat.mul_comm]; exact hi)
  have hm : i % C < C := Nat.mod_lt _ (by omega)
  exact (gval_cell hv (i / C) (i % C) (by omega) (by omega)).1

end Go.Proofs.Ytkhhloeemecokaa
