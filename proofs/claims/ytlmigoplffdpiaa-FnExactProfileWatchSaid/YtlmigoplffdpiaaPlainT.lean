/- Plain functions on thinned profiles: errors. -/
import Derived.Test.YtlmigoplffdpiaaPlain
namespace Go.Proofs.Ytlmigoplffdpiaa

/-- By how much the point j is off the straight line between i and k, times their distance. -/
def offV (p : List Int) (i j k : Nat) : Int := p.getD j 0 * ((k : Int) - i) - p.getD i 0 * ((k : Int) - j) - p.getD k 0 * ((j : Int) - i)
def errV (p : List Int) (i j k : Nat) : Int := (max (offV p i j k) (-(offV p i j k)) + k - i - 1) / ((k : Int) - i)

theorem prod_le {x X y : Int} (h : x ≤ X) (h' : 0 ≤ y) : x * y ≤ X * y := Int.mul_le_mul_of_nonneg_right h h'

theorem off_bd {p : List Int} (hv : validB p = true) {i j k : Nat} (h1 : i ≤ j) (h2 : j ≤ k) : -(99 * ((k : Int) - i)) ≤ offV p i j k ∧ offV p i j k ≤ 99 * ((k : Int) - i) := by
  have a := valid_ht' hv i
  have b := valid_ht' hv j
  have c := valid_ht' hv k
  obtain ⟨a0, a1⟩ := prod_bd (y := (k : Int) - j) (Y := (k : Int) - j) a.1 a.2 (by omega) (Int.le_refl _)
  obtain ⟨b0, b1⟩ := prod_bd (y := (k : Int) - i) (Y := (k : Int) - i) b.1 b.2 (by omega) (Int.le_refl _)
  obtain ⟨c0, c1⟩ := prod_bd (y := (j : Int) - i) (Y := (j : Int) - i) c.1 c.2 (by omega) (Int.le_refl _)
  unfold offV
  omega

theorem err_bd {p : List Int} (hv : validB p = true) {i j k : Nat} (h1 : i ≤ j) (h2 : j ≤ k) (h3 : i < k) : 0 ≤ errV p i j k ∧ errV p i j k ≤ 99 := by
  have h := off_bd hv h1 h2
  unfold errV
  constructor
  · exact Int.ediv_nonneg (by omega) (by omega)
  · have : (max (offV p i j k) (-(offV p i j k)) + k - i - 1) / ((k : Int) - i) < 100 := by
      rw [Int.ediv_lt_iff_lt_mul (by omega)]
      omega
    omega

/-- The greatest error of the first m points behind i. -/
def spanR (p : List Int) (i k : Nat) : Nat → Int
  | 0 => 0
  | m + 1 => max (spanR p i k m) (errV p i (i + 1 + m) k)
def spanV (p : List Int) (i k : Nat) : Int := spanR p i k (k - i - 1)
theorem spanR_bd {p : List Int} (hv : validB p = true) {i k : Nat} : ∀ {m : Nat}, i + m < k → 0 ≤ spanR p i k m ∧ spanR p i k m ≤ 99
  | 0, _ => by simp [spanR]
  | m + 1, h => by
    have a := spanR_bd hv (i := i) (k := k) (m := m) (by omega)
    have b := err_bd hv (i := i) (j := i + 1 + m) (k := k) (by omega) (by omega) (by omega)
    simp only [spanR]
    omega
theorem spanV_bd {p : List Int} (hv : validB p = true) (i k : Nat) : 0 ≤ spanV p i k ∧ spanV p i k ≤ 99 := by
  unfold spanV
  by_cases h : i < k
  · exact spanR_bd hv (by omega)
  · rw [show k - i - 1 = 0 by omega]; simp [spanR]
theorem spanV_next (p : List Int) (i : Nat) : spanV p i (i + 1) = 0 := by
  unfold spanV
  rw [show i + 1 - i - 1 = 0 by omega]; rfl

/-- The greatest error along the first m points of a list of points. -/
def thinR (p l : List Int) : Nat → Int
  | 0 => 0
  | m + 1 => if m = 0 then 0 else max (thinR p l m) (spanV p (l.getD (m - 1) 0).toNat (l.getD m 0).toNat)
noncomputable def thinE (p l : List Int) : Int := if thinB p l then thinR p l l.length else -1
theorem thinR_succ (p l : List Int) (m : Nat) (h : 0 < m) : thinR p l (m + 1) = max (thinR p l m) (spanV p (l.getD (m - 1) 0).toNat (l.getD m 0).toNat) := by
  simp only [thinR]; rw [if_neg (by omega)]
theorem thinR_bd {p : List Int} (hv : validB p = true) (l : List Int) : ∀ m, 0 ≤ thinR p l m ∧ thinR p l m ≤ 99
  | 0 => by simp [thinR]
  | m + 1 => by
    have a := thinR_bd hv l m
    have b := spanV_bd hv (l.getD (m - 1) 0).toNat (l.getD m 0).toNat
    simp only [thinR]
    split <;> omega
theorem thinE_yes {p l : List Int} (h : thinB p l = true) : thinE p l = thinR p l l.length := by simp [thinE, h]
theorem thinE_no {p l : List Int} (h : thinB p l = false) : thinE p l = -1 := by simp [thinE, h]

def errB (e : Int) : Bool := inB e 0 99
noncomputable def keepB (p l : List Int) (e : Int) : Bool := thinB p l && errB e && decide (thinE p l ≤ e)

theorem leastB_cases2 (f : Nat → Bool) : ∀ n : Nat, (∀ i, i < n → f i = false) ∨ ∃ k, k < n ∧ f k = true ∧ (∀ i, i < k → f i = false)
  | 0 => .inl fun i hi => by omega
  | n + 1 => by
    rcases leastB_cases2 f n with h | ⟨k, h1, h2, h3⟩
    · cases e : f n
      · left
        intro i hi
        by_cases ei : i = n
        · subst ei; exact e
        · exact h i (by omega)
      · exact .inr ⟨n, by omega, e, h⟩
    · exact .inr ⟨k, by omega, h2, h3⟩

end Go.Proofs.Ytlmigoplffdpiaa
