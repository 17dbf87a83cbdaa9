/- Plain functions on sets of points as numbers: who watches. -/
import Derived.Test.YtlmigoplffdpiaaPlainS
import Derived.Test.YtlmigoplffdpiaaOnes
namespace Go.Proofs.Ytlmigoplffdpiaa

/-- The number whose bits below n are those of f. -/
def mk (f : Nat → Bool) : Nat → Nat
  | 0 => 0
  | k + 1 => mk f k + (if f k then 2 ^ k else 0)
theorem mk_lt (f : Nat → Bool) : ∀ n, mk f n < 2 ^ n
  | 0 => by simp [mk]
  | n + 1 => by
    have ih := mk_lt f n
    have e : 2 ^ (n + 1) = 2 ^ n + 2 ^ n := by rw [Nat.pow_succ]; omega
    simp only [mk]
    split <;> omega
theorem mk_bit (f : Nat → Bool) : ∀ n k, (mk f n).testBit k = (decide (k < n) && f k)
  | 0, k => by simp [mk]
  | n + 1, k => by
    have ih := mk_bit f n
    have hl := mk_lt f n
    simp only [mk]
    cases hf : f n
    · simp only [Bool.false_eq_true, if_false, Nat.add_zero]
      rw [ih]
      by_cases e : k = n
      · subst e; simp [hf]
      · have : decide (k < n + 1) = decide (k < n) := by simp; omega
        rw [this]
    · simp only [if_true]
      rw [Nat.add_comm, Nat.two_pow_add_eq_or_of_lt' hl, Nat.testBit_or, Nat.testBit_two_pow, ih]
      by_cases e : k = n
      · subst e; simp [hf]
      · have : decide (k < n + 1) = decide (k < n) := by simp; omega
        rw [this]
        have : decide (n = k) = false := by simp; omega
        rw [this, Bool.false_or]
where
  Nat.two_pow_add_eq_or_of_lt' {a n : Nat} (h : a < 2 ^ n) : 2 ^ n + a = 2 ^ n ||| a := by
    have := Nat.two_pow_add_eq_or_of_lt h 1
    simpa using this
theorem mk_eq {f : Nat → Bool} {n x : Nat} (h : ∀ k, x.testBit k = (decide (k < n) && f k)) : x = mk f n := by
  apply Nat.eq_of_testBit_eq
  intro k
  rw [h, mk_bit]
theorem mk_or (f g : Nat → Bool) (n : Nat) : mk f n ||| mk g n = mk (fun k => f k || g k) n := by
  refine mk_eq (fun k => ?_)
  rw [Nat.testBit_or, mk_bit, mk_bit]
  cases decide (k < n) <;> simp
theorem mk_all (n : Nat) : mk (fun _ => true) n = 2 ^ n - 1 := by
  refine (mk_eq (fun k => ?_)).symm
  rw [Nat.testBit_two_pow_sub_one, Bool.and_true]
theorem mk_inj {f g : Nat → Bool} {n : Nat} : mk f n = mk g n ↔ ∀ k, k < n → f k = g k := by
  constructor
  · intro h k hk
    have := congrArg (fun x => x.testBit k) h
    simp only [mk_bit, decide_eq_true hk, Bool.true_and] at this
    exact this
  · intro h
    refine mk_eq (fun k => ?_)
    rw [mk_bit]
    by_cases hk : k < n
    · rw [h k hk]
    · rw [decide_eq_false hk]; rfl

/-- What a point sees, as a number. -/
noncomputable def maskN (p : List Int) (i : Nat) : Nat := mk (fun k => seesB p i k 0) p.length
/-- What the points of a set below m see. -/
noncomputable def watN (p : List Int) (s : Nat) : Nat → Nat
  | 0 => 0
  | m + 1 => if s.testBit m then watN p s m ||| maskN p m else watN p s m
/-- What they see, point by point. -/
noncomputable def watB (p : List Int) (s m k : Nat) : Bool := (List.range m).any (fun i => s.testBit i && seesB p i k 0)
theorem watB_succ (p : List Int) (s m k : Nat) : watB p s (m + 1) k = (watB p s m k || (s.testBit m && seesB p m k 0)) := by
  simp [watB, List.range_succ]
theorem watN_mk (p : List Int) (s : Nat) : ∀ m, watN p s m = mk (watB p s m) p.length
  | 0 => by
    refine mk_eq (fun k => ?_)
    simp [watN, watB]
  | m + 1 => by
    have ih := watN_mk p s m
    simp only [watN]
    cases h : s.testBit m
    · simp only [Bool.false_eq_true, if_false]
      rw [ih]
      exact mk_inj.2 (fun k _ => by rw [watB_succ, h, Bool.false_and, Bool.or_false])
    · simp only [if_true]
      rw [ih, maskN, mk_or]
      exact mk_inj.2 (fun k _ => by rw [watB_succ, h, Bool.true_and])
theorem watN_lt (p : List Int) (s m : Nat) : watN p s m < 2 ^ p.length := by rw [watN_mk]; exact mk_lt _ _
theorem watN_all {p : List Int} {s m : Nat} : watN p s m = 2 ^ p.length - 1 ↔ ∀ k, k < p.length → watB p s m k = true := by
  rw [watN_mk, ← mk_all, mk_inj]
theorem watB_iff {p : List Int} {s m k : Nat} : watB p s m k = true ↔ ∃ i, i < m ∧ s.testBit i = true ∧ seesB p i k 0 = true := by
  simp [watB]
/-- The least number of points of a set up to m that watches all. -/
noncomputable def wmin (p : List Int) : Nat → Nat
  | 0 => p.length
  | m + 1 => if watN p (m + 1) p.length = 2 ^ p.length - 1 then min (wmin p m) (popN (m + 1) p.length) else wmin p m
noncomputable def watchB (p : List Int) : Bool := validB p && decide (p.length ≤ 12)
noncomputable def watchV (p : List Int) : Int := if watchB p then (wmin p (2 ^ p.length - 1) : Int) else -1
theorem pop_le (x : Nat) : ∀ n, popN x n ≤ n
  | 0 => Nat.le_refl _
  | n + 1 => by have := pop_le x n; simp only [popN]; split <;> omega
theorem wmin_le (p : List Int) : ∀ m, wmin p m ≤ p.length
  | 0 => Nat.le_refl _
  | m + 1 => by
    have := wmin_le p m
    simp only [wmin]
    split <;> omega
theorem pop_ext (x : Nat) {n : Nat} (hx : x < 2 ^ n) : ∀ d, popN x (n + d) = popN x n
  | 0 => rfl
  | d + 1 => by
    have ih := pop_ext x hx d
    have : x.testBit (n + d) = false := Nat.testBit_lt_two_pow (Nat.lt_of_lt_of_le hx (Nat.pow_le_pow_right (by omega) (by omega)))
    rw [show n + (d + 1) = (n + d) + 1 by omega]
    simp only [popN, this, Bool.false_eq_true, if_false, Nat.add_zero]
    exact ih
theorem pop_12 {x n : Nat} (hx : x < 2 ^ n) (hn : n ≤ 12) : popN x 12 = popN x n := by
  have := pop_ext x hx (12 - n)
  rw [show n + (12 - n) = 12 by omega] at this
  exact this
theorem pow_12 {n : Nat} (hn : n ≤ 12) : 2 ^ n ≤ 4096 ∧ 0 < 2 ^ n := ⟨Nat.le_trans (Nat.pow_le_pow_right (by omega) hn) (by decide), Nat.pow_pos (by omega)⟩

end Go.Proofs.Ytlmigoplffdpiaa
