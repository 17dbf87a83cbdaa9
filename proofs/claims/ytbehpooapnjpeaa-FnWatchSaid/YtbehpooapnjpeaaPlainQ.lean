/- Plain laws: the best point, and few points that watch all. -/
import Derived.Test.YtbehpooapnjpeaaPlainV
import Derived.Test.YtbehpooapnjpeaaSWatch
import Derived.Test.YtbehpooapnjpeaaBest
namespace Go.Proofs.Ytbehpooapnjpeaa

theorem best_max (p : List Int) : ∀ k i, i < k → seeN p i ≤ seeN p (bestS p k) ∧ (i < bestS p k → seeN p i < seeN p (bestS p k))
  | 0, i, h => by omega
  | k + 1, i, h => by
    by_cases hc : seeN p (bestS p k) < seeN p k
    · rw [bestS_yes hc]
      by_cases e : i = k
      · subst e; exact ⟨Nat.le_refl _, fun h => by omega⟩
      · have := (best_max p k i (by omega)).1
        exact ⟨by omega, fun _ => by omega⟩
    · rw [bestS_no hc]
      by_cases e : i = k
      · subst e
        refine ⟨by omega, fun h2 => ?_⟩
        rcases Nat.eq_zero_or_pos i with h0 | h0
        · subst h0; simp [bestS] at h2
        · have := bestS_lt p i h0; omega
      · exact best_max p k i (by omega)

/-- Sets of points that watch all. -/
def allB (p : List Int) (s : Nat) : Prop := ∀ k, k < p.length → watB p s p.length k = true
theorem wmin_low {p : List Int} {s : Nat} (h1 : 1 ≤ s) (hs : allB p s) : ∀ m, s ≤ m → wmin p m ≤ popN s p.length
  | 0, h => by omega
  | m + 1, h => by
    simp only [wmin]
    by_cases e : s = m + 1
    · subst e
      rw [if_pos (watN_all.2 hs)]; omega
    · have := wmin_low h1 hs m (by omega)
      split <;> omega
theorem wmin_at (p : List Int) : ∀ m, wmin p m = p.length ∨ ∃ s, 1 ≤ s ∧ s ≤ m ∧ allB p s ∧ wmin p m = popN s p.length
  | 0 => .inl rfl
  | m + 1 => by
    simp only [wmin]
    by_cases h : watN p (m + 1) p.length = 2 ^ p.length - 1
    · rw [if_pos h]
      rcases Nat.le_total (wmin p m) (popN (m + 1) p.length) with hle | hle
      · rw [Nat.min_eq_left hle]
        rcases wmin_at p m with h1 | ⟨s, h1, h2, h3, h4⟩
        · exact .inl h1
        · exact .inr ⟨s, h1, by omega, h3, h4⟩
      · rw [Nat.min_eq_right hle]
        exact .inr ⟨m + 1, by omega, Nat.le_refl _, watN_all.1 h, rfl⟩
    · rw [if_neg h]
      rcases wmin_at p m with h1 | ⟨s, h1, h2, h3, h4⟩
      · exact .inl h1
      · exact .inr ⟨s, h1, by omega, h3, h4⟩
theorem pop_cnt (s : Nat) : ∀ n, (popN s n : Int) = cntB s.testBit n
  | 0 => rfl
  | n + 1 => by
    have := pop_cnt s n
    simp only [popN, cntB]
    cases s.testBit n <;> simp <;> omega
theorem pop_mk (f : Nat → Bool) (n : Nat) : (popN (mk f n) n : Int) = cntB f n := by
  rw [pop_cnt]
  exact cntB_congr (fun i hi => by rw [mk_bit, decide_eq_true hi, Bool.true_and])
theorem cnt_true (n : Nat) : cntB (fun _ => true) n = n := by
  induction n with
  | zero => rfl
  | succ n ih => rw [cntB_yes rfl, ih]; omega
theorem mk_le (f : Nat → Bool) (n : Nat) : mk f n ≤ 2 ^ n - 1 := by have := mk_lt f n; omega
theorem mk_pos {f : Nat → Bool} {n i : Nat} (hi : i < n) (h : f i = true) : 1 ≤ mk f n := by
  rcases Nat.eq_zero_or_pos (mk f n) with h0 | h0
  · have := mk_bit f n i
    rw [h0, h, decide_eq_true hi] at this
    simp at this
  · exact h0
theorem all_mk {p : List Int} {f : Nat → Bool} : allB p (mk f p.length) ↔ ∀ k, k < p.length → ∃ i, i < p.length ∧ f i = true ∧ seesB p i k 0 = true := by
  unfold allB
  constructor
  · intro h k hk
    obtain ⟨i, h1, h2, h3⟩ := watB_iff.1 (h k hk)
    rw [mk_bit, decide_eq_true h1, Bool.true_and] at h2
    exact ⟨i, h1, h2, h3⟩
  · intro h k hk
    obtain ⟨i, h1, h2, h3⟩ := h k hk
    exact watB_iff.2 ⟨i, h1, by rw [mk_bit, decide_eq_true h1, h2]; rfl, h3⟩
/-- The least number of watching points, by tests. -/
theorem wmin_le_of {p : List Int} {f : Nat → Bool} (hn : 0 < p.length) (h : ∀ k, k < p.length → ∃ i, i < p.length ∧ f i = true ∧ seesB p i k 0 = true) : (wmin p (2 ^ p.length - 1) : Int) ≤ cntB f p.length := by
  obtain ⟨i, h1, h2, -⟩ := h 0 hn
  have := wmin_low (mk_pos h1 h2) (all_mk.2 h) (2 ^ p.length - 1) (mk_le _ _)
  have e := pop_mk f p.length
  omega
theorem wmin_ex {p : List Int} : ∃ f : Nat → Bool, (∀ k, k < p.length → ∃ i, i < p.length ∧ f i = true ∧ seesB p i k 0 = true) ∧ (wmin p (2 ^ p.length - 1) : Int) = cntB f p.length := by
  rcases wmin_at p (2 ^ p.length - 1) with h | ⟨s, h1, h2, h3, h4⟩
  · refine ⟨fun _ => true, fun k hk => ⟨k, hk, rfl, sees_self p k⟩, ?_⟩
    rw [h, cnt_true]
  · refine ⟨s.testBit, fun k hk => ?_, by rw [h4, pop_cnt]⟩
    obtain ⟨i, a, b, c⟩ := watB_iff.1 (h3 k hk)
    exact ⟨i, a, b, c⟩
theorem cnt_pos {f : Nat → Bool} {i : Nat} : ∀ n, i < n → f i = true → 1 ≤ cntB f n
  | 0, h, _ => by omega
  | n + 1, h, hf => by
    have b := (cntB_bd f n).1
    by_cases e : i = n
    · subst e; rw [cntB_yes hf]; omega
    · have := cnt_pos n (by omega) hf
      simp only [cntB]; split <;> omega
theorem cnt_one {f : Nat → Bool} {i j : Nat} : ∀ n, i < j → j < n → f i = true → f j = true → 2 ≤ cntB f n
  | 0, _, h, _, _ => by omega
  | n + 1, h1, h2, hi, hj => by
    by_cases e : j = n
    · subst e
      have := cnt_pos (f := f) j h1 hi
      rw [cntB_yes hj]; omega
    · have := cnt_one n h1 (by omega) hi hj
      simp only [cntB]; split <;> omega
theorem cnt_full {f : Nat → Bool} : ∀ n, cntB f n = n → ∀ i, i < n → f i = true
  | 0, _, i, h => by omega
  | n + 1, h, i, hi => by
    have b := (cntB_bd f n).2
    cases hf : f n
    · rw [cntB_no hf] at h; omega
    · rw [cntB_yes hf] at h
      by_cases e : i = n
      · subst e; exact hf
      · exact cnt_full n (by omega) i (by omega)
theorem cnt_point (j : Nat) : ∀ n, j < n → cntB (fun i => decide (i = j)) n = 1
  | 0, h => by omega
  | n + 1, h => by
    by_cases e : j = n
    · subst e
      have z : cntB (fun i => decide (i = j)) j = 0 := by
        have : cntB (fun i => decide (i = j)) j = cntB (fun _ => false) j := cntB_congr (fun i hi => by simp; omega)
        rw [this]
        have zz : ∀ m, cntB (fun _ => false) m = 0 := by
          intro m; induction m with
          | zero => rfl
          | succ m ih => rw [cntB_no rfl, ih]
        exact zz j
      rw [cntB_yes (by simp), z]; rfl
    · rw [cntB_no (by simp; omega)]
      exact cnt_point j n (by omega)
theorem see_cnt {p : List Int} (hv : validB p = true) {i : Nat} (hi : i < p.length) : (seeN p i : Int) = cntB (fun k => seesB p i k 0) p.length := seen_len hv hi
/-- FnProfileBest. -/
theorem watch_one {p : List Int} (hv : validB p = true) (h12 : p.length ≤ 12) : 1 ≤ watchV p ∧ watchV p ≤ 12 ∧ (watchV p = 1 ↔ seeN p (bestS p p.length) = p.length) := by
  have hl := valid_len hv
  rw [watch_yes hv h12]
  have hb := bestS_lt p p.length (by omega)
  have hw := wmin_le p (2 ^ p.length - 1)
  obtain ⟨f, f1, f2⟩ := wmin_ex (p := p)
  have hpos : 1 ≤ cntB f p.length := by
    obtain ⟨i, a, b, -⟩ := f1 0 (by omega)
    exact cnt_pos _ a b
  refine ⟨by omega, by omega, ?_, ?_⟩
  · intro h1
    obtain ⟨i, a, b, -⟩ := f1 0 (by omega)
    have hall : ∀ k, k < p.length → seesB p i k 0 = true := by
      intro k hk
      obtain ⟨j, c, d, e⟩ := f1 k hk
      by_cases hij : i = j
      · subst hij; exact e
      · exfalso
        have : 2 ≤ cntB f p.length := by
          rcases Nat.lt_or_ge i j with hlt | hge
          · exact cnt_one _ hlt c b d
          · exact cnt_one _ (show j < i by omega) a d b
        omega
    have hsee : (seeN p i : Int) = p.length := by
      rw [see_cnt hv a, cntB_congr (g := fun _ => true) (fun k hk => hall k hk), cnt_true]
    have := (best_max p p.length i a).1
    have := seeN_le p (bestS p p.length)
    omega
  · intro h1
    have hs := see_cnt hv hb
    rw [h1] at hs
    have hall := cnt_full _ hs.symm
    have := wmin_le_of (p := p) (f := fun i => decide (i = bestS p p.length)) (by omega) (fun k hk => ⟨bestS p p.length, hb, by simp, hall k hk⟩)
    rw [cnt_point _ _ hb] at this
    omega

/-- FnWatch. -/
def thirdB (n i : Nat) : Bool := decide (i % 3 = 1 ∨ (i + 1 = n ∧ n % 3 = 1))
theorem third_cnt : ∀ m, cntB (fun i => decide (i % 3 = 1)) m = ((m + 1) / 3 : Nat)
  | 0 => rfl
  | m + 1 => by
    have ih := third_cnt m
    by_cases h : m % 3 = 1
    · rw [cntB_yes (by simpa using h), ih]; omega
    · rw [cntB_no (by simpa using h), ih]; omega
theorem third_all (n : Nat) (hn : 0 < n) : cntB (thirdB n) n = ((n + 2) / 3 : Nat) := by
  obtain ⟨m, rfl⟩ : ∃ m, n = m + 1 := ⟨n - 1, by omega⟩
  have e : cntB (thirdB (m + 1)) m = cntB (fun i => decide (i % 3 = 1)) m := cntB_congr (fun i hi => by
    unfold thirdB
    congr 1
    simp only [eq_iff_iff]
    omega)
  have := third_cnt m
  by_cases h : m % 3 = 1 ∨ (m + 1 = m + 1 ∧ (m + 1) % 3 = 1)
  · rw [cntB_yes (show thirdB (m + 1) m = true from decide_eq_true h), e, this]; omega
  · rw [cntB_no (show thirdB (m + 1) m = false from decide_eq_false h), e, this]; omega
theorem watch_third {p : List Int} (hv : validB p = true) (h12 : p.length ≤ 12) : watchV p ≤ ((p.length + 2) / 3 : Nat) := by
  have hl := valid_len hv
  rw [watch_yes hv h12, ← third_all p.length (by omega)]
  refine wmin_le_of (by omega) (fun k hk => ?_)
  by_cases h0 : k % 3 = 0
  · by_cases h1 : k + 1 < p.length
    · exact ⟨k + 1, h1, by simp only [thirdB, decide_eq_true_eq]; omega, sees_near _ _ (by omega) (by omega)⟩
    · exact ⟨k, hk, by simp only [thirdB, decide_eq_true_eq]; omega, sees_self p k⟩
  · by_cases h1 : k % 3 = 1
    · exact ⟨k, hk, by simp only [thirdB, decide_eq_true_eq]; omega, sees_self p k⟩
    · exact ⟨k - 1, by omega, by simp only [thirdB, decide_eq_true_eq]; omega, sees_near _ _ (by omega) (by omega)⟩
theorem wmin_rev_le {p : List Int} (hn : 0 < p.length) : (wmin p.reverse (2 ^ p.length - 1) : Int) ≤ wmin p (2 ^ p.length - 1) := by
  obtain ⟨f, f1, f2⟩ := wmin_ex (p := p)
  rw [f2, ← cnt_rev f p.length]
  have h := wmin_le_of (p := p.reverse) (f := fun i => f (p.length - 1 - i)) (by simpa using hn) (fun k hk => by
    rw [List.length_reverse] at hk ⊢
    obtain ⟨i, a, b, c⟩ := f1 (p.length - 1 - k) (by omega)
    refine ⟨p.length - 1 - i, by omega, by rw [show p.length - 1 - (p.length - 1 - i) = i by omega]; exact b, ?_⟩
    have := sees_rev (p := p) (i := i) (k := p.length - 1 - k) a (by omega)
    rw [show p.length - 1 - (p.length - 1 - k) = k by omega] at this
    rw [this]; exact c)
  rw [List.length_reverse] at h
  exact h
theorem watch_back {p : List Int} (hv : validB p = true) (h12 : p.length ≤ 12) : watchV (backL p) = watchV p := by
  have hl := valid_len hv
  rw [backL_valid hv, watch_yes hv h12, watch_yes (rev_valid hv) (by simpa using h12), List.length_reverse]
  have a := wmin_rev_le (p := p) (by omega)
  have b := wmin_rev_le (p := p.reverse) (by simp; omega)
  rw [List.reverse_reverse, List.length_reverse] at b
  omega
theorem cnt_or (f g : Nat → Bool) : ∀ n, cntB (fun k => f k || g k) n ≤ cntB f n + cntB g n
  | 0 => by simp [cntB]
  | n + 1 => by
    have := cnt_or f g n
    have key : ∀ a b : Bool, (if (a || b) = true then (1 : Int) else 0) ≤ (if a = true then 1 else 0) + (if b = true then 1 else 0) := by decide
    have k := key (f n) (g n)
    simp only [cntB]
    generalize (if (f n || g n) = true then (1 : Int) else 0) = x at *
    generalize (if f n = true then (1 : Int) else 0) = y at *
    generalize (if g n = true then (1 : Int) else 0) = z at *
    omega
theorem cover_le {p : List Int} (hv : validB p = true) (f : Nat → Bool) (M : Int) (hM : ∀ i, i < p.length → (seeN p i : Int) ≤ M) (hM0 : 0 ≤ M) : ∀ m, m ≤ p.length → cntB (fun k => (List.range m).any (fun i => f i && seesB p i k 0)) p.length ≤ cntB f m * M
  | 0, _ => by
    have zz : ∀ m, cntB (fun _ => false) m = 0 := by
      intro m; induction m with
      | zero => rfl
      | succ m ih => rw [cntB_no rfl, ih]
    simp only [List.range_zero, List.any_nil]
    rw [zz]
    simp [cntB]
  | m + 1, h => by
    have ih := cover_le hv f M hM hM0 m (by omega)
    have e : cntB (fun k => (List.range (m + 1)).any (fun i => f i && seesB p i k 0)) p.length = cntB (fun k => (List.range m).any (fun i => f i && seesB p i k 0) || (f m && seesB p m k 0)) p.length := cntB_congr (fun k _ => by simp [List.range_succ])
    have o := cnt_or (fun k => (List.range m).any (fun i => f i && seesB p i k 0)) (fun k => f m && seesB p m k 0) p.length
    rw [e]
    cases hf : f m
    · rw [cntB_no hf]
      have z : cntB (fun k => f m && seesB p m k 0) p.length = 0 := by
        have zz : ∀ m, cntB (fun _ => false) m = 0 := by
          intro m; induction m with
          | zero => rfl
          | succ m ih => rw [cntB_no rfl, ih]
        rw [cntB_congr (g := fun _ => false) (fun k _ => by rw [hf]; rfl), zz]
      rw [hf] at z o
      omega
    · rw [cntB_yes hf, Int.add_mul, Int.one_mul]
      have s := hM m (by omega)
      rw [see_cnt hv (by omega)] at s
      have z : cntB (fun k => f m && seesB p m k 0) p.length = cntB (fun k => seesB p m k 0) p.length := cntB_congr (fun k _ => by rw [hf, Bool.true_and])
      rw [hf] at z o
      omega
theorem watch_most {p : List Int} (hv : validB p = true) (h12 : p.length ≤ 12) : (p.length : Int) ≤ watchV p * (seeN p (bestS p p.length) : Int) := by
  have hl := valid_len hv
  rw [watch_yes hv h12]
  obtain ⟨f, f1, f2⟩ := wmin_ex (p := p)
  have c := cover_le hv f (seeN p (bestS p p.length) : Int) (fun i hi => by have := (best_max p p.length i hi).1; omega) (by omega) p.length (Nat.le_refl _)
  have e : cntB (fun k => (List.range p.length).any (fun i => f i && seesB p i k 0)) p.length = p.length := by
    rw [cntB_congr (g := fun _ => true) (fun k hk => ?_), cnt_true]
    obtain ⟨i, a, b, d⟩ := f1 k hk
    simp only [List.any_eq_true, List.mem_range, Bool.and_eq_true]
    exact ⟨i, a, b, d⟩
  rw [e] at c
  rw [f2]
  exact c

end Go.Proofs.Ytbehpooapnjpeaa
