/- Plain laws on hulls: what lies between hull points; backwards; lowered points; tilted ground. -/
import Derived.Test.YtbehpooapnjpeaaPlainV
import Derived.Test.YtbehpooapnjpeaaPlainSel
import Derived.Test.YtbehpooapnjpeaaOnHull
import Derived.Test.YtbehpooapnjpeaaTilt
namespace Go.Proofs.Ytbehpooapnjpeaa

theorem over_off {p : List Int} {i j k : Nat} : overB p i j k = true ↔ 0 < offV p i j k := by
  rw [over_iff]; unfold offV; omega
theorem hull_iff {p : List Int} {j : Nat} : hullB p j = true ↔ ∀ i k, i < j → j < k → k < p.length → 0 < offV p i j k := by
  rw [hullB_iff]
  constructor
  · intro h i k a b c; exact over_off.1 (h i k a b c)
  · intro h i k a b c; exact over_off.2 (h i k a b c)
theorem off_left (p : List Int) (m i k : Nat) : offV p i m k = -(offV p m i k) := by
  unfold offV; grind
theorem off_right (p : List Int) (i k m : Nat) : offV p i m k = -(offV p i k m) := by
  unfold offV; grind
theorem off_three (p : List Int) (i k a j b : Nat) : ((k : Int) - i) * offV p a j b = offV p i j k * ((b : Int) - a) - offV p i a k * ((b : Int) - j) - offV p i b k * ((j : Int) - a) := by
  unfold offV; grind
theorem max_left (f : Nat → Int) (lo : Nat) : ∀ d, 0 < d → ∃ j, lo ≤ j ∧ j < lo + d ∧ ∀ m, lo ≤ m → m < lo + d → f m ≤ f j ∧ (m < j → f m < f j)
  | 0, h => by omega
  | 1, _ => ⟨lo, Nat.le_refl _, by omega, fun m h1 h2 => by
      have : m = lo := by omega
      subst this; exact ⟨Int.le_refl _, fun h => by omega⟩⟩
  | d + 2, _ => by
    obtain ⟨j, h1, h2, h3⟩ := max_left f lo (d + 1) (by omega)
    by_cases h : f j < f (lo + (d + 1))
    · refine ⟨lo + (d + 1), by omega, by omega, fun m m1 m2 => ?_⟩
      by_cases e : m = lo + (d + 1)
      · subst e; exact ⟨Int.le_refl _, fun h => by omega⟩
      · have := (h3 m m1 (by omega)).1
        exact ⟨by omega, fun _ => by omega⟩
    · refine ⟨j, h1, by omega, fun m m1 m2 => ?_⟩
      by_cases e : m = lo + (d + 1)
      · subst e; exact ⟨by omega, fun h => by omega⟩
      · exact h3 m m1 (by omega)
/-- Between two hull points that follow each other nothing lies above their line. -/
theorem hull_gap {p : List Int} {i k : Nat} (hi : hullB p i = true) (hk : hullB p k = true) (hik : i < k) (hkn : k < p.length) (hno : ∀ m, i < m → m < k → hullB p m = false) (j : Nat) (h1 : i < j) (h2 : j < k) : offV p i j k ≤ 0 := by
  rw [hull_iff] at hi hk
  rcases Int.lt_or_le 0 (offV p i j k) with hpos | hle
  · exfalso
    obtain ⟨t, t1, t2, t3⟩ := max_left (fun m => offV p i m k) (i + 1) (k - (i + 1)) (by omega)
    have tp := (t3 j (by omega) (by omega)).1
    have hlow : ∀ a, a < t → offV p i a k < offV p i t k := by
      intro a ha
      by_cases e1 : a < i
      · have := hi a k e1 hik hkn
        rw [off_left]; omega
      · by_cases e2 : a = i
        · subst e2
          have : offV p a a k = 0 := by unfold offV; simp
          omega
        · exact (t3 a (by omega) (by omega)).2 ha
    have hup : ∀ b, t < b → b < p.length → offV p i b k ≤ offV p i t k := by
      intro b hb hbn
      by_cases e1 : k < b
      · have := hk i b hik e1 hbn
        rw [off_right]; omega
      · by_cases e2 : b = k
        · subst e2
          have : offV p i b b = 0 := by unfold offV; simp
          omega
        · exact (t3 b (by omega) (by omega)).1
    have ht : hullB p t = true := by
      rw [hull_iff]
      intro a b ha hb hbn
      have e := off_three p i k a t b
      have l1 := Int.mul_lt_mul_of_pos_right (hlow a ha) (show 0 < (b : Int) - t by omega)
      have l2 := Int.mul_le_mul_of_nonneg_right (hup b hb hbn) (show 0 ≤ (t : Int) - a by omega)
      have l3 : offV p i t k * ((b : Int) - a) = offV p i t k * ((b : Int) - t) + offV p i t k * ((t : Int) - a) := by
        rw [← Int.mul_add]; congr 1; omega
      have hp : 0 < ((k : Int) - i) * offV p a t b := by rw [e]; omega
      exact Int.pos_of_mul_pos_right hp (by omega)
    have := hno t (by omega) (by omega)
    rw [ht] at this; cases this
  · exact hle
where
  Int.pos_of_mul_pos_right {a b : Int} (h : 0 < a * b) (ha : 0 < a) : 0 < b := by
    rcases Int.lt_or_le 0 b with hb | hb
    · exact hb
    · have := Int.mul_nonneg (show 0 ≤ a by omega) (show 0 ≤ -b by omega)
      rw [Int.mul_neg] at this
      omega

/-- The selected points next to each other. -/
theorem sel_top {f : Nat → Bool} : ∀ m, 0 < (sel f m).length → ∃ k : Nat, k < m ∧ f k = true ∧ (sel f m).getD ((sel f m).length - 1) 0 = k ∧ ∀ t, k < t → t < m → f t = false
  | 0, h => by simp [sel] at h
  | m + 1, h => by
    cases hf : f m
    · rw [sel_no f m hf] at h ⊢
      obtain ⟨k, h1, h2, h3, h4⟩ := sel_top m h
      refine ⟨k, by omega, h2, h3, fun t a b => ?_⟩
      by_cases e : t = m
      · subst e; exact hf
      · exact h4 t a (by omega)
    · exact ⟨m, by omega, hf, sel_last hf, fun t a b => by omega⟩
theorem sel_gap {f : Nat → Bool} : ∀ (m i : Nat), 1 ≤ i → i < (sel f m).length → ∃ a b : Nat, a < b ∧ b < m ∧ f a = true ∧ f b = true ∧ (sel f m).getD (i - 1) 0 = a ∧ (sel f m).getD i 0 = b ∧ ∀ t, a < t → t < b → f t = false
  | 0, i, _, h => by simp [sel] at h
  | m + 1, i, h1, h2 => by
    cases hf : f m
    · rw [sel_no f m hf] at h2 ⊢
      obtain ⟨a, b, c1, c2, c⟩ := sel_gap m i h1 h2
      exact ⟨a, b, c1, by omega, c⟩
    · rw [sel_yes f m hf] at h2 ⊢
      simp only [List.length_append, List.length_singleton] at h2
      by_cases hi : i < (sel f m).length
      · obtain ⟨a, b, c1, c2, c3, c4, c5, c6, c7⟩ := sel_gap m i h1 hi
        exact ⟨a, b, c1, by omega, c3, c4, by rw [getD_app_left _ _ _ (by omega)]; exact c5, by rw [getD_app_left _ _ _ hi]; exact c6, c7⟩
      · have e : i = (sel f m).length := by omega
        obtain ⟨k, k1, k2, k3, k4⟩ := sel_top (f := f) m (by omega)
        refine ⟨k, m, k1, by omega, k2, hf, ?_, ?_, k4⟩
        · rw [getD_app_left _ _ _ (by omega), e]; exact k3
        · rw [getD_app_right _ _ _ (by omega), e, Nat.sub_self]; simp
theorem hull_zero (p : List Int) : hullB p 0 = true := by rw [hull_iff]; intro i k h; omega
theorem hull_last {p : List Int} (h : 0 < p.length) : hullB p (p.length - 1) = true := by rw [hull_iff]; intro i k a b c; omega
theorem hull_thin {p : List Int} (hv : validB p = true) : Thin p (hullL p) := by
  rw [hullL_yes hv]
  have hl := valid_len hv
  exact sel_thin hv (hull_zero p) (hull_last (by omega))
/-- FnHull. -/
theorem hull_sees {p : List Int} (hv : validB p = true) {m : Nat} (h1 : 1 ≤ m) (h2 : m < (hullL p).length) : sees3B p ((hullL p).getD (m - 1) 0) ((hullL p).getD m 0) = true := by
  rw [hullL_yes hv] at h2 ⊢
  obtain ⟨a, b, c1, c2, c3, c4, c5, c6, c7⟩ := sel_gap p.length m h1 h2
  rw [c5, c6, sees3_iff]
  refine ⟨hv, by omega, by omega, by omega, by omega, ?_⟩
  simp only [Int.toNat_natCast]
  rw [seesB_zero, lookB, if_pos (by omega), clearB_iff]
  intro j j1 j2
  have := hull_gap c3 c4 c1 c2 c7 j j1 j2
  unfold offV at this
  omega
theorem hull_bend {p : List Int} (hv : validB p = true) {m : Nat} (h1 : 2 ≤ m) (h2 : m < (hullL p).length) : ∃ h i k : Nat, h < i ∧ i < k ∧ k < p.length ∧ (hullL p).getD (m - 2) 0 = h ∧ (hullL p).getD (m - 1) 0 = i ∧ (hullL p).getD m 0 = k ∧
    (p.getD k 0 - p.getD i 0) * ((i : Int) - h) < (p.getD i 0 - p.getD h 0) * ((k : Int) - i) := by
  rw [hullL_yes hv] at h2 ⊢
  obtain ⟨a, b, c1, c2, c3, c4, c5, c6, c7⟩ := sel_gap p.length m (by omega) h2
  obtain ⟨a', b', d1, d2, d3, d4, d5, d6, d7⟩ := sel_gap (f := hullB p) p.length (m - 1) (by omega) (by omega)
  rw [show m - 1 - 1 = m - 2 by omega] at d5
  have e : b' = a := by rw [d6] at c5; omega
  subst e
  refine ⟨a', b', b, d1, c1, c2, d5, d6, c6, ?_⟩
  have := (hull_iff.1 d4) a' b d1 c1 c2
  unfold offV at this
  have e : (p.getD b' 0 - p.getD a' 0) * ((b : Int) - b') - (p.getD b 0 - p.getD b' 0) * ((b' : Int) - a') = p.getD b' 0 * ((b : Int) - a') - p.getD a' 0 * ((b : Int) - b') - p.getD b 0 * ((b' : Int) - a') := by grind
  omega
theorem hull_pt {p : List Int} (hv : validB p = true) {m : Nat} (h2 : m < (hullL p).length) : ∃ k : Nat, k < p.length ∧ hullB p k = true ∧ (hullL p).getD m 0 = k := by
  rw [hullL_yes hv] at h2 ⊢
  exact sel_at_lt (hullB p) p.length m h2

/-- Backwards. -/
theorem hull_revB {p : List Int} {j : Nat} (hj : j < p.length) : hullB p.reverse (p.length - 1 - j) = hullB p j := by
  have key : hullB p.reverse (p.length - 1 - j) = true ↔ hullB p j = true := by
    rw [hull_iff, hull_iff, List.length_reverse]
    constructor
    · intro h i k a b c
      have := h (p.length - 1 - k) (p.length - 1 - i) (by omega) (by omega) (by omega)
      rw [revo a b c] at this; exact this
    · intro h i k a b c
      have := h (p.length - 1 - k) (p.length - 1 - i) (by omega) (by omega) (by omega)
      rw [← revo (by omega) (by omega) (by omega)] at this
      rw [show p.length - 1 - (p.length - 1 - i) = i by omega, show p.length - 1 - (p.length - 1 - k) = k by omega] at this
      exact this
  cases h1 : hullB p.reverse (p.length - 1 - j) <;> cases h2 : hullB p j
  · rfl
  · rw [key.2 h2] at h1; cases h1
  · rw [key.1 h1] at h2; cases h2
  · rfl
where
  revo {p : List Int} {i j k : Nat} (h1 : i < j) (h2 : j < k) (h3 : k < p.length) : offV p.reverse (p.length - 1 - k) (p.length - 1 - j) (p.length - 1 - i) = offV p i j k := by
    unfold offV
    rw [rev_getD p _ (by omega), rev_getD p _ (by omega), rev_getD p _ (by omega)]
    rw [show p.length - 1 - (p.length - 1 - j) = j by omega, show p.length - 1 - (p.length - 1 - k) = k by omega, show p.length - 1 - (p.length - 1 - i) = i by omega]
    rw [show ((p.length - 1 - i : Nat) : Int) - ((p.length - 1 - k : Nat) : Int) = (k : Int) - i by omega, show ((p.length - 1 - i : Nat) : Int) - ((p.length - 1 - j : Nat) : Int) = (j : Int) - i by omega, show ((p.length - 1 - j : Nat) : Int) - ((p.length - 1 - k : Nat) : Int) = (k : Int) - j by omega]
    omega
theorem sel_turn (f : Nat → Bool) (n : Nat) : sel (fun i => f (n - 1 - i)) n = (sel f n).reverse.map (fun x => (n : Int) - 1 - x) := by
  unfold sel
  rw [← List.map_reverse, List.map_map, ← List.filter_reverse, List.range_eq_range', List.reverse_range', List.filter_map, List.map_map, ← List.range_eq_range']
  have e1 : List.filter (f ∘ fun x => 0 + n - 1 - x) (List.range n) = List.filter (fun i => f (n - 1 - i)) (List.range n) := by
    refine List.filter_congr (fun x hx => ?_)
    simp only [Function.comp, Nat.zero_add]
  rw [e1]
  refine List.map_congr_left (fun x hx => ?_)
  have := (List.mem_filter.1 hx).1
  rw [List.mem_range] at this
  simp only [Function.comp]
  omega
theorem hull_back {p : List Int} (hv : validB p = true) : (hullL (backL p)).length = (hullL p).length ∧ ∀ m, m < (hullL p).length → (hullL (backL p)).getD ((hullL p).length - 1 - m) 0 = (p.length : Int) - 1 - (hullL p).getD m 0 := by
  have e : hullL (backL p) = (hullL p).reverse.map (fun x => (p.length : Int) - 1 - x) := by
    rw [backL_valid hv, hullL_yes (rev_valid hv), hullL_yes hv, List.length_reverse, ← sel_turn]
    refine sel_congr (fun i hi => ?_)
    have := hull_revB (p := p) (j := p.length - 1 - i) (by omega)
    rw [show p.length - 1 - (p.length - 1 - i) = i by omega] at this
    exact this
  rw [e]
  refine ⟨by simp, fun m hm => ?_⟩
  have h1 : ((hullL p).reverse.map (fun x => (p.length : Int) - 1 - x)).getD ((hullL p).length - 1 - m) 0 = (p.length : Int) - 1 - (hullL p).reverse.getD ((hullL p).length - 1 - m) 0 := by
    simp [show (hullL p).length - 1 - m < (hullL p).length by omega]
  rw [h1, rev_getD _ _ (by omega), show (hullL p).length - 1 - ((hullL p).length - 1 - m) = m by omega]

/-- A lowered point. -/
theorem true_below {f : Nat → Bool} (h0 : f 0 = true) : ∀ m, 0 < m → ∃ i, i < m ∧ f i = true ∧ ∀ t, i < t → t < m → f t = false
  | 0, h => by omega
  | m + 1, _ => by
    cases hf : f m
    · have hm : 0 < m := by
        rcases Nat.eq_zero_or_pos m with e | e
        · subst e; rw [h0] at hf; cases hf
        · exact e
      obtain ⟨i, h1, h2, h3⟩ := true_below h0 m hm
      refine ⟨i, by omega, h2, fun t a b => ?_⟩
      by_cases e : t = m
      · subst e; exact hf
      · exact h3 t a (by omega)
    · exact ⟨m, by omega, hf, fun t a b => by omega⟩
theorem true_above {f : Nat → Bool} {n : Nat} (hn : f n = true) (m : Nat) (hm : m < n) : ∃ k, m < k ∧ k ≤ n ∧ f k = true ∧ ∀ t, m < t → t < k → f t = false := by
  obtain ⟨i, h1, h2, h3⟩ := true_below (f := fun i => f (n - i)) (by simpa using hn) (n - m) (by omega)
  refine ⟨n - i, by omega, by omega, h2, fun t a b => ?_⟩
  have := h3 (n - t) (by omega) (by omega)
  rw [show n - (n - t) = t by omega] at this
  exact this
theorem hull_low {p : List Int} {j : Nat} (hj : j < p.length) (hn : hullB p j = false) (m : Nat) (hm : m < p.length) : hullB (p.set j (p.getD j 0 - 1)) m = hullB p m := by
  have hx : ∀ i, (p.set j (p.getD j 0 - 1)).getD i 0 ≤ p.getD i 0 := by
    intro i; rw [set_at]; split
    · rename_i h; rw [h.1]; omega
    · exact Int.le_refl _
  have hne : ∀ i, i ≠ j → (p.set j (p.getD j 0 - 1)).getD i 0 = p.getD i 0 := by
    intro i h; rw [set_at, if_neg (fun hh => h hh.1)]
  have hlen := set_len p j (p.getD j 0 - 1)
  generalize p.set j (p.getD j 0 - 1) = x at *
  by_cases e : m = j
  · subst e
    rw [hn]
    cases h : hullB x m
    · rfl
    · rw [hull_iff, hlen] at h
      have : hullB p m = true := by
        rw [hull_iff]
        intro i k a b c
        have h1 := h i k a b c
        have h2 := Int.mul_le_mul_of_nonneg_right (hx m) (show 0 ≤ (k : Int) - i by omega)
        unfold offV at h1 ⊢
        rw [hne i (by omega), hne k (by omega)] at h1
        omega
      rw [hn] at this; cases this
  · cases h : hullB p m
    · cases h2 : hullB x m
      · rfl
      · exfalso
        have m0 : 0 < m := by
          rcases Nat.eq_zero_or_pos m with e0 | e0
          · subst e0; rw [hull_zero] at h; cases h
          · exact e0
        have hlast := hull_last (p := p) (by omega)
        have m1 : m < p.length - 1 := by
          rcases Nat.lt_or_ge m (p.length - 1) with e0 | e0
          · exact e0
          · have : m = p.length - 1 := by omega
            rw [← this, h] at hlast; cases hlast
        obtain ⟨i, i1, i2, i3⟩ := true_below (hull_zero p) m m0
        obtain ⟨k, k1, k2, k3, k4⟩ := true_above hlast m m1
        have hg := hull_gap i2 k3 (by omega) (by omega) (fun t a b => by
          by_cases c1 : t < m
          · exact i3 t a c1
          · by_cases c2 : t = m
            · subst c2; exact h
            · exact k4 t (by omega) b) m i1 k1
        rw [hull_iff, hlen] at h2
        have h3 := h2 i k i1 k1 (by omega)
        have ij : i ≠ j := fun hh => by subst hh; rw [hn] at i2; cases i2
        have kj : k ≠ j := fun hh => by subst hh; rw [hn] at k3; cases k3
        unfold offV at h3 hg
        rw [hne i ij, hne k kj, hne m e] at h3
        omega
    · rw [hull_iff] at h ⊢
      intro i k a b c
      rw [hlen] at c
      have h1 := h i k a b c
      have h2 := Int.mul_le_mul_of_nonneg_right (hx i) (show 0 ≤ (k : Int) - m by omega)
      have h3 := Int.mul_le_mul_of_nonneg_right (hx k) (show 0 ≤ (m : Int) - i by omega)
      unfold offV at h1 ⊢
      rw [hne m e]
      omega
theorem hull_lowL {p : List Int} (hv : validB p = true) {j : Nat} (hj : j < p.length) (hn : ¬ (j : Int) ∈ hullL p) (hx : validB (p.set j (p.getD j 0 - 1)) = true) : hullL (p.set j (p.getD j 0 - 1)) = hullL p := by
  have hb : hullB p j = false := by
    cases h : hullB p j
    · rfl
    · exact absurd (by rw [hullL_yes hv]; exact sel_mem.2 ⟨j, hj, h, rfl⟩) hn
  rw [hullL_yes hv, hullL_yes hx, set_len]
  exact sel_congr (fun m hm => hull_low hj hb m hm)

/-- Tilted ground. -/
theorem tl_off {p : List Int} {t : Int} {i j k : Nat} (hi : i < p.length) (hj : j < p.length) (hk : k < p.length) : offV (tl p t) i j k = offV p i j k := by
  unfold offV
  rw [tl_getD p t i hi, tl_getD p t j hj, tl_getD p t k hk]
  grind
theorem tl_hull (p : List Int) (t : Int) (j : Nat) (hj : j < p.length) : hullB (tl p t) j = hullB p j := by
  have key : hullB (tl p t) j = true ↔ hullB p j = true := by
    rw [hull_iff, hull_iff, tl_len]
    constructor
    · intro h i k a b c; have := h i k a b c; rw [tl_off (by omega) hj c] at this; exact this
    · intro h i k a b c; rw [tl_off (by omega) hj c]; exact h i k a b c
  cases h1 : hullB (tl p t) j <;> cases h2 : hullB p j
  · rfl
  · rw [key.2 h2] at h1; cases h1
  · rw [key.1 h1] at h2; cases h2
  · rfl
theorem tl_clear (p : List Int) (t : Int) {lo hi : Nat} (h : hi < p.length) (h0 : lo ≤ hi) : clearB (tl p t) lo hi ((tl p t).getD lo 0) ((tl p t).getD hi 0) = clearB p lo hi (p.getD lo 0) (p.getD hi 0) := by
  have key : clearP (tl p t) lo hi ((tl p t).getD lo 0) ((tl p t).getD hi 0) ↔ clearP p lo hi (p.getD lo 0) (p.getD hi 0) := by
    constructor
    · intro hc j a b
      have h1 := hc j a b
      have h2 := tl_off (p := p) (t := t) (i := lo) (j := j) (k := hi) (by omega) (by omega) h
      unfold offV at h2
      omega
    · intro hc j a b
      have h1 := hc j a b
      have h2 := tl_off (p := p) (t := t) (i := lo) (j := j) (k := hi) (by omega) (by omega) h
      unfold offV at h2
      omega
  cases h1 : clearB p lo hi (p.getD lo 0) (p.getD hi 0)
  · rw [clearB_false] at *; rw [key]; exact h1
  · rw [clearB_iff] at *; rw [key]; exact h1
theorem tl_sees (p : List Int) (t : Int) {i k : Nat} (hi : i < p.length) (hk : k < p.length) : seesB (tl p t) i k 0 = seesB p i k 0 := by
  rw [seesB_zero, seesB_zero]
  unfold lookB
  split
  · exact tl_clear p t hk (by omega)
  · exact tl_clear p t hi (by omega)
theorem tilt_laws {p : List Int} {t : Int} (h : tiltB p t = true) : tiltB (tiltL p t) (0 - t) = true ∧ tiltL (tiltL p t) (0 - t) = p ∧ hullL (tiltL p t) = hullL p ∧ pairsV (tiltL p t) = pairsV p ∧ validB p = true ∧ validB (tiltL p t) = true ∧ -10 ≤ t ∧ t ≤ 10 := by
  have e : tiltL p t = tl p t := by simp [tiltL, h]
  have h' := h
  simp only [tiltB, Bool.and_eq_true, inB_iff] at h'
  obtain ⟨hv, ⟨t1, t2⟩, hv2⟩ := h'
  have hl := valid_len hv
  have back : tl (tl p t) (0 - t) = p := by
    apply List.ext_getElem
    · rw [tl_len, tl_len]
    · intro i h1 h2
      have a := tl_getD (tl p t) (0 - t) i (by rw [tl_len]; exact h2)
      have b := tl_getD p t i h2
      rw [b] at a
      have c : (tl (tl p t) (0 - t)).getD i 0 = p.getD i 0 := by
        rw [a, Int.zero_sub, Int.mul_neg]; omega
      rw [List.getD_eq_getElem?_getD, List.getD_eq_getElem?_getD, List.getElem?_eq_getElem h1, List.getElem?_eq_getElem h2] at c
      exact c
  have hT : tiltB (tl p t) (0 - t) = true := by
    simp only [tiltB, Bool.and_eq_true, inB_iff]
    rw [back]
    exact ⟨hv2, ⟨by omega, by omega⟩, hv⟩
  rw [e]
  refine ⟨hT, ?_, ?_, ?_, hv, hv2, t1, t2⟩
  · simp only [tiltL, hT, if_true]; exact back
  · rw [hullL_yes hv, hullL_yes hv2, tl_len]
    exact sel_congr (fun i hi => tl_hull p t i hi)
  · unfold pairsV pairsS
    rw [if_pos hv, if_pos hv2, tl_len]
    exact sumB_congr (fun k hk => cntB_congr (fun i hi => tl_sees p t (by omega) hk))

end Go.Proofs.Ytbehpooapnjpeaa
