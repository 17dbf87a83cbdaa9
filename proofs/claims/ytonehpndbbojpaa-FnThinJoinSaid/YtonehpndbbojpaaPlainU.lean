/- Plain laws on thinned profiles: errors as bounds; backwards; ways. -/
import Derived.Test.YtonehpndbbojpaaPlainB
import Derived.Test.YtonehpndbbojpaaPlainF
import Derived.Test.YtonehpndbbojpaaPlainSel
namespace Go.Proofs.Ytonehpndbbojpaa

theorem eq_of_le {a b : Int} (h : ∀ e, a ≤ e ↔ b ≤ e) : a = b := Int.le_antisymm ((h b).2 (Int.le_refl _)) ((h a).1 (Int.le_refl _))

theorem spanR_le (p : List Int) (i k : Nat) (e : Int) : ∀ m, spanR p i k m ≤ e ↔ 0 ≤ e ∧ ∀ j, i < j → j < i + 1 + m → errV p i j k ≤ e
  | 0 => by
    simp only [spanR]
    exact ⟨fun h => ⟨h, fun j h1 h2 => by omega⟩, fun h => h.1⟩
  | m + 1 => by
    have ih := spanR_le p i k e m
    simp only [spanR]
    rw [Int.max_le, ih]
    constructor
    · rintro ⟨⟨h0, h1⟩, h2⟩
      refine ⟨h0, fun j j1 j2 => ?_⟩
      by_cases ej : j = i + 1 + m
      · subst ej; exact h2
      · exact h1 j j1 (by omega)
    · rintro ⟨h0, h1⟩
      exact ⟨⟨h0, fun j j1 j2 => h1 j j1 (by omega)⟩, h1 _ (by omega) (by omega)⟩
theorem spanV_le {p : List Int} {i k : Nat} {e : Int} : spanV p i k ≤ e ↔ 0 ≤ e ∧ ∀ j, i < j → j < k → errV p i j k ≤ e := by
  unfold spanV
  rw [spanR_le]
  constructor
  · rintro ⟨h0, h1⟩; exact ⟨h0, fun j a b => h1 j a (by omega)⟩
  · rintro ⟨h0, h1⟩; exact ⟨h0, fun j a b => h1 j a (by omega)⟩
theorem thinR_le (p l : List Int) (e : Int) : ∀ m, thinR p l m ≤ e ↔ 0 ≤ e ∧ ∀ j, 1 ≤ j → j < m → spanV p (l.getD (j - 1) 0).toNat (l.getD j 0).toNat ≤ e
  | 0 => by
    simp only [thinR]
    exact ⟨fun h => ⟨h, fun j h1 h2 => by omega⟩, fun h => h.1⟩
  | 1 => by
    simp only [thinR, if_true]
    exact ⟨fun h => ⟨h, fun j h1 h2 => by omega⟩, fun h => h.1⟩
  | m + 2 => by
    have ih := thinR_le p l e (m + 1)
    rw [thinR_succ p l (m + 1) (by omega), Int.max_le, ih]
    constructor
    · rintro ⟨⟨h0, h1⟩, h2⟩
      refine ⟨h0, fun j j1 j2 => ?_⟩
      by_cases ej : j = m + 1
      · subst ej; exact h2
      · exact h1 j j1 (by omega)
    · rintro ⟨h0, h1⟩
      exact ⟨⟨h0, fun j j1 j2 => h1 j j1 (by omega)⟩, h1 _ (by omega) (by omega)⟩
theorem thinE_le {p l : List Int} (h : Thin p l) {e : Int} : thinE p l ≤ e ↔ 0 ≤ e ∧ ∀ j, 1 ≤ j → j < l.length → spanV p (l.getD (j - 1) 0).toNat (l.getD j 0).toNat ≤ e := by
  rw [thinE_yes (thinB_iff.2 h), thinR_le]
theorem thinE_bd {p l : List Int} (h : Thin p l) : 0 ≤ thinE p l ∧ thinE p l ≤ 99 := by
  rw [thinE_yes (thinB_iff.2 h)]; exact thinR_bd h.1 l _
theorem keepB_iff {p l : List Int} {e : Int} : keepB p l e = true ↔ Thin p l ∧ 0 ≤ e ∧ e ≤ 99 ∧ thinE p l ≤ e := by
  simp only [keepB, Bool.and_eq_true, thinB_iff, errB, inB_iff, decide_eq_true_eq]
  constructor
  · rintro ⟨⟨a, b, c⟩, d⟩; exact ⟨a, b, c, d⟩
  · rintro ⟨a, b, c, d⟩; exact ⟨⟨a, b, c⟩, d⟩

/-- Backwards. -/
theorem rev_off {p : List Int} {i j k : Nat} (h1 : i < j) (h2 : j < k) (h3 : k < p.length) : offV p.reverse (p.length - 1 - k) (p.length - 1 - j) (p.length - 1 - i) = offV p i j k := by
  unfold offV
  rw [rev_getD p _ (by omega), rev_getD p _ (by omega), rev_getD p _ (by omega)]
  rw [show p.length - 1 - (p.length - 1 - j) = j by omega, show p.length - 1 - (p.length - 1 - k) = k by omega, show p.length - 1 - (p.length - 1 - i) = i by omega]
  rw [show ((p.length - 1 - i : Nat) : Int) - ((p.length - 1 - k : Nat) : Int) = (k : Int) - i by omega, show ((p.length - 1 - i : Nat) : Int) - ((p.length - 1 - j : Nat) : Int) = (j : Int) - i by omega, show ((p.length - 1 - j : Nat) : Int) - ((p.length - 1 - k : Nat) : Int) = (k : Int) - j by omega]
  omega
theorem rev_err {p : List Int} {i j k : Nat} (h1 : i < j) (h2 : j < k) (h3 : k < p.length) : errV p.reverse (p.length - 1 - k) (p.length - 1 - j) (p.length - 1 - i) = errV p i j k := by
  unfold errV
  rw [rev_off h1 h2 h3]
  rw [show ((p.length - 1 - i : Nat) : Int) - ((p.length - 1 - k : Nat) : Int) = (k : Int) - i by omega]
  rw [show max (offV p i j k) (-(offV p i j k)) + ((p.length - 1 - i : Nat) : Int) - ((p.length - 1 - k : Nat) : Int) - 1 = max (offV p i j k) (-(offV p i j k)) + k - i - 1 by omega]
theorem rev_span {p : List Int} {i k : Nat} (h2 : i < k) (h3 : k < p.length) : spanV p.reverse (p.length - 1 - k) (p.length - 1 - i) = spanV p i k := by
  apply eq_of_le
  intro e
  rw [spanV_le, spanV_le]
  constructor
  · rintro ⟨h0, h⟩
    refine ⟨h0, fun j a b => ?_⟩
    rw [← rev_err a b h3]
    exact h _ (by omega) (by omega)
  · rintro ⟨h0, h⟩
    refine ⟨h0, fun j a b => ?_⟩
    have := rev_err (p := p) (i := i) (j := p.length - 1 - j) (k := k) (by omega) (by omega) h3
    rw [show p.length - 1 - (p.length - 1 - j) = j by omega] at this
    rw [this]
    exact h _ (by omega) (by omega)

theorem map_getD (l : List Int) (f : Int → Int) (j : Nat) (h : j < l.length) : (l.map f).getD j 0 = f (l.getD j 0) := by simp [h]
def turnL (n : Nat) (l : List Int) : List Int := l.reverse.map (fun x => (n : Int) - 1 - x)
theorem turnL_len (n : Nat) (l : List Int) : (turnL n l).length = l.length := by simp [turnL]
theorem turnL_at (n : Nat) (l : List Int) (j : Nat) (h : j < l.length) : (turnL n l).getD j 0 = (n : Int) - 1 - l.getD (l.length - 1 - j) 0 := by
  unfold turnL
  rw [map_getD _ _ _ (by simpa using h), rev_getD l j h]
theorem turn_thin {p l : List Int} (h : Thin p l) : Thin p.reverse (turnL p.length l) := by
  obtain ⟨h0, h1, h2, h3, h4⟩ := h
  have hl := valid_len h0
  refine ⟨rev_valid h0, by rw [turnL_len]; exact h1, ?_, ?_, ?_⟩
  · rw [turnL_at _ _ _ h1, Nat.sub_zero, h3]; omega
  · rw [turnL_len, turnL_at _ _ _ (by omega), show l.length - 1 - (l.length - 1) = 0 by omega, h2]; simp
  · intro i i1 i2
    rw [turnL_len] at i2
    rw [turnL_at _ _ _ i2, turnL_at _ _ _ (by omega)]
    have := h4 (l.length - 1 - (i - 1)) (by omega) (by omega)
    rw [show l.length - 1 - (i - 1) - 1 = l.length - 1 - i by omega] at this
    omega
theorem turn_err {p l : List Int} (h : Thin p l) : thinE p.reverse (turnL p.length l) = thinE p l := by
  have ht := turn_thin h
  have key : ∀ j, 1 ≤ j → j < l.length → spanV p.reverse ((turnL p.length l).getD (j - 1) 0).toNat ((turnL p.length l).getD j 0).toNat = spanV p (l.getD (l.length - j - 1) 0).toNat (l.getD (l.length - j) 0).toNat := by
    intro j j1 j2
    rw [turnL_at _ _ _ j2, turnL_at _ _ _ (by omega)]
    have b1 := h.bd (l.length - j - 1) (by omega)
    have b2 := h.bd (l.length - j) (by omega)
    have b3 := h.2.2.2.2 (l.length - j) (by omega) (by omega)
    rw [show l.length - 1 - j = l.length - j - 1 by omega, show l.length - 1 - (j - 1) = l.length - j by omega]
    have := rev_span (p := p) (i := (l.getD (l.length - j - 1) 0).toNat) (k := (l.getD (l.length - j) 0).toNat) (by omega) (by omega)
    rw [← this]
    congr 1 <;> omega
  apply eq_of_le
  intro e
  rw [thinE_le h, thinE_le ht, turnL_len]
  constructor
  · rintro ⟨h0, hh⟩
    refine ⟨h0, fun j j1 j2 => ?_⟩
    have := hh (l.length - j) (by omega) (by omega)
    rw [key _ (by omega) (by omega)] at this
    rw [show l.length - (l.length - j) - 1 = j - 1 by omega, show l.length - (l.length - j) = j by omega] at this
    exact this
  · rintro ⟨h0, hh⟩
    refine ⟨h0, fun j j1 j2 => ?_⟩
    rw [key j j1 j2]
    exact hh (l.length - j) (by omega) (by omega)

/-- Ways are thinned profiles. -/
theorem way_of {ok : Nat → Nat → Bool} {n : Nat} (hn : 0 < n) : ∀ (l : List Int) (i : Nat), 0 < l.length → l.getD 0 0 = i → l.getD (l.length - 1) 0 = (n : Int) - 1 →
    (∀ j, 1 ≤ j → j < l.length → l.getD (j - 1) 0 < l.getD j 0 ∧ ok (l.getD (j - 1) 0).toNat (l.getD j 0).toNat = true) → Way ok n i l
  | [], _, h, _, _, _ => by simp at h
  | [x], i, _, h0, h1, _ => by
    simp at h0 h1
    have e : i = n - 1 := by omega
    subst e
    rw [h0]
    exact .last
  | x :: y :: t, i, _, h0, h1, h2 => by
    have hy := h2 1 (by omega) (by simp)
    simp at h0
    have hy1 : x < y := by simpa using hy.1
    have hy2 : ok x.toNat y.toNat = true := by simpa using hy.2
    obtain ⟨k, hk⟩ : ∃ k : Nat, y = k := ⟨y.toNat, by omega⟩
    have hlast : (y :: t).getD ((y :: t).length - 1) 0 = (n : Int) - 1 := by
      have : (x :: y :: t).getD ((x :: y :: t).length - 1) 0 = (y :: t).getD ((y :: t).length - 1) 0 := by simp
      rw [← this]; exact h1
    have hrest : ∀ j, 1 ≤ j → j < (y :: t).length → (y :: t).getD (j - 1) 0 < (y :: t).getD j 0 ∧ ok ((y :: t).getD (j - 1) 0).toNat ((y :: t).getD j 0).toNat = true := by
      intro j j1 j2
      have := h2 (j + 1) (by omega) (by simp at j2 ⊢; omega)
      have e1 : (x :: y :: t).getD (j + 1) 0 = (y :: t).getD j 0 := by simp
      have e2 : (x :: y :: t).getD (j + 1 - 1) 0 = (y :: t).getD (j - 1) 0 := by
        obtain ⟨j', rfl⟩ : ∃ j', j = j' + 1 := ⟨j - 1, by omega⟩
        simp
      rw [e1, e2] at this
      exact this
    have w := way_of hn (y :: t) k (by simp) (by simpa using hk) hlast hrest
    have wl := w.lt hn
    rw [h0]
    refine .step (k := k) (by omega) wl ?_ w
    rw [h0, hk] at hy2
    simpa using hy2
theorem way_to {ok : Nat → Nat → Bool} {n : Nat} (hn : 0 < n) {i : Nat} {l : List Int} (h : Way ok n i l) : 0 < l.length ∧ l.getD 0 0 = i ∧ l.getD (l.length - 1) 0 = (n : Int) - 1 ∧
    (∀ j, 1 ≤ j → j < l.length → l.getD (j - 1) 0 < l.getD j 0 ∧ ok (l.getD (j - 1) 0).toNat (l.getD j 0).toNat = true) := by
  induction h with
  | last =>
    refine ⟨by simp, by simp, by simp; omega, fun j j1 j2 => ?_⟩
    simp at j2; omega
  | step h1 h2 h3 h4 ih =>
    rename_i i k l
    obtain ⟨a, b, c, d⟩ := ih
    refine ⟨by simp, by simp, ?_, fun j j1 j2 => ?_⟩
    · obtain ⟨y, t, rfl⟩ : ∃ y t, l = y :: t := by cases l with | nil => simp at a | cons y t => exact ⟨y, t, rfl⟩
      have : ((i : Int) :: y :: t).getD (((i : Int) :: y :: t).length - 1) 0 = (y :: t).getD ((y :: t).length - 1) 0 := by simp
      rw [this]; exact c
    · simp only [List.length_cons] at j2
      by_cases ej : j = 1
      · subst ej
        have e1 : ((i : Int) :: l).getD 1 0 = l.getD 0 0 := by simp
        have e0 : ((i : Int) :: l).getD (1 - 1) 0 = i := by simp
        rw [e1, e0, b]
        exact ⟨by omega, by simpa using h3⟩
      · obtain ⟨j', rfl⟩ : ∃ j', j = j' + 2 := ⟨j - 2, by omega⟩
        have := d (j' + 1) (by omega) (by omega)
        simpa using this
theorem thin_way {p l : List Int} {e : Int} (h : Thin p l) (he : thinE p l ≤ e) : Way (okB p e) p.length 0 l := by
  have hl := valid_len h.1
  have hh := (thinE_le h).1 he
  exact way_of (by omega) l 0 h.2.1 (by rw [h.2.2.1]; rfl) h.2.2.2.1 (fun j j1 j2 => ⟨h.2.2.2.2 j j1 j2, okB_iff.2 (hh.2 j j1 j2)⟩)
theorem way_thin {p l : List Int} {e : Int} (hv : validB p = true) (he : 0 ≤ e) (h : Way (okB p e) p.length 0 l) : Thin p l ∧ thinE p l ≤ e := by
  have hl := valid_len hv
  obtain ⟨a, b, c, d⟩ := way_to (by omega) h
  have ht : Thin p l := ⟨hv, a, by rw [b]; rfl, c, fun i i1 i2 => (d i i1 i2).1⟩
  exact ⟨ht, (thinE_le ht).2 ⟨he, fun j j1 j2 => okB_iff.1 (d j j1 j2).2⟩⟩
theorem few_le {p l : List Int} {e : Int} (h : Thin p l) (he : thinE p l ≤ e) : (fewL p e).length ≤ l.length := by
  have hl := valid_len h.1
  have h0 := (thinE_bd h).1
  exact (lines_at (few_ok (p := p) (e := e) (by omega)) (i := 0) (by omega)).least _ (thin_way h he)
theorem few_thin {p : List Int} {e : Int} (hv : validB p = true) (he : 0 ≤ e) : Thin p (fewL p e) ∧ thinE p (fewL p e) ≤ e := by
  have hl := valid_len hv
  exact way_thin hv he (lines_at (few_ok (p := p) he) (i := 0) (by omega)).way
theorem few_mono {p : List Int} {e e' : Int} (hv : validB p = true) (he : 0 ≤ e) (hle : e ≤ e') : (fewL p e').length ≤ (fewL p e).length := by
  obtain ⟨a, b⟩ := few_thin hv he
  exact few_le a (by omega)
theorem few_rev_le {p : List Int} {e : Int} (hv : validB p = true) (he : 0 ≤ e) : (fewL p.reverse e).length ≤ (fewL p e).length := by
  obtain ⟨a, b⟩ := few_thin hv he
  have := few_le (turn_thin a) (e := e) (by rw [turn_err a]; exact b)
  rw [turnL_len] at this
  exact this
theorem few_rev {p : List Int} {e : Int} (hv : validB p = true) (he : 0 ≤ e) : (fewL p.reverse e).length = (fewL p e).length := by
  have a := few_rev_le hv he
  have b := few_rev_le (rev_valid hv) he
  rw [List.reverse_reverse] at b
  omega
theorem few_ge {p : List Int} {e : Int} (hv : validB p = true) (he : 0 ≤ e) : min 2 p.length ≤ (fewL p e).length ∧ (fewL p e).length ≤ p.length := by
  obtain ⟨a, b⟩ := few_thin hv he
  have h1 := a.2.1
  have h2 := a.2.2.1
  have h3 := a.2.2.2.1
  have h4 := a.len
  have hl := valid_len hv
  refine ⟨?_, h4⟩
  by_cases e1 : (fewL p e).length = 1
  · rw [e1] at h3
    simp only [Nat.sub_self] at h3
    omega
  · omega

/-- FnThinValid. -/
def allL (n : Nat) : List Int := (List.range n).map (fun i : Nat => (i : Int))
theorem allL_succ (n : Nat) : allL (n + 1) = allL n ++ [(n : Int)] := by simp [allL, List.range_succ]
theorem allL_len (n : Nat) : (allL n).length = n := by simp [allL]
theorem allL_at (n i : Nat) (h : i < n) : (allL n).getD i 0 = i := by simp [allL, h]
theorem all_thin {p : List Int} (hv : validB p = true) : Thin p (allL p.length) := by
  have hl := valid_len hv
  refine ⟨hv, by rw [allL_len]; omega, by rw [allL_at _ _ (by omega)]; rfl, by rw [allL_len, allL_at _ _ (by omega)]; omega, fun i i1 i2 => ?_⟩
  rw [allL_len] at i2
  rw [allL_at _ _ i2, allL_at _ _ (by omega)]; omega
theorem all_err {p : List Int} (hv : validB p = true) : thinE p (allL p.length) = 0 := by
  have h := all_thin hv
  have h0 := (thinE_bd h).1
  have : thinE p (allL p.length) ≤ 0 := by
    rw [thinE_le h]
    refine ⟨Int.le_refl _, fun j j1 j2 => ?_⟩
    rw [allL_len] at j2
    rw [allL_at _ _ j2, allL_at _ _ (by omega)]
    rw [show ((j - 1 : Nat) : Int).toNat = j - 1 by omega, show ((j : Nat) : Int).toNat = (j - 1) + 1 by omega, spanV_next]
    exact Int.le_refl _
  omega
theorem ends_thin2 {p : List Int} (hv : validB p = true) (h : p.length ≠ 1) : Thin p [0, (p.length : Int) - 1] := by
  have hl := valid_len hv
  refine ⟨hv, by simp, by simp, by simp, fun i i1 i2 => ?_⟩
  have : i = 1 := by simp at i2; omega
  subst this
  simp; omega
theorem ends_thin1 {p : List Int} (hv : validB p = true) (h : p.length = 1) : Thin p [0] := by
  refine ⟨hv, by simp, by simp, by simp [h], fun i i1 i2 => ?_⟩
  simp at i2; omega
theorem keep_self {p l : List Int} (h : Thin p l) : keepB p l (thinE p l) = true := by
  have := thinE_bd h
  exact keepB_iff.2 ⟨h, this.1, this.2, Int.le_refl _⟩

end Go.Proofs.Ytonehpndbbojpaa
