/- Plain laws on thinned profiles: climbs; dropped points; joined lines; greedy lines. -/
import Derived.Test.YtonehpndbbojpaaPlainU
namespace Go.Proofs.Ytonehpndbbojpaa

theorem up_seg (p : List Int) (i : Nat) : ∀ d, max (p.getD (i + d) 0 - p.getD i 0) 0 ≤ upS p (i + d + 1) - upS p (i + 1) ∧ max (p.getD i 0 - p.getD (i + d) 0) 0 ≤ dnS p (i + d + 1) - dnS p (i + 1)
  | 0 => by simp
  | d + 1 => by
    have ih := up_seg p i d
    have a := upS_step p (i + d + 1) (by omega)
    have b := dnS_step p (i + d + 1) (by omega)
    simp only [Nat.add_sub_cancel] at a b
    rw [show i + (d + 1) = i + d + 1 by omega, a, b]
    omega

/-- Straight ground. -/
theorem flat_step {p : List Int} {i k : Nat} (hik : i < k) (h : ∀ j, i < j → j < k → offV p i j k = 0) (j : Nat) (h1 : i ≤ j) (h2 : j < k) :
    (0 ≤ p.getD k 0 - p.getD i 0 → 0 ≤ p.getD (j + 1) 0 - p.getD j 0) ∧ (p.getD k 0 - p.getD i 0 ≤ 0 → p.getD (j + 1) 0 - p.getD j 0 ≤ 0) := by
  have all : ∀ j, i ≤ j → j ≤ k → offV p i j k = 0 := by
    intro j a b
    by_cases e1 : j = i
    · subst e1; unfold offV; simp
    · by_cases e2 : j = k
      · subst e2; unfold offV; simp
      · exact h j (by omega) (by omega)
  have x := all j h1 (by omega)
  have y := all (j + 1) (by omega) (by omega)
  unfold offV at x y
  have key : (p.getD (j + 1) 0 - p.getD j 0) * ((k : Int) - i) = p.getD k 0 - p.getD i 0 := by
    rw [show ((j + 1 : Nat) : Int) = (j : Int) + 1 by omega] at y
    generalize p.getD (j + 1) 0 = A at *
    generalize p.getD j 0 = B at *
    generalize p.getD k 0 = C at *
    generalize p.getD i 0 = D at *
    grind
  have pos : 0 < (k : Int) - i := by omega
  rw [← key]
  constructor
  · intro hh; exact Int.nonneg_of_mul_nonneg_left hh pos
  · intro hh
    rcases Int.lt_or_le 0 (p.getD (j + 1) 0 - p.getD j 0) with hp | hp
    · have := Int.mul_pos hp pos; omega
    · exact hp
theorem up_flat {p : List Int} {i k : Nat} (hik : i < k) (h : ∀ j, i < j → j < k → offV p i j k = 0) : ∀ d, i + d ≤ k →
    upS p (i + d + 1) - upS p (i + 1) = max (p.getD (i + d) 0 - p.getD i 0) 0 ∧ dnS p (i + d + 1) - dnS p (i + 1) = max (p.getD i 0 - p.getD (i + d) 0) 0 ∧
    (0 ≤ p.getD k 0 - p.getD i 0 → 0 ≤ p.getD (i + d) 0 - p.getD i 0) ∧ (p.getD k 0 - p.getD i 0 ≤ 0 → p.getD (i + d) 0 - p.getD i 0 ≤ 0)
  | 0, _ => by simp
  | d + 1, hd => by
    have ih := up_flat hik h d (by omega)
    have s := flat_step hik h (i + d) (by omega) (by omega)
    have a := upS_step p (i + d + 1) (by omega)
    have b := dnS_step p (i + d + 1) (by omega)
    simp only [Nat.add_sub_cancel] at a b
    rw [show i + (d + 1) = i + d + 1 by omega, a, b]
    omega
theorem off_of_err {p : List Int} {i j k : Nat} (h : i < k) (he : errV p i j k ≤ 0) : offV p i j k = 0 := by
  unfold errV at he
  have : (max (offV p i j k) (-(offV p i j k)) + k - i - 1) / ((k : Int) - i) < 1 := by omega
  rw [Int.ediv_lt_iff_lt_mul (by omega)] at this
  omega

/-- The heights of a thinned profile. -/
def tpL (p l : List Int) : List Int := l.map (fun x => p.getD x.toNat 0)
theorem tpL_len (p l : List Int) : (tpL p l).length = l.length := by simp [tpL]
theorem tpL_at (p l : List Int) (j : Nat) (h : j < l.length) : (tpL p l).getD j 0 = p.getD (l.getD j 0).toNat 0 := by
  unfold tpL; rw [map_getD _ _ _ h]
theorem tp_valid {p l : List Int} (h : Thin p l) : validB (tpL p l) = true := by
  have hl := valid_len h.1
  have h1 := h.2.1
  have h2 := h.len
  refine valid_mk (by rw [tpL_len]; omega) (by rw [tpL_len]; omega) (fun i hi => ?_)
  rw [tpL_len] at hi
  rw [tpL_at _ _ _ hi]
  exact valid_ht' h.1 _
theorem tp_up {p l : List Int} (h : Thin p l) : ∀ m, m < l.length → upS (tpL p l) (m + 1) ≤ upS p ((l.getD m 0).toNat + 1) ∧ dnS (tpL p l) (m + 1) ≤ dnS p ((l.getD m 0).toNat + 1)
  | 0, _ => by
    rw [h.2.2.1]; simp [upS, dnS]
  | m + 1, hm => by
    have ih := tp_up h m (by omega)
    rw [upS_step _ (m + 1) (by omega), dnS_step _ (m + 1) (by omega), tpL_at _ _ _ hm, tpL_at _ _ _ (by omega)]
    simp only [Nat.add_sub_cancel]
    have b1 := h.bd m (by omega)
    have b2 := h.bd (m + 1) (by omega)
    have b3 := h.2.2.2.2 (m + 1) (by omega) hm
    simp only [Nat.add_sub_cancel] at b3
    have s := up_seg p (l.getD m 0).toNat ((l.getD (m + 1) 0).toNat - (l.getD m 0).toNat)
    rw [show (l.getD m 0).toNat + ((l.getD (m + 1) 0).toNat - (l.getD m 0).toNat) = (l.getD (m + 1) 0).toNat by omega] at s
    omega
theorem tp_climb {p l : List Int} (h : Thin p l) : upV (tpL p l) ≤ upV p ∧ dnV (tpL p l) ≤ dnV p := by
  have hl := valid_len h.1
  have h1 := h.2.1
  have := tp_up h (l.length - 1) (by omega)
  rw [h.2.2.2.1, show l.length - 1 + 1 = l.length by omega, show ((p.length : Int) - 1).toNat + 1 = p.length by omega] at this
  simp only [upV, dnV, tp_valid h, h.1, if_true, tpL_len]
  exact this
theorem tp_upeq {p l : List Int} (h : Thin p l) (h0 : thinE p l ≤ 0) : ∀ m, m < l.length → upS (tpL p l) (m + 1) = upS p ((l.getD m 0).toNat + 1) ∧ dnS (tpL p l) (m + 1) = dnS p ((l.getD m 0).toNat + 1)
  | 0, _ => by
    rw [h.2.2.1]; simp [upS, dnS]
  | m + 1, hm => by
    have ih := tp_upeq h h0 m (by omega)
    rw [upS_step _ (m + 1) (by omega), dnS_step _ (m + 1) (by omega), tpL_at _ _ _ hm, tpL_at _ _ _ (by omega)]
    simp only [Nat.add_sub_cancel]
    have b1 := h.bd m (by omega)
    have b2 := h.bd (m + 1) (by omega)
    have b3 := h.2.2.2.2 (m + 1) (by omega) hm
    simp only [Nat.add_sub_cancel] at b3
    have hs := ((thinE_le h).1 h0).2 (m + 1) (by omega) hm
    simp only [Nat.add_sub_cancel] at hs
    have s := up_flat (p := p) (i := (l.getD m 0).toNat) (k := (l.getD (m + 1) 0).toNat) (by omega) (fun j j1 j2 => off_of_err (by omega) ((spanV_le.1 hs).2 j j1 j2)) ((l.getD (m + 1) 0).toNat - (l.getD m 0).toNat) (by omega)
    rw [show (l.getD m 0).toNat + ((l.getD (m + 1) 0).toNat - (l.getD m 0).toNat) = (l.getD (m + 1) 0).toNat by omega] at s
    omega
theorem tp_climbeq {p l : List Int} (h : Thin p l) (h0 : thinE p l ≤ 0) : upV (tpL p l) = upV p ∧ dnV (tpL p l) = dnV p := by
  have hl := valid_len h.1
  have h1 := h.2.1
  have := tp_upeq h h0 (l.length - 1) (by omega)
  rw [h.2.2.2.1, show l.length - 1 + 1 = l.length by omega, show ((p.length : Int) - 1).toNat + 1 = p.length by omega] at this
  simp only [upV, dnV, tp_valid h, h.1, if_true, tpL_len]
  exact this

/-- A list without one element. -/
def cutL (l : List Int) (k : Nat) : List Int := l.take k ++ l.drop (k + 1)
theorem cutL_len (l : List Int) (k : Nat) (h : k < l.length) : (cutL l k).length = l.length - 1 := by simp [cutL]; omega
theorem cutL_lt (l : List Int) (k j : Nat) (h : k < l.length) (hj : j < k) : (cutL l k).getD j 0 = l.getD j 0 := by
  unfold cutL
  rw [getD_app_left _ _ _ (by simp; omega)]
  simp only [List.getD_eq_getElem?_getD, List.getElem?_take, if_pos hj]
theorem cutL_ge (l : List Int) (k j : Nat) (h : k < l.length) (hj : k ≤ j) : (cutL l k).getD j 0 = l.getD (j + 1) 0 := by
  unfold cutL
  rw [getD_app_right _ _ _ (by simp; omega)]
  simp only [List.getD_eq_getElem?_getD, List.getElem?_drop]
  rw [show k + 1 + (j - (l.take k).length) = j + 1 by simp; omega]
theorem cut_thin {p l : List Int} (h : Thin p l) {k : Nat} (h1 : 1 ≤ k) (h2 : k + 1 < l.length) : Thin p (cutL l k) := by
  have hc := cutL_len l k (by omega)
  refine ⟨h.1, by omega, ?_, ?_, fun i i1 i2 => ?_⟩
  · rw [cutL_lt _ _ _ (by omega) (by omega)]; exact h.2.2.1
  · rw [hc, cutL_ge _ _ _ (by omega) (by omega), show l.length - 1 - 1 + 1 = l.length - 1 by omega]; exact h.2.2.2.1
  · rw [hc] at i2
    by_cases e1 : i < k
    · rw [cutL_lt _ _ _ (by omega) e1, cutL_lt _ _ _ (by omega) (by omega)]
      exact h.2.2.2.2 i i1 (by omega)
    · have a := h.2.2.2.2 (i + 1) (by omega) (by omega)
      simp only [Nat.add_sub_cancel] at a
      rw [cutL_ge _ _ i (by omega) (by omega)]
      by_cases e2 : i = k
      · rw [cutL_lt _ _ (i - 1) (by omega) (by omega)]
        have b := h.2.2.2.2 i (by omega) (by omega)
        omega
      · rw [cutL_ge _ _ (i - 1) (by omega) (by omega), show i - 1 + 1 = i by omega]
        exact a
theorem cut_up {q : List Int} {k : Nat} (h1 : 1 ≤ k) (h2 : k + 1 < q.length) : ∀ m, m < q.length - 1 →
    (m < k → upS (cutL q k) (m + 1) = upS q (m + 1) ∧ dnS (cutL q k) (m + 1) = dnS q (m + 1)) ∧ (k ≤ m → upS (cutL q k) (m + 1) ≤ upS q (m + 2) ∧ dnS (cutL q k) (m + 1) ≤ dnS q (m + 2))
  | 0, _ => by
    refine ⟨fun _ => by simp [upS, dnS], fun h => by omega⟩
  | m + 1, hm => by
    have ih := cut_up h1 h2 m (by omega)
    have a := upS_step (cutL q k) (m + 1) (by omega)
    have b := dnS_step (cutL q k) (m + 1) (by omega)
    have c := upS_step q (m + 1) (by omega)
    have d := dnS_step q (m + 1) (by omega)
    have e := upS_step q (m + 2) (by omega)
    have f := dnS_step q (m + 2) (by omega)
    simp only [Nat.add_sub_cancel] at a b c d
    rw [show m + 2 - 1 = m + 1 by omega] at e f
    refine ⟨fun h => ?_, fun h => ?_⟩
    · rw [cutL_lt q k (m + 1) (by omega) h, cutL_lt q k m (by omega) (by omega)] at a b
      omega
    · rw [cutL_ge q k (m + 1) (by omega) h] at a b
      by_cases ek : k = m + 1
      · rw [cutL_lt q k m (by omega) (by omega)] at a b
        have ih := ih.1 (by omega)
        rw [show m + 1 + 2 = m + 2 + 1 by omega, a, b, e, f]
        rw [show m + 1 + 1 = m + 2 by omega]
        rw [show m + 1 + 1 = m + 2 by omega] at c d
        omega
      · rw [cutL_ge q k m (by omega) (by omega)] at a b
        have ih := ih.2 (by omega)
        rw [show m + 1 + 2 = m + 2 + 1 by omega, a, b, e, f]
        rw [show m + 1 + 1 = m + 2 by omega]
        omega
theorem cut_climb {q : List Int} (hv : validB q = true) {k : Nat} (h1 : 1 ≤ k) (h2 : k + 1 < q.length) (hc : validB (cutL q k) = true) : upV (cutL q k) ≤ upV q ∧ dnV (cutL q k) ≤ dnV q := by
  have := (cut_up h1 h2 (q.length - 2) (by omega)).2 (by omega)
  rw [show q.length - 2 + 1 = q.length - 1 by omega, show q.length - 2 + 2 = q.length by omega] at this
  simp only [upV, dnV, hv, hc, if_true, cutL_len q k (by omega)]
  exact this
theorem tp_cut (p l : List Int) (k : Nat) : tpL p (cutL l k) = cutL (tpL p l) k := by
  simp [tpL, cutL]
/-- FnThinDrop. -/
theorem drop_laws {p l : List Int} (h : Thin p l) {k : Nat} (h1 : 1 ≤ k) (h2 : k + 1 < l.length) : upV (tpL p (cutL l k)) ≤ upV (tpL p l) ∧ dnV (tpL p (cutL l k)) ≤ dnV (tpL p l) ∧
    (thinE p (cutL l k) = 0 → upV (tpL p (cutL l k)) = upV (tpL p l) ∧ dnV (tpL p (cutL l k)) = dnV (tpL p l)) := by
  have ht := cut_thin h h1 h2
  have hv2 := tp_valid ht
  have a := cut_climb (tp_valid h) h1 (by rw [tpL_len]; exact h2) (by rw [← tp_cut]; exact hv2)
  rw [← tp_cut] at a
  refine ⟨a.1, a.2, fun h0 => ?_⟩
  have b := tp_climbeq ht (by omega)
  have c := tp_climb h
  omega

/-- Joined lines. -/
def joinP (p q : List Int) : List Int := p ++ q.drop 1
def joinA (n : Nat) (a b : List Int) : List Int := a ++ (b.drop 1).map (fun x => x + ((n : Int) - 1))
theorem joinP_len {p q : List Int}  (hq : 0 < q.length) : (joinP p q).length = p.length + q.length - 1 := by simp [joinP]; omega
theorem joinP_left {p q : List Int}  (j : Nat) (h : j < p.length) : (joinP p q).getD j 0 = p.getD j 0 := by
  unfold joinP; exact getD_app_left _ _ _ h
theorem joinP_right {p q : List Int} (heq : p.getD (p.length - 1) 0 = q.getD 0 0) (hp : 0 < p.length) (j : Nat) : (joinP p q).getD (p.length - 1 + j) 0 = q.getD j 0 := by
  by_cases h : j = 0
  · subst h; rw [joinP_left _ (by omega), Nat.add_zero, heq]
  · unfold joinP
    rw [getD_app_right _ _ _ (by omega)]
    simp only [List.getD_eq_getElem?_getD, List.getElem?_drop]
    rw [show 1 + (p.length - 1 + j - p.length) = j by omega]
theorem joinP_valid {p a q b : List Int} (ha : Thin p a) (hb : Thin q b) (hlen : (p.length : Int) + q.length - 1 ≤ 20) (heq : p.getD (p.length - 1) 0 = q.getD 0 0) : validB (joinP p q) = true := by
  have l1 := valid_len ha.1
  have l2 := valid_len hb.1
  have hj := joinP_len (p := p) (q := q) (by omega)
  refine valid_mk (by omega) (by omega) (fun i hi => ?_)
  by_cases h : i < p.length
  · rw [joinP_left _ h]; exact valid_ht' ha.1 _
  · have := joinP_right heq (by omega) (i - (p.length - 1))
    rw [show p.length - 1 + (i - (p.length - 1)) = i by omega] at this
    rw [this]; exact valid_ht' hb.1 _
theorem joinA_len {a b : List Int}  (n : Nat) (hb0 : 0 < b.length) : (joinA n a b).length = a.length + b.length - 1 := by simp [joinA]; omega
theorem joinA_left {a b : List Int}  (n j : Nat) (h : j < a.length) : (joinA n a b).getD j 0 = a.getD j 0 := by
  unfold joinA; exact getD_app_left _ _ _ h
theorem joinA_right {p a q b : List Int} (ha : Thin p a) (hb : Thin q b) (j : Nat) (hj : j < b.length) : (joinA p.length a b).getD (a.length - 1 + j) 0 = b.getD j 0 + ((p.length : Int) - 1) := by
  have a0 := ha.2.1
  by_cases h : j = 0
  · subst h; rw [Nat.add_zero, joinA_left _ _ (by omega), ha.2.2.2.1, hb.2.2.1]; omega
  · unfold joinA
    rw [getD_app_right _ _ _ (by omega), map_getD _ _ _ (by simp; omega)]
    simp only [List.getD_eq_getElem?_getD, List.getElem?_drop]
    rw [show 1 + (a.length - 1 + j - a.length) = j by omega]
theorem join_thin {p a q b : List Int} (ha : Thin p a) (hb : Thin q b) (hlen : (p.length : Int) + q.length - 1 ≤ 20) (heq : p.getD (p.length - 1) 0 = q.getD 0 0) : Thin (joinP p q) (joinA p.length a b) := by
  have l1 := valid_len ha.1
  have l2 := valid_len hb.1
  have a0 := ha.2.1
  have b0 := hb.2.1
  have hl := joinA_len (a := a) p.length b0
  refine ⟨joinP_valid ha hb hlen heq, by omega, ?_, ?_, fun i i1 i2 => ?_⟩
  · rw [joinA_left _ _ a0]; exact ha.2.2.1
  · have := joinA_right ha hb (b.length - 1) (by omega)
    rw [hl, show a.length + b.length - 1 - 1 = a.length - 1 + (b.length - 1) by omega, this, hb.2.2.2.1, joinP_len (by omega)]
    omega
  · rw [hl] at i2
    by_cases h : i < a.length
    · rw [joinA_left _ _ h, joinA_left _ _ (by omega)]
      exact ha.2.2.2.2 i i1 h
    · have e1 := joinA_right ha hb (i - (a.length - 1)) (by omega)
      have e2 := joinA_right ha hb (i - (a.length - 1) - 1) (by omega)
      rw [show a.length - 1 + (i - (a.length - 1)) = i by omega] at e1
      rw [show a.length - 1 + (i - (a.length - 1) - 1) = i - 1 by omega] at e2
      rw [e1, e2]
      have := hb.2.2.2.2 (i - (a.length - 1)) (by omega) (by omega)
      omega
theorem errV_congr {p q : List Int} {i j k i' j' k' : Nat} (h1 : p.getD i 0 = q.getD i' 0) (h2 : p.getD j 0 = q.getD j' 0) (h3 : p.getD k 0 = q.getD k' 0) (h4 : (j : Int) - i = (j' : Int) - i') (h5 : (k : Int) - j = (k' : Int) - j') : errV p i j k = errV q i' j' k' := by
  unfold errV offV
  rw [h1, h2, h3, h4, h5, show (k : Int) - i = (k' : Int) - i' by omega]
  congr 1
  omega
theorem span_left {p q : List Int}  {i k : Nat} (hk : k < p.length) : spanV (joinP p q) i k = spanV p i k := by
  apply eq_of_le
  intro e
  rw [spanV_le, spanV_le]
  have : ∀ j, i < j → j < k → errV (joinP p q) i j k = errV p i j k := fun j h1 h2 =>
    errV_congr (joinP_left _ (by omega)) (joinP_left _ (by omega)) (joinP_left _ (by omega)) rfl rfl
  constructor
  · rintro ⟨h0, h⟩; exact ⟨h0, fun j h1 h2 => by rw [← this j h1 h2]; exact h j h1 h2⟩
  · rintro ⟨h0, h⟩; exact ⟨h0, fun j h1 h2 => by rw [this j h1 h2]; exact h j h1 h2⟩
theorem span_right {p q : List Int} (heq : p.getD (p.length - 1) 0 = q.getD 0 0) (hp : 0 < p.length) {i k : Nat} : spanV (joinP p q) (p.length - 1 + i) (p.length - 1 + k) = spanV q i k := by
  apply eq_of_le
  intro e
  rw [spanV_le, spanV_le]
  have : ∀ j, errV (joinP p q) (p.length - 1 + i) (p.length - 1 + j) (p.length - 1 + k) = errV q i j k := fun j =>
    errV_congr (joinP_right heq hp _) (joinP_right heq hp _) (joinP_right heq hp _) (by omega) (by omega)
  constructor
  · rintro ⟨h0, h⟩; exact ⟨h0, fun j h1 h2 => by rw [← this j]; exact h _ (by omega) (by omega)⟩
  · rintro ⟨h0, h⟩
    refine ⟨h0, fun j h1 h2 => ?_⟩
    have e := this (j - (p.length - 1))
    rw [show p.length - 1 + (j - (p.length - 1)) = j by omega] at e
    rw [e]; exact h _ (by omega) (by omega)
theorem join_err {p a q b : List Int} (ha : Thin p a) (hb : Thin q b) (hlen : (p.length : Int) + q.length - 1 ≤ 20) (heq : p.getD (p.length - 1) 0 = q.getD 0 0) : thinE (joinP p q) (joinA p.length a b) = max (thinE p a) (thinE q b) := by
  have l1 := valid_len ha.1
  have a0 := ha.2.1
  have b0 := hb.2.1
  have hl := joinA_len (a := a) p.length b0
  have kl : ∀ j, 1 ≤ j → j < a.length → spanV (joinP p q) ((joinA p.length a b).getD (j - 1) 0).toNat ((joinA p.length a b).getD j 0).toNat = spanV p (a.getD (j - 1) 0).toNat (a.getD j 0).toNat := by
    intro j j1 j2
    rw [joinA_left _ _ j2, joinA_left _ _ (by omega)]
    have := ha.bd j j2
    exact span_left (by omega)
  have kr : ∀ j, 1 ≤ j → j < b.length → spanV (joinP p q) ((joinA p.length a b).getD (a.length - 1 + j - 1) 0).toNat ((joinA p.length a b).getD (a.length - 1 + j) 0).toNat = spanV q (b.getD (j - 1) 0).toNat (b.getD j 0).toNat := by
    intro j j1 j2
    rw [show a.length - 1 + j - 1 = a.length - 1 + (j - 1) by omega, joinA_right ha hb _ (by omega), joinA_right ha hb _ j2]
    have := hb.bd j j2
    have := hb.bd (j - 1) (by omega)
    rw [← span_right heq (by omega)]
    congr 1 <;> omega
  apply eq_of_le
  intro e
  rw [Int.max_le, thinE_le ha, thinE_le hb, thinE_le (join_thin ha hb hlen heq), hl]
  constructor
  · rintro ⟨h0, h⟩
    refine ⟨⟨h0, fun j j1 j2 => ?_⟩, ⟨h0, fun j j1 j2 => ?_⟩⟩
    · rw [← kl j j1 j2]; exact h j j1 (by omega)
    · rw [← kr j j1 j2]; exact h _ (by omega) (by omega)
  · rintro ⟨⟨h0, h⟩, ⟨-, h'⟩⟩
    refine ⟨h0, fun j j1 j2 => ?_⟩
    by_cases hj : j < a.length
    · rw [kl j j1 hj]; exact h j j1 hj
    · have := kr (j - (a.length - 1)) (by omega) (by omega)
      rw [show a.length - 1 + (j - (a.length - 1)) = j by omega] at this
      rw [this]; exact h' _ (by omega) (by omega)


end Go.Proofs.Ytonehpndbbojpaa
