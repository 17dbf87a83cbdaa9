/- Plain functions: the fewest points. -/
import Derived.Test.YtonehpndbbojpaaPlainT
namespace Go.Proofs.Ytonehpndbbojpaa

def okB (p : List Int) (e : Int) (i k : Nat) : Bool := decide (spanV p i k ≤ e)
theorem okB_iff {p : List Int} {e : Int} {i k : Nat} : okB p e i k = true ↔ spanV p i k ≤ e := by simp [okB]
theorem okB_next {p : List Int} {e : Int} (he : 0 ≤ e) (i : Nat) : okB p e i (i + 1) = true := by rw [okB_iff, spanV_next]; exact he

/-- Of the last m numbers below n that pass a test: one whose count is least, the greatest of several. -/
def pickK (f : Nat → Bool) (c : Nat → Nat) (n : Nat) : Nat → Option Nat
  | 0 => none
  | m + 1 => if f (n - 1 - m) then (match pickK f c n m with
      | none => some (n - 1 - m)
      | some k => if c (n - 1 - m) < c k then some (n - 1 - m) else some k) else pickK f c n m

theorem pickK_congr {f : Nat → Bool} {c c' : Nat → Nat} {n : Nat} : ∀ {m : Nat}, m ≤ n - 1 → (∀ k, n - m ≤ k → k < n → c k = c' k) → pickK f c n m = pickK f c' n m ∧ ∀ k, pickK f c' n m = some k → n - m ≤ k ∧ k < n
  | 0, _, _ => ⟨rfl, fun k h => by simp [pickK] at h⟩
  | m + 1, hm, h => by
    obtain ⟨ih, hr⟩ := pickK_congr (f := f) (c := c) (c' := c') (m := m) (by omega) (fun k h1 h2 => h k (by omega) h2)
    simp only [pickK]
    rw [ih]
    constructor
    · split
      · cases e : pickK f c' n m with
        | none => rfl
        | some k =>
          have := hr k e
          simp only
          rw [h (n - 1 - m) (by omega) (by omega), h k (by omega) (by omega)]
      · rfl
    · intro k
      split
      · cases e : pickK f c' n m with
        | none => simp only [Option.some.injEq]; omega
        | some k' =>
          have := hr k' e
          simp only
          split <;> simp only [Option.some.injEq] <;> omega
      · intro h'; have := hr k h'; omega

theorem pickK_none {f : Nat → Bool} {c : Nat → Nat} {n : Nat} : ∀ {m : Nat}, m ≤ n → pickK f c n m = none → ∀ k, n - m ≤ k → k < n → f k = false
  | 0, _, _ => fun k h1 h2 => by omega
  | m + 1, hm, h => by
    simp only [pickK] at h
    cases e : f (n - 1 - m)
    · rw [e] at h
      simp only [Bool.false_eq_true, if_false] at h
      intro k h1 h2
      by_cases ek : k = n - 1 - m
      · rw [ek]; exact e
      · exact pickK_none (by omega) h k (by omega) h2
    · rw [e] at h
      simp only [if_true] at h
      split at h
      · cases h
      · split at h <;> cases h

theorem pickK_some {f : Nat → Bool} {c : Nat → Nat} {n : Nat} : ∀ {m k : Nat}, m ≤ n → pickK f c n m = some k → n - m ≤ k ∧ k < n ∧ f k = true ∧ ∀ j, n - m ≤ j → j < n → f j = true → c k ≤ c j ∧ (c j = c k → j ≤ k)
  | 0, _, _, h => by simp [pickK] at h
  | m + 1, k, hm, h => by
    simp only [pickK] at h
    cases e : f (n - 1 - m)
    · rw [e] at h
      simp only [Bool.false_eq_true, if_false] at h
      obtain ⟨h1, h2, h3, h4⟩ := pickK_some (by omega) h
      refine ⟨by omega, h2, h3, fun j j1 j2 j3 => ?_⟩
      by_cases ej : j = n - 1 - m
      · rw [ej, e] at j3; cases j3
      · exact h4 j (by omega) j2 j3
    · rw [e] at h
      simp only [if_true] at h
      cases ep : pickK f c n m with
      | none =>
        rw [ep] at h
        simp only [Option.some.injEq] at h
        have hn := pickK_none (by omega) ep
        subst h
        refine ⟨by omega, by omega, e, fun j j1 j2 j3 => ?_⟩
        by_cases ej : j = n - 1 - m
        · subst ej; exact ⟨Nat.le_refl _, fun _ => Nat.le_refl _⟩
        · have := hn j (by omega) j2; rw [this] at j3; cases j3
      | some k' =>
        rw [ep] at h
        simp only at h
        obtain ⟨h1, h2, h3, h4⟩ := pickK_some (by omega) ep
        split at h
        · simp only [Option.some.injEq] at h
          subst h
          refine ⟨by omega, by omega, e, fun j j1 j2 j3 => ?_⟩
          by_cases ej : j = n - 1 - m
          · subst ej; exact ⟨Nat.le_refl _, fun _ => Nat.le_refl _⟩
          · have := h4 j (by omega) j2 j3
            exact ⟨by omega, fun _ => by omega⟩
        · simp only [Option.some.injEq] at h
          subst h
          refine ⟨by omega, h2, h3, fun j j1 j2 j3 => ?_⟩
          by_cases ej : j = n - 1 - m
          · subst ej; exact ⟨by omega, fun _ => by omega⟩
          · exact h4 j (by omega) j2 j3

/-- The lines from the points, the last d + 1 points' known. -/
def tabL (ok : Nat → Nat → Bool) (n : Nat) : Nat → Nat → List Int
  | 0, _ => [((n - 1 : Nat) : Int)]
  | d + 1, j => if j = n - 2 - d then (match pickK (ok j) (fun k => (tabL ok n d k).length) n (d + 1) with
      | some k => (j : Int) :: tabL ok n d k
      | none => []) else tabL ok n d j
def lineL (ok : Nat → Nat → Bool) (n i : Nat) : List Int := tabL ok n (n - 1 - i) i

theorem tabL_line (ok : Nat → Nat → Bool) (n : Nat) : ∀ d j, d < n → n - 1 - d ≤ j → j < n → tabL ok n d j = lineL ok n j
  | 0, j, h0, h1, h2 => by
    have : j = n - 1 := by omega
    subst this
    unfold lineL
    rw [Nat.sub_self]
  | d + 1, j, h0, h1, h2 => by
    by_cases e : j = n - 2 - d
    · unfold lineL
      rw [show n - 1 - j = d + 1 by omega]
    · rw [← tabL_line ok n d j (by omega) (by omega) h2]
      simp only [tabL]
      rw [if_neg e]

theorem lineL_last (ok : Nat → Nat → Bool) (n : Nat) : lineL ok n (n - 1) = [((n - 1 : Nat) : Int)] := by
  unfold lineL
  rw [Nat.sub_self]; rfl

theorem lineL_step (ok : Nat → Nat → Bool) (n i : Nat) (h : i + 1 < n) :
    lineL ok n i = match pickK (ok i) (fun k => (lineL ok n k).length) n (n - 1 - i) with
      | some k => (i : Int) :: lineL ok n k
      | none => [] := by
  have e : n - 1 - i = (n - 2 - i) + 1 := by omega
  have hc := pickK_congr (f := ok i) (c := fun k => (tabL ok n (n - 2 - i) k).length) (c' := fun k => (lineL ok n k).length) (n := n) (m := n - 1 - i) (by omega)
    (fun k h1 h2 => by rw [tabL_line ok n (n - 2 - i) k (by omega) (by omega) h2])
  rw [show lineL ok n i = tabL ok n (n - 1 - i) i from rfl]
  rw [e]
  simp only [tabL]
  rw [if_pos (by omega), ← e, hc.1]
  cases ep : pickK (ok i) (fun k => (lineL ok n k).length) n (n - 1 - i) with
  | none => rfl
  | some k =>
    have := hc.2 k ep
    simp only
    rw [tabL_line ok n (n - 2 - i) k (by omega) (by omega) (by omega)]

/-- A way from a point to the last one. -/
inductive Way (ok : Nat → Nat → Bool) (n : Nat) : Nat → List Int → Prop
  | last : Way ok n (n - 1) [((n - 1 : Nat) : Int)]
  | step {i k : Nat} {l : List Int} : i < k → k < n → ok i k = true → Way ok n k l → Way ok n i ((i : Int) :: l)

theorem Way.lt {ok : Nat → Nat → Bool} {n i : Nat} {l : List Int} (hn : 0 < n) (h : Way ok n i l) : i < n := by
  cases h with
  | last => omega
  | step h1 h2 _ _ => omega
theorem Way.pos {ok : Nat → Nat → Bool} {n i : Nat} {l : List Int} (h : Way ok n i l) : 0 < l.length := by
  cases h <;> simp

structure Lines (ok : Nat → Nat → Bool) (n i : Nat) : Prop where
  way : Way ok n i (lineL ok n i)
  least : ∀ l, Way ok n i l → (lineL ok n i).length ≤ l.length
  len : (lineL ok n i).length ≤ n - i
  pos : 0 < (lineL ok n i).length

theorem lines_all {ok : Nat → Nat → Bool} {n : Nat} (hok : ∀ i, i + 1 < n → ok i (i + 1) = true) : ∀ d i, i + d = n - 1 → 0 < n → Lines ok n i := by
  intro d
  induction d using Nat.strongRecOn with
  | ind d ih =>
    intro i hi hn
    by_cases hd : d = 0
    · have : i = n - 1 := by omega
      subst this
      rw [show Lines ok n (n - 1) ↔ Lines ok n (n - 1) from Iff.rfl]
      have e := lineL_last ok n
      exact ⟨by rw [e]; exact .last, fun l hl => by rw [e]; exact hl.pos, by rw [e]; simp; omega, by rw [e]; simp⟩
    · have hs := lineL_step ok n i (by omega)
      cases ep : pickK (ok i) (fun k => (lineL ok n k).length) n (n - 1 - i) with
      | none =>
        have := pickK_none (by omega) ep (i + 1) (by omega) (by omega)
        rw [hok i (by omega)] at this
        cases this
      | some k =>
        rw [ep] at hs
        simp only at hs
        obtain ⟨h1, h2, h3, h4⟩ := pickK_some (by omega) ep
        have hk := ih (n - 1 - k) (by omega) k (by omega) hn
        have hk1 := ih (n - 1 - (i + 1)) (by omega) (i + 1) (by omega) hn
        have h5 := h4 (i + 1) (by omega) (by omega) (hok i (by omega))
        have := hk1.len
        refine ⟨?_, ?_, ?_, ?_⟩
        · rw [hs]; exact .step (by omega) h2 h3 hk.way
        · intro l hl
          cases hl with
          | last => omega
          | step a1 a2 a3 a4 =>
            rename_i k' l'
            have b1 := ih (n - 1 - k') (by omega) k' (by omega) hn
            have b2 := b1.least _ a4
            have b3 := h4 k' (by omega) a2 a3
            rw [hs]
            simp only [List.length_cons]
            omega
        · rw [hs]
          simp only [List.length_cons]
          omega
        · rw [hs]; simp

theorem lines_at {ok : Nat → Nat → Bool} {n : Nat} (hok : ∀ i, i + 1 < n → ok i (i + 1) = true) {i : Nat} (hi : i < n) : Lines ok n i := lines_all hok (n - 1 - i) i (by omega) (by omega)

/-- The next point of a best line. -/
theorem line_pick {ok : Nat → Nat → Bool} {n : Nat} (hok : ∀ i, i + 1 < n → ok i (i + 1) = true) {i : Nat} (hi : i + 1 < n) :
    ∃ k, pickK (ok i) (fun k => (lineL ok n k).length) n (n - 1 - i) = some k ∧ i < k ∧ k < n ∧ ok i k = true ∧ lineL ok n i = (i : Int) :: lineL ok n k ∧
      ∀ j, i < j → j < n → ok i j = true → (lineL ok n k).length ≤ (lineL ok n j).length ∧ ((lineL ok n j).length = (lineL ok n k).length → j ≤ k) := by
  have hs := lineL_step ok n i hi
  cases ep : pickK (ok i) (fun k => (lineL ok n k).length) n (n - 1 - i) with
  | none =>
    have := pickK_none (by omega) ep (i + 1) (by omega) (by omega)
    rw [hok i hi] at this
    cases this
  | some k =>
    rw [ep] at hs
    obtain ⟨h1, h2, h3, h4⟩ := pickK_some (by omega) ep
    exact ⟨k, rfl, by omega, h2, h3, hs, fun j j1 j2 j3 => h4 j (by omega) j2 j3⟩

/-- The reference's minimum: over the first m points behind i. -/
def minC (f : Nat → Bool) (c : Nat → Nat) (n i : Nat) : Nat → Nat
  | 0 => n
  | m + 1 => if f (i + 1 + m) then min (minC f c n i m) (1 + c (i + 1 + m)) else minC f c n i m
theorem minC_le (f : Nat → Bool) (c : Nat → Nat) (n i : Nat) : ∀ m, minC f c n i m ≤ n ∧ ∀ j, j < m → f (i + 1 + j) = true → minC f c n i m ≤ 1 + c (i + 1 + j)
  | 0 => ⟨Nat.le_refl _, fun j h => by omega⟩
  | m + 1 => by
    obtain ⟨h1, h2⟩ := minC_le f c n i m
    simp only [minC]
    cases e : f (i + 1 + m)
    · simp only [Bool.false_eq_true, if_false]
      refine ⟨h1, fun j hj hf => ?_⟩
      by_cases ej : j = m
      · subst ej; rw [e] at hf; cases hf
      · exact h2 j (by omega) hf
    · simp only [if_true]
      refine ⟨by omega, fun j hj hf => ?_⟩
      by_cases ej : j = m
      · subst ej; omega
      · have := h2 j (by omega) hf; omega
theorem minC_ge (f : Nat → Bool) (c : Nat → Nat) (n i x : Nat) (hx : x ≤ n) : ∀ m, (∀ j, j < m → f (i + 1 + j) = true → x ≤ 1 + c (i + 1 + j)) → x ≤ minC f c n i m
  | 0, _ => hx
  | m + 1, h => by
    have ih := minC_ge f c n i x hx m (fun j hj => h j (by omega))
    simp only [minC]
    cases e : f (i + 1 + m)
    · simpa using ih
    · have := h m (by omega) e
      simp only [if_true]; omega

theorem minC_line {ok : Nat → Nat → Bool} {n : Nat} (hok : ∀ i, i + 1 < n → ok i (i + 1) = true) {i : Nat} (hi : i + 1 < n) :
    minC (ok i) (fun k => (lineL ok n k).length) n i (n - 1 - i) = (lineL ok n i).length := by
  obtain ⟨k, -, h1, h2, h3, h4, h5⟩ := line_pick hok hi
  have hl := (lines_at hok (i := i) (by omega)).len
  rw [h4] at hl ⊢
  simp only [List.length_cons] at hl ⊢
  have a := (minC_le (ok i) (fun k => (lineL ok n k).length) n i (n - 1 - i)).2 (k - i - 1) (by omega)
  rw [show i + 1 + (k - i - 1) = k by omega] at a
  have a := a h3
  have b := minC_ge (ok i) (fun k => (lineL ok n k).length) n i (1 + (lineL ok n k).length) (by omega) (n - 1 - i) (fun j hj hf => by
    have := (h5 (i + 1 + j) (by omega) (by omega) hf).1
    omega)
  omega

/-- The last of the first m points behind i that passes a test, or i. -/
def lastK (f : Nat → Bool) (i : Nat) : Nat → Nat
  | 0 => i
  | m + 1 => if f (i + 1 + m) then i + 1 + m else lastK f i m
theorem lastK_eq {f : Nat → Bool} {i k : Nat} (hk : i < k) (hf : f k = true) : ∀ m, k < i + 1 + m → (∀ j, k < j → j < i + 1 + m → f j = false) → lastK f i m = k
  | 0, h, _ => by omega
  | m + 1, h, h2 => by
    simp only [lastK]
    by_cases e : k = i + 1 + m
    · rw [← e, hf]; simp
    · rw [h2 (i + 1 + m) (by omega) (by omega)]
      simp only [Bool.false_eq_true, if_false]
      exact lastK_eq hk hf m (by omega) (fun j h3 h4 => h2 j h3 (by omega))

noncomputable def fewB (p : List Int) (e : Int) : Bool := validB p && errB e
def fewL (p : List Int) (e : Int) : List Int := lineL (okB p e) p.length 0
noncomputable def fewV (p : List Int) (e : Int) : Int := if fewB p e then (fewL p e).length else -1
theorem fewB_iff {p : List Int} {e : Int} : fewB p e = true ↔ validB p = true ∧ 0 ≤ e ∧ e ≤ 99 := by simp [fewB, errB, inB]
theorem few_ok {p : List Int} {e : Int} (h : 0 ≤ e) : ∀ i, i + 1 < p.length → okB p e i (i + 1) = true := fun i _ => okB_next h i
theorem fewV_yes {p : List Int} {e : Int} (h : fewB p e = true) : fewV p e = (fewL p e).length := by simp [fewV, h]
theorem fewV_no {p : List Int} {e : Int} (h : fewB p e = false) : fewV p e = -1 := by simp [fewV, h]

end Go.Proofs.Ytonehpndbbojpaa
