/- Plain functions on lists: heights, profiles. -/
namespace Go.Proofs.Ytkhhloeemecokaa

def inB (n lo hi : Int) : Bool := decide (lo ≤ n ∧ n ≤ hi)
def htB (h : Int) : Bool := inB h 0 99
def validB (p : List Int) : Bool := inB p.length 1 20 && p.all htB

theorem inB_iff {n lo hi : Int} : inB n lo hi = true ↔ lo ≤ n ∧ n ≤ hi := by simp [inB]
theorem inB_false {n lo hi : Int} : inB n lo hi = false ↔ ¬ (lo ≤ n ∧ n ≤ hi) := by simp [inB]

theorem all_take_step (f : Int → Bool) (p : List Int) (k : Nat) (hk : k < p.length) (h : (p.take k).all f = true) (e : f (p.getD k 0) = true) : (p.take (k + 1)).all f = true := by
  rw [List.take_succ_eq_append_getElem hk, List.all_append, h]
  simp [hk] at e
  simp [e]

theorem all_false_of (f : Int → Bool) (p : List Int) (k : Nat) (hk : k < p.length) (e : f (p.getD k 0) = false) : p.all f = false := by
  simp [hk] at e
  rw [List.all_eq_false]
  exact ⟨p[k], List.getElem_mem hk, by simp [e]⟩

theorem valid_len {p : List Int} (h : validB p = true) : 1 ≤ p.length ∧ p.length ≤ 20 := by
  simp only [validB, Bool.and_eq_true, inB_iff] at h
  omega

theorem valid_ht {p : List Int} (h : validB p = true) (i : Nat) (hi : i < p.length) : 0 ≤ p.getD i 0 ∧ p.getD i 0 ≤ 99 := by
  simp only [validB, Bool.and_eq_true, List.all_eq_true] at h
  have := h.2 p[i] (List.getElem_mem hi)
  simp only [htB, inB_iff] at this
  simpa [hi] using this

theorem valid_mk {p : List Int} (h1 : 1 ≤ p.length) (h2 : p.length ≤ 20) (h : ∀ i, i < p.length → 0 ≤ p.getD i 0 ∧ p.getD i 0 ≤ 99) : validB p = true := by
  simp only [validB, Bool.and_eq_true, inB_iff, List.all_eq_true]
  refine ⟨by omega, fun x hx => ?_⟩
  obtain ⟨i, hi, rfl⟩ := List.getElem_of_mem hx
  have := h i hi
  simp only [htB, inB_iff]
  simpa [hi] using this

theorem valid_ht' {p : List Int} (h : validB p = true) (i : Nat) : 0 ≤ p.getD i 0 ∧ p.getD i 0 ≤ 99 := by
  by_cases hi : i < p.length
  · exact valid_ht h i hi
  · simp only [Nat.not_lt] at hi
    simp [List.getD_eq_getElem?_getD, List.getElem?_eq_none hi]

/-- Rises and falls up to the point k. -/
def upS (p : List Int) : Nat → Int
  | 0 => 0
  | k + 1 => upS p k + (if k = 0 then 0 else max (p.getD k 0 - p.getD (k - 1) 0) 0)
def dnS (p : List Int) : Nat → Int
  | 0 => 0
  | k + 1 => dnS p k + (if k = 0 then 0 else max (p.getD (k - 1) 0 - p.getD k 0) 0)
def upV (p : List Int) : Int := if validB p then upS p p.length else 0
def dnV (p : List Int) : Int := if validB p then dnS p p.length else 0

theorem upS_bd {p : List Int} (h : validB p = true) : ∀ k, 0 ≤ upS p k ∧ upS p k ≤ 99 * k
  | 0 => by simp [upS]
  | k + 1 => by
    have ih := upS_bd h k
    have h1 := valid_ht' h k
    have h2 := valid_ht' h (k - 1)
    simp only [upS]
    split <;> omega
theorem dnS_bd {p : List Int} (h : validB p = true) : ∀ k, 0 ≤ dnS p k ∧ dnS p k ≤ 99 * k
  | 0 => by simp [dnS]
  | k + 1 => by
    have ih := dnS_bd h k
    have h1 := valid_ht' h k
    have h2 := valid_ht' h (k - 1)
    simp only [dnS]
    split <;> omega
theorem upS_step (p : List Int) (k : Nat) (hk : 1 ≤ k) : upS p (k + 1) = upS p k + max (p.getD k 0 - p.getD (k - 1) 0) 0 := by
  simp only [upS]
  rw [if_neg (by omega)]
theorem dnS_step (p : List Int) (k : Nat) (hk : 1 ≤ k) : dnS p (k + 1) = dnS p k + max (p.getD (k - 1) 0 - p.getD k 0) 0 := by
  simp only [dnS]
  rw [if_neg (by omega)]

/-- The numbers below k that pass a test. -/
def sel (f : Nat → Bool) (k : Nat) : List Int := ((List.range k).filter f).map (fun i : Nat => (i : Int))
theorem sel_zero (f : Nat → Bool) : sel f 0 = [] := rfl
theorem sel_yes (f : Nat → Bool) (k : Nat) (h : f k = true) : sel f (k + 1) = sel f k ++ [(k : Int)] := by
  simp [sel, List.range_succ, h]
theorem sel_no (f : Nat → Bool) (k : Nat) (h : f k = false) : sel f (k + 1) = sel f k := by
  simp [sel, List.range_succ, h]
theorem sel_len (f : Nat → Bool) (k : Nat) : (sel f k).length ≤ k := by
  have := List.length_filter_le f (List.range k)
  simp [sel] at *
  omega
theorem sel_congr {f g : Nat → Bool} {k : Nat} (h : ∀ i, i < k → f i = g i) : sel f k = sel g k := by
  simp only [sel]
  rw [List.filter_congr (fun x hx => h x (by simpa using hx))]

/-- A list of points to which a profile is thinned. -/
def Thin (p l : List Int) : Prop :=
  validB p = true ∧ 0 < l.length ∧ l.getD 0 0 = 0 ∧ l.getD (l.length - 1) 0 = (p.length : Int) - 1 ∧ ∀ i, 1 ≤ i → i < l.length → l.getD (i - 1) 0 < l.getD i 0
open Classical in
noncomputable def thinB (p l : List Int) : Bool := decide (Thin p l)
theorem thinB_iff {p l : List Int} : thinB p l = true ↔ Thin p l := by simp [thinB]
theorem thinB_false {p l : List Int} : thinB p l = false ↔ ¬ Thin p l := by simp [thinB]
theorem asc_le {l : List Int} (h : ∀ i, 1 ≤ i → i < l.length → l.getD (i - 1) 0 < l.getD i 0) (i : Nat) : ∀ j, i ≤ j → j < l.length → l.getD i 0 + ((j : Int) - i) ≤ l.getD j 0
  | 0, hij, hj => by
    have : i = 0 := by omega
    subst this; omega
  | j + 1, hij, hj => by
    by_cases he : i = j + 1
    · subst he; omega
    · have h1 := asc_le h i j (by omega) (by omega)
      have h2 := h (j + 1) (by omega) hj
      simp only [Nat.add_sub_cancel] at h2
      omega
theorem Thin.bd {p l : List Int} (h : Thin p l) (i : Nat) (hi : i < l.length) : (i : Int) ≤ l.getD i 0 ∧ l.getD i 0 ≤ (p.length : Int) - 1 := by
  obtain ⟨_, h0, h1, h2, h3⟩ := h
  have a := asc_le h3 0 i (by omega) hi
  have b := asc_le h3 i (l.length - 1) (by omega) (by omega)
  omega
theorem Thin.len {p l : List Int} (h : Thin p l) : l.length ≤ p.length := by
  have := h.bd (l.length - 1) (by have := h.2.1; omega)
  have := h.2.1
  omega

/-- No point strictly between lo and hi lies above the straight line from height a at lo to height b at hi. -/
def clearP (p : List Int) (lo hi : Nat) (a b : Int) : Prop :=
  ∀ j, lo < j → j < hi → p.getD j 0 * ((hi : Int) - lo) ≤ a * ((hi : Int) - j) + b * ((j : Int) - lo)
open Classical in
noncomputable def clearB (p : List Int) (lo hi : Nat) (a b : Int) : Bool := decide (clearP p lo hi a b)
theorem clearB_iff {p : List Int} {lo hi : Nat} {a b : Int} : clearB p lo hi a b = true ↔ clearP p lo hi a b := by simp [clearB]
theorem clearB_false {p : List Int} {lo hi : Nat} {a b : Int} : clearB p lo hi a b = false ↔ ¬ clearP p lo hi a b := by simp [clearB]
/-- Eyes at heights a (over i) and b (over k). -/
noncomputable def lookB (p : List Int) (i k : Nat) (a b : Int) : Bool := if i ≤ k then clearB p i k a b else clearB p k i b a
noncomputable def seesB (p : List Int) (i k : Nat) (e : Int) : Bool := lookB p i k (p.getD i 0 + e) (p.getD k 0)
theorem seesB_zero (p : List Int) (i k : Nat) : seesB p i k 0 = lookB p i k (p.getD i 0) (p.getD k 0) := by simp [seesB]
def hasB (p : List Int) (i : Int) : Bool := validB p && decide (0 ≤ i ∧ i < p.length)
theorem hasB_iff {p : List Int} {i : Int} : hasB p i = true ↔ validB p = true ∧ 0 ≤ i ∧ i < p.length := by simp [hasB]
theorem prod_bd {x y X Y : Int} (h1 : 0 ≤ x) (h2 : x ≤ X) (h3 : 0 ≤ y) (h4 : y ≤ Y) : 0 ≤ x * y ∧ x * y ≤ X * Y :=
  ⟨Int.mul_nonneg h1 h3, Int.mul_le_mul h2 h4 h3 (by omega)⟩

end Go.Proofs.Ytkhhloeemecokaa
