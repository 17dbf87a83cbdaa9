/- Plain laws on sight: who is seen; neighbors; pairs from both sides; a high eye. -/
import Derived.Test.YtjpcbegndnbeeaaPlainS
import Derived.Test.YtjpcbegndnbeeaaPlainB
import Derived.Test.YtjpcbegndnbeeaaSees
namespace Go.Proofs.Ytjpcbegndnbeeaa

theorem clear_mono {p x : List Int} {lo hi : Nat} {a b a' b' : Int} (h : clearP p lo hi a b) (hx : ∀ j, lo < j → j < hi → x.getD j 0 ≤ p.getD j 0) (ha : a ≤ a') (hb : b ≤ b') : clearP x lo hi a' b' := by
  intro j h1 h2
  have e1 := h j h1 h2
  have e2 := Int.mul_le_mul_of_nonneg_right (hx j h1 h2) (show 0 ≤ (hi : Int) - lo by omega)
  have e3 := Int.mul_le_mul_of_nonneg_right ha (show 0 ≤ (hi : Int) - j by omega)
  have e4 := Int.mul_le_mul_of_nonneg_right hb (show 0 ≤ (j : Int) - lo by omega)
  omega
theorem look_mono {p x : List Int} {i k : Nat} {a b a' b' : Int} (h : lookB p i k a b = true) (hx : ∀ j, min i k < j → j < max i k → x.getD j 0 ≤ p.getD j 0) (ha : a ≤ a') (hb : b ≤ b') : lookB x i k a' b' = true := by
  unfold lookB at *
  by_cases h1 : i ≤ k
  · rw [if_pos h1] at *
    rw [clearB_iff] at *
    exact clear_mono h (fun j a b => hx j (by omega) (by omega)) ha hb
  · rw [if_neg h1] at *
    rw [clearB_iff] at *
    exact clear_mono h (fun j a b => hx j (by omega) (by omega)) hb ha
theorem clear_rev {p : List Int} {lo hi : Nat} {a b : Int} (h : hi < p.length) (h0 : lo ≤ hi) : clearP p.reverse (p.length - 1 - hi) (p.length - 1 - lo) b a ↔ clearP p lo hi a b := by
  constructor
  · intro hc j h1 h2
    have e := hc (p.length - 1 - j) (by omega) (by omega)
    rw [rev_getD p _ (by omega), show p.length - 1 - (p.length - 1 - j) = j by omega] at e
    rw [show ((p.length - 1 - lo : Nat) : Int) - ((p.length - 1 - hi : Nat) : Int) = (hi : Int) - lo by omega, show ((p.length - 1 - lo : Nat) : Int) - ((p.length - 1 - j : Nat) : Int) = (j : Int) - lo by omega, show ((p.length - 1 - j : Nat) : Int) - ((p.length - 1 - hi : Nat) : Int) = (hi : Int) - j by omega] at e
    omega
  · intro hc j h1 h2
    have e := hc (p.length - 1 - j) (by omega) (by omega)
    rw [rev_getD p _ (by omega)]
    rw [show ((p.length - 1 - lo : Nat) : Int) - ((p.length - 1 - hi : Nat) : Int) = (hi : Int) - lo by omega, show ((p.length - 1 - lo : Nat) : Int) - (j : Int) = ((p.length - 1 - j : Nat) : Int) - lo by omega, show (j : Int) - ((p.length - 1 - hi : Nat) : Int) = (hi : Int) - ((p.length - 1 - j : Nat) : Int) by omega]
    omega
theorem sees_rev {p : List Int} {i k : Nat} (hi : i < p.length) (hk : k < p.length) : seesB p.reverse (p.length - 1 - i) (p.length - 1 - k) 0 = seesB p i k 0 := by
  rw [seesB_zero, seesB_zero]
  unfold lookB
  rw [rev_getD p _ (by omega), rev_getD p _ (by omega), show p.length - 1 - (p.length - 1 - i) = i by omega, show p.length - 1 - (p.length - 1 - k) = k by omega]
  by_cases h : i ≤ k
  · by_cases h' : k ≤ i
    · have : i = k := by omega
      subst this
      rw [if_pos (Nat.le_refl _), if_pos (Nat.le_refl _)]
      have e := clear_rev (p := p) (lo := i) (hi := i) (a := p.getD i 0) (b := p.getD i 0) hi (Nat.le_refl _)
      cases h1 : clearB p i i (p.getD i 0) (p.getD i 0)
      · rw [clearB_false] at *; rw [e]; exact h1
      · rw [clearB_iff] at *; rw [e]; exact h1
    · rw [if_neg (by omega), if_pos h]
      have e := clear_rev (p := p) (lo := i) (hi := k) (a := p.getD i 0) (b := p.getD k 0) hk h
      cases h1 : clearB p i k (p.getD i 0) (p.getD k 0)
      · rw [clearB_false] at *; rw [e]; exact h1
      · rw [clearB_iff] at *; rw [e]; exact h1
  · rw [if_pos (by omega), if_neg h]
    have e := clear_rev (p := p) (lo := k) (hi := i) (a := p.getD k 0) (b := p.getD i 0) hi (by omega)
    cases h1 : clearB p k i (p.getD k 0) (p.getD i 0)
    · rw [clearB_false] at *; rw [e]; exact h1
    · rw [clearB_iff] at *; rw [e]; exact h1
theorem sees3_iff {p : List Int} {i k : Int} : sees3B p i k = true ↔ validB p = true ∧ 0 ≤ i ∧ i < p.length ∧ 0 ≤ k ∧ k < p.length ∧ seesB p i.toNat k.toNat 0 = true := by
  simp only [sees3B, Bool.and_eq_true, hasB_iff]
  constructor
  · rintro ⟨⟨⟨a, b, c⟩, -, d, e⟩, f⟩; exact ⟨a, b, c, d, e, f⟩
  · rintro ⟨a, b, c, d, e, f⟩; exact ⟨⟨⟨a, b, c⟩, a, d, e⟩, f⟩
theorem set_len (p : List Int) (j : Nat) (y : Int) : (p.set j y).length = p.length := by simp
theorem set_at (p : List Int) (j : Nat) (y : Int) (i : Nat) : (p.set j y).getD i 0 = if i = j ∧ j < p.length then y else p.getD i 0 := by
  by_cases h : i = j
  · subst h
    by_cases h2 : i < p.length
    · rw [if_pos ⟨rfl, h2⟩]; simp [h2]
    · rw [if_neg (by omega)]; simp [h2]
  · rw [if_neg (by omega)]
    simp only [List.getD_eq_getElem?_getD]
    rw [List.getElem?_set_ne (by omega)]
theorem set_valid {p : List Int} (hv : validB p = true) {j : Nat} {y : Int} (h0 : 0 ≤ y) (h1 : y ≤ 99) : validB (p.set j y) = true := by
  have hl := valid_len hv
  refine valid_mk (by rw [set_len]; omega) (by rw [set_len]; omega) (fun i _ => ?_)
  rw [set_at]
  split
  · omega
  · exact valid_ht' hv i

/-- FnSees. -/
theorem sees_back {p : List Int} {i k : Int} (h : sees3B p i k = true) : sees3B p k i = true ∧ sees3B (backL p) ((p.length : Int) - 1 - i) ((p.length : Int) - 1 - k) = true := by
  obtain ⟨hv, h1, h2, h3, h4, h5⟩ := sees3_iff.1 h
  refine ⟨sees3_iff.2 ⟨hv, h3, h4, h1, h2, by rw [seesB_symm]; exact h5⟩, ?_⟩
  rw [backL_valid hv, sees3_iff, List.length_reverse]
  refine ⟨rev_valid hv, by omega, by omega, by omega, by omega, ?_⟩
  have := sees_rev (p := p) (i := i.toNat) (k := k.toNat) (by omega) (by omega)
  rw [show ((p.length : Int) - 1 - i).toNat = p.length - 1 - i.toNat by omega, show ((p.length : Int) - 1 - k).toNat = p.length - 1 - k.toNat by omega, this]
  exact h5
theorem sees_low {p : List Int} {i k : Int} (h : sees3B p i k = true) {j : Nat} (h1 : min i k < j) (h2 : (j : Int) < max i k) (h0 : 0 ≤ p.getD j 0 - 1) : sees3B (p.set j (p.getD j 0 - 1)) i k = true := by
  obtain ⟨hv, a, b, c, d, e⟩ := sees3_iff.1 h
  have hy := valid_ht' hv j
  rw [sees3_iff, set_len]
  refine ⟨set_valid hv h0 (by omega), a, b, c, d, ?_⟩
  rw [seesB_zero] at *
  rw [set_at, if_neg (by omega), set_at, if_neg (by omega)]
  refine look_mono e (fun m m1 m2 => ?_) (Int.le_refl _) (Int.le_refl _)
  rw [set_at]
  split
  · rename_i hm; rw [hm.1]; omega
  · exact Int.le_refl _
theorem sees_near {p : List Int} (i k : Nat) (h1 : i ≤ k + 1) (h2 : k ≤ i + 1) : seesB p i k 0 = true := by
  rw [seesB_zero]
  unfold lookB
  split
  · rw [clearB_iff]; intro j a b; omega
  · rw [clearB_iff]; intro j a b; omega

/-- FnSeen. -/
theorem sel_in {f : Nat → Bool} {n : Nat} {x : Int} : x ∈ sel f n ↔ 0 ≤ x ∧ x < n ∧ f x.toNat = true := by
  simp only [sel, List.mem_map, List.mem_filter, List.mem_range]
  constructor
  · rintro ⟨i, ⟨h1, h2⟩, rfl⟩; exact ⟨by omega, by omega, by simpa using h2⟩
  · rintro ⟨h1, h2, h3⟩; exact ⟨x.toNat, ⟨by omega, h3⟩, by omega⟩
theorem seen_mem {p : List Int} {i : Int} (h : hasB p i = true) (k : Nat) (hk : k < p.length) : decide ((k : Int) ∈ seenL p i) = sees3B p i k := by
  have h' := hasB_iff.1 h
  rw [seenL_yes h]
  cases hs : sees3B p i k
  · simp only [decide_eq_false_iff_not, sel_in]
    rintro ⟨-, -, h3⟩
    have : sees3B p i k = true := sees3_iff.2 ⟨h'.1, h'.2.1, h'.2.2, by omega, by omega, h3⟩
    rw [hs] at this; cases this
  · simp only [decide_eq_true_eq, sel_in]
    obtain ⟨-, -, -, -, -, h5⟩ := sees3_iff.1 hs
    exact ⟨by omega, by omega, h5⟩
theorem seen_near {p : List Int} {i : Int} (h : hasB p i = true) (k : Nat) (hk : k < p.length) (h1 : -1 ≤ (k : Int) - i) (h2 : (k : Int) - i ≤ 1) : (k : Int) ∈ seenL p i := by
  have h' := hasB_iff.1 h
  rw [seenL_yes h, sel_in]
  exact ⟨by omega, by omega, sees_near _ _ (by omega) (by omega)⟩

/-- FnPairs. -/
theorem sum_add (f g : Nat → Int) : ∀ m, sumB (fun i => f i + g i) m = sumB f m + sumB g m
  | 0 => rfl
  | m + 1 => by simp only [sumB]; rw [sum_add f g m]; omega
theorem sum_const (c : Int) : ∀ m : Nat, sumB (fun _ => c) m = c * m
  | 0 => by simp [sumB]
  | m + 1 => by simp only [sumB]; rw [sum_const c m, show ((m + 1 : Nat) : Int) = (m : Int) + 1 by omega, Int.mul_add]; omega
def bV (b : Bool) : Int := if b then 1 else 0
theorem cnt_sum (f : Nat → Bool) : ∀ m, cntB f m = sumB (fun i => bV (f i)) m
  | 0 => rfl
  | m + 1 => by
    simp only [cntB, sumB]; rw [cnt_sum f m]
    cases f m <;> simp [bV]
theorem pair_sum {s : Nat → Nat → Bool} (hs : ∀ i k, s i k = s k i) (hd : ∀ i, s i i = true) : ∀ n, sumB (fun i => cntB (s i) n) n = n + 2 * sumB (fun k => cntB (fun i => s i k) k) n
  | 0 => by simp [sumB]
  | n + 1 => by
    have ih := pair_sum hs hd n
    have e1 : sumB (fun i => cntB (s i) (n + 1)) n = sumB (fun i => cntB (s i) n + bV (s i n)) n := sumB_congr (fun i hi => by
      simp only [cntB]; cases s i n <;> simp [bV])
    have e2 : sumB (fun i => bV (s i n)) n = cntB (fun i => s i n) n := (cnt_sum _ n).symm
    have e3 : cntB (s n) (n + 1) = cntB (fun i => s i n) n + 1 := by
      simp only [cntB, hd n, if_true]
      rw [cntB_congr (fun i _ => hs n i)]
    have f1 : ∀ F : Nat → Int, sumB F (n + 1) = sumB F n + F n := fun _ => rfl
    rw [f1, f1, e1, sum_add, e2, e3, ih]
    omega
theorem seen_len {p : List Int} (hv : validB p = true) {i : Nat} (hi : i < p.length) : ((seenL p (i : Int)).length : Int) = cntB (fun k => seesB p i k 0) p.length := by
  rw [seenL_yes (hasB_iff.2 ⟨hv, by omega, by omega⟩), sel_cnt]
  rfl
/-- The sum of what the first m points see, less themselves. -/
noncomputable def seeS (p : List Int) (m : Nat) : Int := sumB (fun i => ((seenL p (i : Int)).length : Int) - 1) m
theorem seeS_all {p : List Int} (hv : validB p = true) : seeS p p.length = 2 * pairsV p := by
  unfold seeS pairsV pairsS
  rw [if_pos hv, sumB_congr (g := fun i => cntB (fun k => seesB p i k 0) p.length + (-1)) (fun i hi => by rw [seen_len hv hi]; omega), sum_add, sum_const]
  have := pair_sum (s := fun i k => seesB p i k 0) (seesB_symm p) (sees_self p) p.length
  omega
theorem pairs_ge (p : List Int) : ∀ m : Nat, (m : Int) - 1 ≤ pairsS p m
  | 0 => by simp [pairsS, sumB]
  | 1 => by simp [pairsS, sumB, cntB]
  | m + 2 => by
    have ih := pairs_ge p (m + 1)
    have e : pairsS p (m + 2) = pairsS p (m + 1) + cntB (fun i => seesB p i (m + 1) 0) (m + 1) := rfl
    have b := (cntB_bd (fun i => seesB p i (m + 1) 0) m).1
    have e2 : cntB (fun i => seesB p i (m + 1) 0) (m + 1) = cntB (fun i => seesB p i (m + 1) 0) m + 1 := cntB_yes (sees_near _ _ (by omega) (by omega))
    omega
theorem sum_rev (f : Nat → Int) : ∀ n, sumB (fun i => f (n - 1 - i)) n = sumB f n := by
  have key : ∀ n m, m ≤ n → sumB (fun i => f (n - 1 - i)) m = sumB f n - sumB f (n - m) := by
    intro n m
    induction m with
    | zero => intro _; simp [sumB]
    | succ m ih =>
      intro h
      have e : sumB (fun i => f (n - 1 - i)) (m + 1) = sumB (fun i => f (n - 1 - i)) m + f (n - 1 - m) := rfl
      rw [e, ih (by omega)]
      have e2 : sumB f (n - m) = sumB f (n - (m + 1)) + f (n - 1 - m) := by
        rw [show n - m = (n - (m + 1)) + 1 by omega, show n - 1 - m = n - (m + 1) by omega]; rfl
      omega
  intro n
  rw [key n n (Nat.le_refl _), Nat.sub_self]
  simp [sumB]
theorem cnt_rev (f : Nat → Bool) (n : Nat) : cntB (fun i => f (n - 1 - i)) n = cntB f n := by
  rw [cnt_sum, cnt_sum]; exact sum_rev (fun i => bV (f i)) n
theorem see_rev {p : List Int} (hv : validB p = true) {i : Nat} (hi : i < p.length) : ((seenL p.reverse ((p.length - 1 - i : Nat) : Int)).length : Int) = (seenL p (i : Int)).length := by
  rw [seen_len hv hi, seen_len (rev_valid hv) (by simp; omega), List.length_reverse, ← cnt_rev (fun k => seesB p i k 0) p.length]
  refine cntB_congr (fun k hk => ?_)
  have := sees_rev (p := p) (i := i) (k := p.length - 1 - k) hi (by omega)
  rw [show p.length - 1 - (p.length - 1 - k) = k by omega] at this
  exact this
theorem pairs_rev {p : List Int} (hv : validB p = true) : pairsV (backL p) = pairsV p := by
  rw [backL_valid hv]
  have a := seeS_all hv
  have b := seeS_all (rev_valid hv)
  rw [List.length_reverse] at b
  unfold seeS at a b
  rw [← sum_rev] at b
  rw [sumB_congr (g := fun i => ((seenL p (i : Int)).length : Int) - 1) (fun i hi => by have := see_rev hv hi; omega)] at b
  omega

/-- FnEye. -/
theorem eye_laws {p : List Int} {i k : Int} (h : 0 ≤ eyeV p i k) : ∃ (I K : Nat), i = I ∧ k = K ∧ I < p.length ∧ K < p.length ∧ validB p = true ∧ eyeV p i k ≤ 50 ∧ seesB p I K (eyeV p i k) = true ∧ (∀ e : Nat, (e : Int) < eyeV p i k → seesB p I K e = false) := by
  unfold eyeV at h
  by_cases hh : (hasB p i && hasB p k) = true
  · have e : eyeV p i k = leastB (fun e => seesB p i.toNat k.toNat e) 51 := by unfold eyeV; rw [if_pos hh]
    rw [if_pos hh] at h
    simp only [Bool.and_eq_true, hasB_iff] at hh
    obtain ⟨⟨hv, a, b⟩, -, c, d⟩ := hh
    refine ⟨i.toNat, k.toNat, by omega, by omega, by omega, by omega, hv, ?_⟩
    rw [e]
    rcases leastB_cases (fun e : Nat => seesB p i.toNat k.toNat e) 51 with ⟨h1, -⟩ | ⟨m, h1, h2, h3, h4⟩
    · rw [h1] at h; omega
    · rw [h4]
      exact ⟨by omega, h2, fun e he => h3 e (by omega)⟩
  · rw [if_neg hh] at h; omega
theorem eye_self {p : List Int} {i : Int} (h : 0 ≤ eyeV p i i) : eyeV p i i = 0 := by
  obtain ⟨I, K, h1, h2, h3, h4, h5, h6, h7, h8⟩ := eye_laws h
  have : I = K := by omega
  subst this
  by_cases h0 : eyeV p i i = 0
  · exact h0
  · have := h8 0 (by omega)
    have e := sees_self p I
    rw [show ((0 : Nat) : Int) = 0 from rfl, e] at this
    cases this
theorem sees_set {p : List Int} {I K : Nat} (hI : I < p.length) (hne : I ≠ K) (y : Int) : seesB (p.set I y) I K 0 = lookB p I K y (p.getD K 0) := by
  rw [seesB_zero, set_at, if_pos ⟨rfl, hI⟩, set_at, if_neg (by omega)]
  unfold lookB
  have key : ∀ lo hi a b, (∀ j, lo < j → j < hi → j ≠ I) → clearB (p.set I y) lo hi a b = clearB p lo hi a b := by
    intro lo hi a b hj
    have e : clearP (p.set I y) lo hi a b ↔ clearP p lo hi a b := by
      constructor
      · intro h j h1 h2; have := h j h1 h2; rw [set_at, if_neg (fun hh => hj j h1 h2 hh.1)] at this; exact this
      · intro h j h1 h2; rw [set_at, if_neg (fun hh => hj j h1 h2 hh.1)]; exact h j h1 h2
    cases h1 : clearB p lo hi a b
    · rw [clearB_false] at *; rw [e]; exact h1
    · rw [clearB_iff] at *; rw [e]; exact h1
  split
  · exact key _ _ _ _ (fun j _ _ => by omega)
  · exact key _ _ _ _ (fun j _ _ => by omega)
theorem eye_zero {p : List Int} {i k : Int} (h : 0 ≤ eyeV p i k) : decide (eyeV p i k = 0) = sees3B p i k := by
  obtain ⟨I, K, h1, h2, h3, h4, h5, h6, h7, h8⟩ := eye_laws h
  cases hs : sees3B p i k
  · rw [decide_eq_false_iff_not]
    intro h0
    rw [h0] at h7
    have : sees3B p i k = true := sees3_iff.2 ⟨h5, by omega, by omega, by omega, by omega, by rw [h1, h2]; exact h7⟩
    rw [hs] at this; cases this
  · rw [decide_eq_true_iff]
    obtain ⟨-, -, -, -, -, e⟩ := sees3_iff.1 hs
    rw [h1, h2] at e
    by_cases h0 : eyeV p i k = 0
    · exact h0
    · have := h8 0 (by omega)
      simp only [Int.toNat_natCast] at e
      rw [show ((0 : Nat) : Int) = 0 from rfl, e] at this
      cases this
theorem eye_up {p : List Int} {i k : Int} (h : 0 ≤ eyeV p i k) (hne : i ≠ k) (hv : validB (p.set i.toNat (p.getD i.toNat 0 + eyeV p i k)) = true) : sees3B (p.set i.toNat (p.getD i.toNat 0 + eyeV p i k)) i k = true := by
  obtain ⟨I, K, h1, h2, h3, h4, h5, h6, h7, h8⟩ := eye_laws h
  rw [sees3_iff, set_len]
  refine ⟨hv, by omega, by omega, by omega, by omega, ?_⟩
  have e1 : i.toNat = I := by omega
  have e2 : k.toNat = K := by omega
  rw [e1, e2, sees_set h3 (by omega)]
  exact h7
theorem eye_down {p : List Int} {i k : Int} (h : 0 ≤ eyeV p i k) (hne : i ≠ k) (h0 : eyeV p i k ≠ 0) : sees3B (p.set i.toNat (p.getD i.toNat 0 + eyeV p i k - 1)) i k = false := by
  obtain ⟨I, K, h1, h2, h3, h4, h5, h6, h7, h8⟩ := eye_laws h
  cases hs : sees3B (p.set i.toNat (p.getD i.toNat 0 + eyeV p i k - 1)) i k
  · rfl
  · obtain ⟨-, -, -, -, -, e⟩ := sees3_iff.1 hs
    have e1 : i.toNat = I := by omega
    have e2 : k.toNat = K := by omega
    rw [e1, e2, sees_set h3 (by omega)] at e
    have := h8 (eyeV p i k - 1).toNat (by omega)
    unfold seesB at this
    rw [show p.getD I 0 + ((eyeV p i k - 1).toNat : Int) = p.getD I 0 + eyeV p i k - 1 by omega, e] at this
    cases this

end Go.Proofs.Ytjpcbegndnbeeaa
