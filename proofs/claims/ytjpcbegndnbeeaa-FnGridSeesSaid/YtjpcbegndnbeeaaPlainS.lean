/- Plain functions on profiles: what is seen, pairs, the eye, the hull, the best point. -/
import Derived.Test.YtjpcbegndnbeeaaPlain
namespace Go.Proofs.Ytjpcbegndnbeeaa

theorem seesB_symm (p : List Int) (i k : Nat) : seesB p i k 0 = seesB p k i 0 := by
  rw [seesB_zero, seesB_zero]
  unfold lookB
  by_cases h : i ≤ k
  · by_cases h' : k ≤ i
    · have : i = k := by omega
      subst this; rfl
    · rw [if_pos h, if_neg h']
  · rw [if_neg h, if_pos (by omega)]

noncomputable def seenL (p : List Int) (i : Int) : List Int := if hasB p i then sel (fun k => seesB p i.toNat k 0) p.length else []
theorem seenL_yes {p : List Int} {i : Int} (h : hasB p i = true) : seenL p i = sel (fun k => seesB p i.toNat k 0) p.length := by simp [seenL, h]
theorem seenL_no {p : List Int} {i : Int} (h : hasB p i = false) : seenL p i = [] := by simp [seenL, h]
theorem seenL_len (p : List Int) (i : Int) : (seenL p i).length ≤ p.length := by
  unfold seenL
  split
  · exact sel_len _ _
  · simp

noncomputable def sees3B (p : List Int) (i k : Int) : Bool := hasB p i && hasB p k && seesB p i.toNat k.toNat 0

/-- How many numbers below m pass a test. -/
def cntB (f : Nat → Bool) : Nat → Int
  | 0 => 0
  | m + 1 => cntB f m + (if f m then 1 else 0)
theorem cntB_yes {f : Nat → Bool} {m : Nat} (h : f m = true) : cntB f (m + 1) = cntB f m + 1 := by simp [cntB, h]
theorem cntB_no {f : Nat → Bool} {m : Nat} (h : f m = false) : cntB f (m + 1) = cntB f m := by simp [cntB, h]
theorem cntB_bd (f : Nat → Bool) : ∀ m, 0 ≤ cntB f m ∧ cntB f m ≤ m
  | 0 => by simp [cntB]
  | m + 1 => by
    have := cntB_bd f m
    simp only [cntB]
    split <;> omega
theorem cntB_congr {f g : Nat → Bool} : ∀ {m : Nat}, (∀ i, i < m → f i = g i) → cntB f m = cntB g m
  | 0, _ => rfl
  | m + 1, h => by
    simp only [cntB]
    rw [cntB_congr (fun i hi => h i (by omega)), h m (by omega)]
theorem sel_cnt (f : Nat → Bool) : ∀ m, ((sel f m).length : Int) = cntB f m
  | 0 => rfl
  | m + 1 => by
    cases h : f m
    · rw [sel_no f m h, cntB_no h, sel_cnt f m]
    · rw [sel_yes f m h, cntB_yes h, List.length_append, ← sel_cnt f m]; simp

/-- Sums. -/
def sumB (f : Nat → Int) : Nat → Int
  | 0 => 0
  | m + 1 => sumB f m + f m
theorem sumB_congr {f g : Nat → Int} : ∀ {m : Nat}, (∀ i, i < m → f i = g i) → sumB f m = sumB g m
  | 0, _ => rfl
  | m + 1, h => by
    simp only [sumB]
    rw [sumB_congr (fun i hi => h i (by omega)), h m (by omega)]
theorem sumB_bd {f : Nat → Int} {X : Int} (h : ∀ i, 0 ≤ f i ∧ f i ≤ X) : ∀ m : Nat, 0 ≤ sumB f m ∧ sumB f m ≤ X * m
  | 0 => by simp [sumB]
  | m + 1 => by
    have a := sumB_bd h m
    have b := h m
    simp only [sumB]
    rw [show ((m + 1 : Nat) : Int) = (m : Int) + 1 by omega, Int.mul_add]
    omega

noncomputable def pairsS (p : List Int) (m : Nat) : Int := sumB (fun k => cntB (fun i => seesB p i k 0) k) m
noncomputable def pairsV (p : List Int) : Int := if validB p then pairsS p p.length else -1
theorem pairsS_bd (p : List Int) (m : Nat) (h : m ≤ 20) : 0 ≤ pairsS p m ∧ pairsS p m ≤ 400 := by
  have aux : ∀ m : Nat, m ≤ 20 → 0 ≤ pairsS p m ∧ pairsS p m ≤ 20 * (m : Int) := by
    intro m
    induction m with
    | zero => intro _; simp [pairsS, sumB]
    | succ m ih =>
      intro h
      have a := ih (by omega)
      have b := cntB_bd (fun i => seesB p i m 0) m
      have e : pairsS p (m + 1) = pairsS p m + cntB (fun i => seesB p i m 0) m := rfl
      rw [e]
      omega
  have := aux m h
  omega

/-- The least number below n that passes a test, or -1. -/
def leastB (f : Nat → Bool) : Nat → Int
  | 0 => -1
  | n + 1 => if 0 ≤ leastB f n then leastB f n else if f n then n else -1
theorem leastB_none {f : Nat → Bool} : ∀ {n : Nat}, (∀ i, i < n → f i = false) → leastB f n = -1
  | 0, _ => rfl
  | n + 1, h => by
    simp only [leastB]
    rw [leastB_none (fun i hi => h i (by omega)), h n (by omega)]
    simp
theorem leastB_at {f : Nat → Bool} {k : Nat} (hk : f k = true) (h : ∀ i, i < k → f i = false) : ∀ {n : Nat}, k < n → leastB f n = k
  | 0, h' => by omega
  | n + 1, h' => by
    simp only [leastB]
    by_cases e : k = n
    · subst e
      rw [leastB_none h, hk]
      simp
    · rw [leastB_at hk h (n := n) (by omega), if_pos (by omega)]
theorem leastB_cases (f : Nat → Bool) : ∀ n : Nat, (leastB f n = -1 ∧ ∀ i, i < n → f i = false) ∨ ∃ k, k < n ∧ f k = true ∧ (∀ i, i < k → f i = false) ∧ leastB f n = k
  | 0 => .inl ⟨rfl, fun i hi => by omega⟩
  | n + 1 => by
    rcases leastB_cases f n with ⟨h1, h2⟩ | ⟨k, h1, h2, h3, h4⟩
    · cases h : f n
      · left
        have hh : ∀ i, i < n + 1 → f i = false := by
          intro i hi
          by_cases e : i = n
          · subst e; exact h
          · exact h2 i (by omega)
        exact ⟨leastB_none hh, hh⟩
      · right
        exact ⟨n, by omega, h, h2, leastB_at h h2 (by omega)⟩
    · right
      exact ⟨k, by omega, h2, h3, leastB_at h2 h3 (by omega)⟩

noncomputable def eyeV (p : List Int) (i k : Int) : Int := if hasB p i && hasB p k then leastB (fun e => seesB p i.toNat k.toNat e) 51 else -1

/-- The point j lies above the straight line between i and k. -/
def overB (p : List Int) (i j k : Nat) : Bool := !decide (p.getD j 0 * ((k : Int) - i) ≤ p.getD i 0 * ((k : Int) - j) + p.getD k 0 * ((j : Int) - i))
def hullP (p : List Int) (j : Nat) : Prop := ∀ i k, i < j → j < k → k < p.length → overB p i j k = true
open Classical in
noncomputable def hullB (p : List Int) (j : Nat) : Bool := decide (hullP p j)
theorem hullB_iff {p : List Int} {j : Nat} : hullB p j = true ↔ hullP p j := by simp [hullB]
theorem hullB_false {p : List Int} {j : Nat} : hullB p j = false ↔ ¬ hullP p j := by simp [hullB]
noncomputable def hullL (p : List Int) : List Int := if validB p then sel (hullB p) p.length else []
theorem hullL_yes {p : List Int} (h : validB p = true) : hullL p = sel (hullB p) p.length := by simp [hullL, h]
theorem hullL_no {p : List Int} (h : validB p = false) : hullL p = [] := by simp [hullL, h]
theorem hullL_len (p : List Int) (h : p.length ≤ 1048576) : (hullL p).length ≤ 1048576 := by
  unfold hullL
  split
  · exact Nat.le_trans (sel_len _ _) h
  · simp

/-- How many points a point sees. -/
noncomputable def seeN (p : List Int) (i : Nat) : Nat := (seenL p i).length
noncomputable def bestS (p : List Int) : Nat → Nat
  | 0 => 0
  | k + 1 => if seeN p (bestS p k) < seeN p k then k else bestS p k
noncomputable def bestV (p : List Int) : Int := if validB p then bestS p p.length else 0
theorem bestS_lt (p : List Int) : ∀ k, 0 < k → bestS p k < k
  | 0, h => by omega
  | k + 1, _ => by
    simp only [bestS]
    split
    · omega
    · by_cases e : k = 0
      · subst e; simp [bestS]
      · have := bestS_lt p k (by omega); omega
theorem sees_self (p : List Int) (i : Nat) : seesB p i i 0 = true := by
  rw [seesB_zero, lookB, if_pos (Nat.le_refl _), clearB_iff]
  intro j h1 h2; omega
theorem has_nat {p : List Int} (hv : validB p = true) {i : Nat} (hi : i < p.length) : hasB p (i : Int) = true := by
  rw [hasB_iff]; exact ⟨hv, by omega, by omega⟩
theorem seeN_eq {p : List Int} (hv : validB p = true) {i : Nat} (hi : i < p.length) : seeN p i = (sel (fun k => seesB p i k 0) p.length).length := by
  rw [seeN, seenL_yes (has_nat hv hi)]; simp
theorem sel_pos {f : Nat → Bool} {i m : Nat} (hi : i < m) (h : f i = true) : 0 < (sel f m).length := by
  apply List.length_pos_of_mem (a := (i : Int))
  simp only [sel, List.mem_map, List.mem_filter, List.mem_range]
  exact ⟨i, ⟨hi, h⟩, rfl⟩
theorem seeN_pos {p : List Int} (hv : validB p = true) {i : Nat} (hi : i < p.length) : 0 < seeN p i := by
  rw [seeN_eq hv hi]; exact sel_pos hi (sees_self p i)
theorem seeN_le (p : List Int) (i : Nat) : seeN p i ≤ p.length := seenL_len p i

end Go.Proofs.Ytjpcbegndnbeeaa
