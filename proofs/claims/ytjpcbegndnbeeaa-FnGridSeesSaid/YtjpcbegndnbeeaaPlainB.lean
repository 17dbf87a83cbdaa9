/- Plain laws on profiles: backwards. -/
import Derived.Test.YtjpcbegndnbeeaaBack
import Derived.Test.YtjpcbegndnbeeaaPlainL
namespace Go.Proofs.Ytjpcbegndnbeeaa

theorem rev_getD (p : List Int) (i : Nat) (h : i < p.length) : p.reverse.getD i 0 = p.getD (p.length - 1 - i) 0 := by
  simp [List.getElem?_reverse h]
theorem rev_valid {p : List Int} (h : validB p = true) : validB p.reverse = true := by
  have hl := valid_len h
  refine valid_mk (by simp; omega) (by simp; omega) (fun i hi => ?_)
  rw [rev_getD p i (by simpa using hi)]
  exact valid_ht' h _
theorem backL_valid {p : List Int} (h : validB p = true) : backL p = p.reverse := by simp [backL, h]

/-- Rises of the first k steps are falls of the last ones. -/
theorem rev_up (p : List Int) : ∀ k, k + 1 ≤ p.length → upS p.reverse (k + 1) = dnS p p.length - dnS p (p.length - k) ∧ dnS p.reverse (k + 1) = upS p p.length - upS p (p.length - k)
  | 0, h => by simp [upS, dnS]
  | k + 1, h => by
    obtain ⟨ih1, ih2⟩ := rev_up p k (by omega)
    rw [upS_step _ (k + 1) (by omega), dnS_step _ (k + 1) (by omega), ih1, ih2]
    rw [rev_getD p (k + 1) (by omega), rev_getD p (k + 1 - 1) (by omega)]
    have e : p.length - k = (p.length - (k + 1)) + 1 := by omega
    have a := upS_step p (p.length - (k + 1)) (by omega)
    have b := dnS_step p (p.length - (k + 1)) (by omega)
    rw [e, a, b]
    rw [show p.length - 1 - (k + 1) = p.length - (k + 1) - 1 by omega, show p.length - 1 - (k + 1 - 1) = p.length - (k + 1) by omega]
    omega

theorem back_laws {p : List Int} (h : validB p = true) : backL (backL p) = p ∧ validB (backL p) = true ∧ upV (backL p) = dnV p ∧ dnV (backL p) = upV p := by
  have hl := valid_len h
  have hr := rev_valid h
  rw [backL_valid h]
  refine ⟨by rw [backL_valid hr, List.reverse_reverse], hr, ?_, ?_⟩
  · have := (rev_up p (p.length - 1) (by omega)).1
    rw [show p.length - 1 + 1 = p.length by omega, show p.length - (p.length - 1) = 1 by omega] at this
    simp only [upV, dnV, hr, h, if_true, List.length_reverse]
    rw [this]
    simp [dnS]
  · have := (rev_up p (p.length - 1) (by omega)).2
    rw [show p.length - 1 + 1 = p.length by omega, show p.length - (p.length - 1) = 1 by omega] at this
    simp only [upV, dnV, hr, h, if_true, List.length_reverse]
    rw [this]
    simp [upS]

end Go.Proofs.Ytjpcbegndnbeeaa
