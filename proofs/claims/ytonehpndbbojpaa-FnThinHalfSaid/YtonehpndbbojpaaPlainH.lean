/- Plain laws: half of the points. -/
import Derived.Test.YtonehpndbbojpaaHalf
import Derived.Test.YtonehpndbbojpaaPlainSel
namespace Go.Proofs.Ytonehpndbbojpaa

theorem half_cnt (n : Nat) : ∀ k, k < n → (sel (halfT n) k).length = (k + 1) / 2
  | 0, _ => by simp [sel]
  | k + 1, h => by
    have ih := half_cnt n k (by omega)
    cases hf : halfT n k
    · rw [sel_no _ _ hf, ih]
      simp only [halfT, decide_eq_false_iff_not] at hf
      omega
    · rw [sel_yes _ _ hf, List.length_append, ih]
      simp only [halfT, decide_eq_true_eq] at hf
      simp
      omega
theorem half_laws {p : List Int} (hv : validB p = true) : Thin p (halfL p) ∧ (halfL p).length = p.length / 2 + 1 := by
  have hl := valid_len hv
  have e : halfL p = sel (halfT p.length) p.length := by simp [halfL, hv]
  rw [e]
  refine ⟨sel_thin hv (by simp [halfT]) (by simp [halfT]; omega), ?_⟩
  have h1 : halfT p.length (p.length - 1) = true := by simp [halfT]; omega
  have h2 := half_cnt p.length (p.length - 1) (by omega)
  have h3 := sel_yes _ _ h1
  rw [show p.length - 1 + 1 = p.length by omega] at h3
  rw [h3, List.length_append, h2]
  simp
  omega

end Go.Proofs.Ytonehpndbbojpaa
