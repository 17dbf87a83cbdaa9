/- Plain laws on the least errors, the fewest and the greedy points. -/
import Derived.Test.YtonehpndbbojpaaPlainW
import Derived.Test.YtonehpndbbojpaaTLeast
import Derived.Test.YtonehpndbbojpaaTBest
import Derived.Test.YtonehpndbbojpaaTGreedy
namespace Go.Proofs.Ytonehpndbbojpaa

theorem least_laws {p : List Int} {n : Int} (h : leastT p n = true) : 0 ≤ leastV p n ∧ leastV p n ≤ 99 ∧ fewV p (leastV p n) ≤ n ∧ (leastV p n = 0 ∨ n < fewV p (leastV p n - 1)) ∧ (n = 20 ∨ (0 ≤ leastV p (n + 1) ∧ leastV p (n + 1) ≤ leastV p n)) := by
  obtain ⟨e, he⟩ := least_ex h
  have h' := h
  simp only [leastT, Bool.and_eq_true, inB_iff] at h'
  obtain ⟨hv, h1, h2⟩ := h'
  rw [leastV_eq h he]
  have a1 := he.le
  have a2 := he.at_
  simp only [leastF, decide_eq_true_eq] at a2
  refine ⟨by omega, by omega, ?_, ?_, ?_⟩
  · rw [fewV_yes (fewB_iff.2 ⟨hv, by omega, by omega⟩)]; exact a2
  · by_cases e0 : e = 0
    · left; omega
    · right
      have a3 := he.below (e - 1) (by omega)
      simp only [leastF, decide_eq_false_iff_not] at a3
      rw [fewV_yes (fewB_iff.2 ⟨hv, by omega, by omega⟩), show (e : Int) - 1 = ((e - 1 : Nat) : Int) by omega]
      omega
  · by_cases h20 : n = 20
    · left; exact h20
    · right
      have hT : leastT p (n + 1) = true := by
        simp only [leastT, Bool.and_eq_true, inB_iff]
        exact ⟨hv, by omega, by omega⟩
      obtain ⟨e', he'⟩ := least_ex hT
      rw [leastV_eq hT he']
      refine ⟨by omega, ?_⟩
      rcases Nat.lt_or_ge e e' with hlt | hge
      · have := he'.below e hlt
        simp only [leastF, decide_eq_false_iff_not] at this
        omega
      · omega

theorem gre_way {p : List Int} {e : Int} (he : 0 ≤ e) : ∀ d i, p.length - 1 - i = d → i < p.length → Way (okB p e) p.length i (greL p e i) := by
  intro d
  induction d using Nat.strongRecOn with
  | ind d ih =>
    intro i hd hi0
    by_cases hi : i + 1 < p.length
    · obtain ⟨k, h1, h2, h3, -, -, h6⟩ := greL_step (p := p) he hi
      rw [h6]
      exact .step h1 h2 h3 (ih (p.length - 1 - k) (by omega) k rfl h2)
    · rw [greL_last hi]
      have e1 : i = p.length - 1 := by omega
      subst e1
      exact .last
theorem gre_thin {p : List Int} {e : Int} (hv : validB p = true) (he : 0 ≤ e) : Thin p (greL p e 0) ∧ thinE p (greL p e 0) ≤ e := by
  have hl := valid_len hv
  exact way_thin hv he (gre_way he _ 0 rfl (by omega))
theorem gre_len {p : List Int} {e : Int} (hv : validB p = true) (he : 0 ≤ e) : (fewL p e).length ≤ (greL p e 0).length := few_le (gre_thin hv he).1 (gre_thin hv he).2
theorem gre_second {p : List Int} {e : Int} (he : 0 ≤ e) (h : 1 < p.length) : 1 < (greL p e 0).length ∧ 1 < (fewL p e).length ∧ (fewL p e).getD 1 0 ≤ (greL p e 0).getD 1 0 := by
  obtain ⟨k, h1, h2, h3, h4, -, h6⟩ := greL_step (p := p) (i := 0) he (by omega)
  obtain ⟨t, ht⟩ := greL_head p e k
  obtain ⟨k', -, b1, b2, b3, b4, -⟩ := line_pick (few_ok (p := p) he) (i := 0) (by omega)
  obtain ⟨t', ht'⟩ := line_head (p := p) he b2
  unfold fewL
  rw [h6, b4, ht, ht']
  refine ⟨by simp, by simp, ?_⟩
  have hk : k' ≤ k := by
    rcases Nat.lt_or_ge k k' with hlt | hge
    · rw [h4 k' hlt b2] at b3; cases b3
    · exact hge
  simp
  omega
theorem gre_one {p : List Int} {e : Int} (hv : validB p = true) (h : ¬ 1 < p.length) : (greL p e 0).length = 1 := by
  have hl := valid_len hv
  rw [greL_last (by omega)]; rfl
theorem best_drop {p : List Int} {e : Int} {k : Nat} (h1 : 1 ≤ k) (h2 : k + 1 < (fewL p e).length) : keepB p (cutL (fewL p e) k) e = false := by
  cases hk : keepB p (cutL (fewL p e) k) e
  · rfl
  · have h := keepB_iff.1 hk
    have a := few_le h.1 h.2.2.2
    rw [cutL_len _ _ (by omega)] at a
    omega
theorem best_keep {p : List Int} {e : Int} (hv : validB p = true) (he : 0 ≤ e) (he9 : e ≤ 99) : keepB p (fewL p e) e = true := by
  have h := few_thin hv he
  exact keepB_iff.2 ⟨h.1, he, he9, h.2⟩
theorem gre_keep {p : List Int} {e : Int} (hv : validB p = true) (he : 0 ≤ e) (he9 : e ≤ 99) : keepB p (greL p e 0) e = true := by
  have h := gre_thin hv he
  exact keepB_iff.2 ⟨h.1, he, he9, h.2⟩

end Go.Proofs.Ytonehpndbbojpaa
