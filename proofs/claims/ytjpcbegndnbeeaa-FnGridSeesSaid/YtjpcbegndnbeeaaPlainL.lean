/- Plain laws on profiles: rises and falls. -/
import Derived.Test.YtjpcbegndnbeeaaPlain
namespace Go.Proofs.Ytjpcbegndnbeeaa

theorem up_dn (p : List Int) : ∀ k, 1 ≤ k → upS p k - dnS p k = p.getD (k - 1) 0 - p.getD 0 0
  | 0, h => by omega
  | 1, _ => by simp [upS, dnS]
  | k + 2, _ => by
    have ih := up_dn p (k + 1) (by omega)
    rw [upS_step p (k + 1) (by omega), dnS_step p (k + 1) (by omega)]
    simp only [Nat.add_sub_cancel] at ih ⊢
    rw [show k + 2 - 1 = k + 1 by omega]
    omega
theorem up_nonneg (p : List Int) : ∀ k, 0 ≤ upS p k ∧ 0 ≤ dnS p k
  | 0 => by simp [upS, dnS]
  | k + 1 => by
    have := up_nonneg p k
    simp only [upS, dnS]
    split <;> omega
/-- All heights up to k are the first one. -/
def levP (p : List Int) (k : Nat) : Prop := ∀ i, i < k → p.getD i 0 = p.getD 0 0
theorem levP_step (p : List Int) (k : Nat) : levP p (k + 1) ↔ levP p k ∧ p.getD k 0 = p.getD 0 0 :=
  ⟨fun h => ⟨fun i hi => h i (by omega), h k (by omega)⟩, fun h i hi => by
    by_cases e : i = k
    · subst e; exact h.2
    · exact h.1 i (by omega)⟩
theorem lev_iff (p : List Int) : ∀ k, 1 ≤ k → (upS p k + dnS p k = 0 ↔ levP p k)
  | 0, h => by omega
  | 1, _ => by
    constructor
    · intro _ i hi
      have : i = 0 := by omega
      rw [this]
    · intro _; simp [upS, dnS]
  | k + 2, _ => by
    have ih := lev_iff p (k + 1) (by omega)
    have hn := up_nonneg p (k + 1)
    rw [levP_step, ← ih, upS_step p (k + 1) (by omega), dnS_step p (k + 1) (by omega)]
    simp only [Nat.add_sub_cancel]
    constructor
    · intro h
      have h0 : upS p (k + 1) + dnS p (k + 1) = 0 := by omega
      have hl := (ih.1 h0) k (by omega)
      exact ⟨h0, by omega⟩
    · rintro ⟨h0, h1⟩
      have hl := (ih.1 h0) k (by omega)
      omega

end Go.Proofs.Ytjpcbegndnbeeaa
