/- Plain laws: selected points. -/
import Derived.Test.YtlmigoplffdpiaaPlainT
namespace Go.Proofs.Ytlmigoplffdpiaa

theorem getD_app_left (l m : List Int) (i : Nat) (h : i < l.length) : (l ++ m).getD i 0 = l.getD i 0 := by
  simp [List.getD_eq_getElem?_getD, List.getElem?_append_left h]
theorem getD_app_right (l m : List Int) (i : Nat) (h : l.length ≤ i) : (l ++ m).getD i 0 = m.getD (i - l.length) 0 := by
  simp [List.getD_eq_getElem?_getD, List.getElem?_append_right h]
theorem sel_mem {f : Nat → Bool} {m : Nat} {x : Int} : x ∈ sel f m ↔ ∃ k : Nat, k < m ∧ f k = true ∧ x = k := by
  simp only [sel, List.mem_map, List.mem_filter, List.mem_range]
  constructor
  · rintro ⟨k, ⟨h1, h2⟩, rfl⟩; exact ⟨k, h1, h2, rfl⟩
  · rintro ⟨k, h1, h2, rfl⟩; exact ⟨k, ⟨h1, h2⟩, rfl⟩
theorem sel_at_lt (f : Nat → Bool) (m : Nat) (i : Nat) (h : i < (sel f m).length) : ∃ k : Nat, k < m ∧ f k = true ∧ (sel f m).getD i 0 = k := by
  have := sel_mem.1 (List.getElem_mem h)
  obtain ⟨k, h1, h2, h3⟩ := this
  exact ⟨k, h1, h2, by simp [h, h3]⟩
theorem sel_asc (f : Nat → Bool) : ∀ m i, 1 ≤ i → i < (sel f m).length → (sel f m).getD (i - 1) 0 < (sel f m).getD i 0
  | 0, i, _, h => by simp [sel] at h
  | m + 1, i, h1, h2 => by
    cases hf : f m
    · rw [sel_no f m hf] at h2 ⊢
      exact sel_asc f m i h1 h2
    · rw [sel_yes f m hf] at h2 ⊢
      simp only [List.length_append, List.length_singleton] at h2
      by_cases hi : i < (sel f m).length
      · have := sel_asc f m i h1 hi
        rw [getD_app_left _ _ _ hi, getD_app_left _ _ _ (by omega)]
        exact this
      · have e : i = (sel f m).length := by omega
        obtain ⟨k, k1, -, k3⟩ := sel_at_lt f m (i - 1) (by omega)
        rw [getD_app_left _ _ _ (by omega), getD_app_right _ _ _ (by omega), k3, e, Nat.sub_self]
        simp
        omega
theorem sel_first {f : Nat → Bool} {m : Nat} (hm : 0 < m) (h0 : f 0 = true) : (sel f m).getD 0 0 = 0 := by
  induction m with
  | zero => omega
  | succ m ih =>
    by_cases hm0 : m = 0
    · subst hm0
      rw [sel_yes f 0 h0]; rfl
    · have ih := ih (by omega)
      cases hf : f m
      · rw [sel_no f m hf]; exact ih
      · rw [sel_yes f m hf, getD_app_left _ _ _ (sel_pos0 (by omega) h0)]; exact ih
where
  sel_pos0 {f : Nat → Bool} {m : Nat} (hm : 0 < m) (h0 : f 0 = true) : 0 < (sel f m).length := by
    apply List.length_pos_of_mem (a := ((0 : Nat) : Int))
    exact sel_mem.2 ⟨0, hm, h0, rfl⟩
theorem sel_last {f : Nat → Bool} {m : Nat} (h : f m = true) : (sel f (m + 1)).getD ((sel f (m + 1)).length - 1) 0 = m := by
  rw [sel_yes f m h]
  simp
/-- Selected points, with both ends, are a thinned profile. -/
theorem sel_thin {p : List Int} (hv : validB p = true) {f : Nat → Bool} (h0 : f 0 = true) (h1 : f (p.length - 1) = true) : Thin p (sel f p.length) := by
  have hl := valid_len hv
  have hlast := sel_last (f := f) (m := p.length - 1) h1
  rw [show p.length - 1 + 1 = p.length by omega] at hlast
  refine ⟨hv, ?_, sel_first (by omega) h0, by rw [hlast]; omega, fun i => sel_asc f p.length i⟩
  apply List.length_pos_of_mem (a := ((0 : Nat) : Int))
  exact sel_mem.2 ⟨0, by omega, h0, rfl⟩


end Go.Proofs.Ytlmigoplffdpiaa
