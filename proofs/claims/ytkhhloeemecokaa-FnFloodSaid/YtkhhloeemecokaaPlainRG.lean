/- A grid as a graph. -/
import Derived.Test.YtkhhloeemecokaaPlainRR
import Derived.Test.YtkhhloeemecokaaNear0
namespace Go.Proofs.Ytkhhloeemecokaa

def hgtG (g : List (List Int)) (C i : Nat) : Int := cellG g (i / C) (i % C)
theorem mem_near {n C i j : Nat} : (j : Int) ∈ nearL n C i ↔ (C ≤ i ∧ j + C = i) ∨ (i % C + 1 < C ∧ j = i + 1) ∨ (i < C * (n - 1) ∧ j = i + C) ∨ (0 < i % C ∧ j + 1 = i) := by
  unfold nearL
  simp only [List.mem_append]
  have hs : ∀ (c : Prop) [Decidable c] (x : Int), ((j : Int) ∈ (if c then [x] else [])) ↔ c ∧ (j : Int) = x := fun c _ x => by
    by_cases e : c <;> simp [e]
  rw [hs, hs, hs, hs]
  have h4 : 0 < i % C → 0 < i := fun e => Nat.pos_of_ne_zero (fun z => by subst z; simp at e)
  constructor
  · rintro (⟨a, b⟩ | ⟨a, b⟩ | ⟨a, b⟩ | ⟨a, b⟩)
    · exact .inl ⟨a, by omega⟩
    · exact .inr (.inl ⟨a, by omega⟩)
    · exact .inr (.inr (.inl ⟨a, by omega⟩))
    · have := h4 a; exact .inr (.inr (.inr ⟨a, by omega⟩))
  · rintro (⟨a, b⟩ | ⟨a, b⟩ | ⟨a, b⟩ | ⟨a, b⟩)
    · exact .inl ⟨a, by omega⟩
    · exact .inr (.inl ⟨a, by omega⟩)
    · exact .inr (.inr (.inl ⟨a, by omega⟩))
    · exact .inr (.inr (.inr ⟨a, by omega⟩))
theorem mod_up {i C : Nat} (h : i % C + 1 < C) : (i + 1) % C = i % C + 1 := by
  have e := Nat.div_add_mod i C
  rw [show i + 1 = C * (i / C) + (i % C + 1) by omega, Nat.mul_add_mod, Nat.mod_eq_of_lt h]
theorem mod_dn {i C : Nat} (h : 0 < i % C) (hC : 0 < C) : (i - 1) % C = i % C - 1 := by
  have e := Nat.div_add_mod i C
  have hl := Nat.mod_lt i hC
  rw [show i - 1 = C * (i / C) + (i % C - 1) by omega, Nat.mul_add_mod, Nat.mod_eq_of_lt (by omega)]
theorem lt_up {i n C : Nat} (hi : i < n * C) (h : i % C + 1 < C) : i + 1 < n * C := by
  have e := Nat.div_add_mod i C
  have hq : i / C < n := Nat.div_lt_of_lt_mul (by rw [Nat.mul_comm]; exact hi)
  have := Nat.mul_le_mul_left C (show i / C + 1 ≤ n by omega)
  rw [Nat.mul_add, Nat.mul_comm C n] at this
  omega
theorem grGrid (g : List (List Int)) (n C : Nat) (hn : 1 ≤ n) (hC : 1 ≤ C) (h0 : ∀ i, i < n * C → 0 ≤ hgtG g C i) : Gr (n * C) (nearL n C) (hgtG g C) := by
  have hk : C * (n - 1) + C = n * C := by
    obtain ⟨m, rfl⟩ : ∃ m, n = m + 1 := ⟨n - 1, by omega⟩
    rw [Nat.add_sub_cancel, Nat.add_mul, Nat.mul_comm]
    omega
  have hsym : ∀ i j : Nat, i < n * C → (j : Int) ∈ nearL n C i → (i : Int) ∈ nearL n C j := by
    intro i j hi hj
    rw [mem_near] at hj ⊢
    rcases hj with ⟨a, b⟩ | ⟨a, b⟩ | ⟨a, b⟩ | ⟨a, b⟩
    · exact .inr (.inr (.inl ⟨by omega, by omega⟩))
    · subst b
      exact .inr (.inr (.inr ⟨by rw [mod_up a]; omega, rfl⟩))
    · exact .inl ⟨by omega, by omega⟩
    · have e : j = i - 1 := by omega
      have hl := Nat.mod_lt i hC
      exact .inr (.inl ⟨by rw [e, mod_dn a hC]; omega, by omega⟩)
  have hin : ∀ i, i < n * C → ∀ x ∈ nearL n C i, ∃ j : Nat, x = j ∧ j < n * C := by
    intro i hi x hx
    have hx0 : 0 ≤ x := by
      unfold nearL at hx
      simp only [List.mem_append] at hx
      have hs : ∀ (c : Prop) [Decidable c] (y : Int), (x ∈ (if c then [y] else [])) ↔ c ∧ x = y := fun c _ y => by
        by_cases e : c <;> simp [e]
      rw [hs, hs, hs, hs] at hx
      have h4 : 0 < i % C → 0 < i := fun e => Nat.pos_of_ne_zero (fun z => by subst z; simp at e)
      rcases hx with ⟨a, b⟩ | ⟨a, b⟩ | ⟨a, b⟩ | ⟨a, b⟩
      · omega
      · omega
      · omega
      · have := h4 a; omega
    obtain ⟨j, rfl⟩ : ∃ j : Nat, x = j := ⟨x.toNat, by omega⟩
    refine ⟨j, rfl, ?_⟩
    rcases mem_near.1 hx with ⟨a, b⟩ | ⟨a, b⟩ | ⟨a, b⟩ | ⟨a, b⟩
    · omega
    · subst b; exact lt_up hi a
    · omega
    · omega
  have hpr : ∀ i, 0 < i → i < n * C → ∃ j, j < i ∧ (j : Int) ∈ nearL n C i := by
    intro i hi hlt
    by_cases e : 0 < i % C
    · exact ⟨i - 1, by omega, mem_near.2 (.inr (.inr (.inr ⟨e, by omega⟩)))⟩
    · have hd := Nat.div_add_mod i C
      have : C ≤ i := by
        by_cases q : i / C = 0
        · rw [q] at hd; omega
        · have := Nat.mul_le_mul_left C (Nat.pos_of_ne_zero q)
          omega
      exact ⟨i - C, by omega, mem_near.2 (.inl ⟨this, by omega⟩)⟩
  have hto : ∀ i, i < n * C → Reach (nearL n C) (hgtG g C) 0 i 0 ∧ Reach (nearL n C) (hgtG g C) 0 0 i := by
    intro i
    induction i using Nat.strongRecOn with
    | ind i ih =>
      intro hi
      by_cases e : i = 0
      · subst e; exact ⟨.refl (h0 0 hi), .refl (h0 0 hi)⟩
      · obtain ⟨j, hj, hm⟩ := hpr i (by omega) hi
        obtain ⟨r1, r2⟩ := ih j hj (by omega)
        exact ⟨Reach.trans (.step (.refl (h0 i hi)) hm (h0 j (by omega))) r1, .step r2 (hsym i j hi hm) (h0 i hi)⟩
  exact ⟨hin, hsym, h0, fun i j hi hj => (hto i hi).1.trans (hto j hj).2, nearL_len n C⟩

end Go.Proofs.Ytkhhloeemecokaa
