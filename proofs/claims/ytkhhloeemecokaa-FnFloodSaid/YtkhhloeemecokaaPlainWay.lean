/- Plain words: the way down the steps to a cell. -/
import Derived.Test.YtkhhloeemecokaaPlainSt
namespace Go.Proofs.Ytkhhloeemecokaa

def nextB (far : List Int) (t : Int) : List Int → Nat → Nat
  | [], i => i
  | x :: X, i => if far.getD x.toNat 0 = t then x.toNat else nextB far t X i
def HB (nb : Nat → List Int) (far : List Int) (b a : Nat) : Nat → Nat
  | 0 => a
  | k + 1 => if HB nb far b a k = b then b else nextB far (far.getD (HB nb far b a k) 0 - 1) (nb (HB nb far b a k)) (HB nb far b a k)
noncomputable def wayL (N : Nat) (nb : Nat → List Int) (h : Nat → Int) (a b : Nat) : List Int :=
  (List.range (((stepsL N nb h (passV nb h a b) b).getD a 0).toNat + 1)).map (fun k => ((HB nb (stepsL N nb h (passV nb h a b) b) b a k : Nat) : Int))

theorem next_at {far : List Int} {t : Int} {i : Nat} : ∀ {X : List Int} {m : Nat}, m < X.length → (∀ q, q < m → far.getD (X.getD q 0).toNat 0 ≠ t) → far.getD (X.getD m 0).toNat 0 = t → nextB far t X i = (X.getD m 0).toNat
  | [], m, hm, _, _ => absurd hm (by simp)
  | x :: X, 0, _, _, h2 => by
    unfold nextB
    rw [if_pos (by simpa using h2)]
    rfl
  | x :: X, m + 1, hm, h1, h2 => by
    unfold nextB
    have h0 := h1 0 (by omega)
    rw [if_neg (by simpa using h0)]
    have := next_at (far := far) (t := t) (i := i) (X := X) (m := m) (by simpa using hm) (fun q hq => by have := h1 (q + 1) (by omega); simpa using this) (by simpa using h2)
    rw [this]
    rfl
theorem first_of {p : Nat → Prop} {n : Nat} : ∀ {k}, k < n → p k → ∃ m, m < n ∧ p m ∧ ∀ q, q < m → ¬ p q := by
  intro k
  induction k using Nat.strongRecOn with
  | ind k ih =>
    intro hk hp
    by_cases e : ∃ q, q < k ∧ p q
    · obtain ⟨q, h1, h2⟩ := e
      exact ih q h1 (by omega) h2
    · exact ⟨k, hk, hp, fun q hq hq' => e ⟨q, hq, hq'⟩⟩
theorem greatest_of {p : Nat → Prop} (h0 : p 0) : ∀ B : Nat, (∀ t, p t → t ≤ B) → ∃ t, p t ∧ ∀ s, p s → s ≤ t
  | 0, hB => ⟨0, h0, hB⟩
  | B + 1, hB => by
    by_cases e : p (B + 1)
    · exact ⟨B + 1, e, hB⟩
    · exact greatest_of h0 B (fun t ht => by
        have := hB t ht
        by_cases q : t = B + 1
        · subst q; exact absurd ht e
        · omega)
section
variable {N : Nat} {nb : Nat → List Int} {h : Nat → Int} {lev : Int} {b a : Nat} {far : List Int}
theorem pass_ex (G : Gr N nb h) (ha : a < N) (hb : b < N) : ∃ p, IsPass nb h a b p := by
  obtain ⟨t, h1, h2⟩ := greatest_of (p := fun t => Reach nb h (t : Int) a b) (G.conn a b ha hb) (h a).toNat (fun t r => by have := r.ends.1; omega)
  refine ⟨t, h1, fun s r => ?_⟩
  by_cases hs : s < 0
  · omega
  · have := h2 s.toNat (by rw [Int.toNat_of_nonneg (by omega)]; exact r)
    omega
theorem passV_is (G : Gr N nb h) (ha : a < N) (hb : b < N) : IsPass nb h a b (passV nb h a b) := by
  obtain ⟨p, hp⟩ := pass_ex G ha hb
  rw [passV_eq hp]
  exact hp
theorem IsSteps.next (S : IsSteps N nb h lev b far) (G : Gr N nb h) {i : Nat} (hi : i < N) (h0 : 0 < far.getD i 0) :
    ∃ m j : Nat, m < (nb i).length ∧ (nb i).getD m 0 = j ∧ j < N ∧ far.getD j 0 = far.getD i 0 - 1 ∧ (∀ q, q < m → far.getD ((nb i).getD q 0).toNat 0 ≠ far.getD i 0 - 1) ∧ nextB far (far.getD i 0 - 1) (nb i) i = j := by
  rcases S.bck i hi (by omega) with ⟨_, e⟩ | ⟨j, hj, h1, h2, h3⟩
  · omega
  · have hm := G.sym j i hj h1
    obtain ⟨k, hk1, hk2⟩ := List.mem_iff_getElem.1 hm
    have hkd : (nb i).getD k 0 = j := by rw [List.getD_eq_getElem?_getD, List.getElem?_eq_getElem hk1, hk2]; rfl
    obtain ⟨m, m1, m2, m3⟩ := first_of (p := fun q => far.getD ((nb i).getD q 0).toNat 0 = far.getD i 0 - 1) hk1 (by rw [hkd, Int.toNat_natCast]; omega)
    obtain ⟨j', e1, e2⟩ := G.inb i hi ((nb i).getD m 0) (by rw [List.getD_eq_getElem?_getD, List.getElem?_eq_getElem m1]; simp)
    have hn := next_at (far := far) (t := far.getD i 0 - 1) (i := i) m1 m3 m2
    rw [e1, Int.toNat_natCast] at m2 hn
    exact ⟨m, j', m1, e1, e2, m2, m3, hn⟩
theorem H_inv (S : IsSteps N nb h lev b far) (G : Gr N nb h) (ha : a < N) (ha0 : 0 ≤ far.getD a 0) : ∀ k, k ≤ (far.getD a 0).toNat → HB nb far b a k < N ∧ far.getD (HB nb far b a k) 0 = far.getD a 0 - k
  | 0, _ => ⟨ha, by show far.getD a 0 = _; omega⟩
  | k + 1, hk => by
    obtain ⟨h1, h2⟩ := H_inv S G ha ha0 k (by omega)
    have hp : 0 < far.getD (HB nb far b a k) 0 := by omega
    have hnb : HB nb far b a k ≠ b := fun e => by rw [e, S.b0] at hp; exact absurd hp (by decide)
    obtain ⟨m, j, -, -, e3, e4, -, e6⟩ := S.next G h1 hp
    have e : HB nb far b a (k + 1) = j := by
      show (if HB nb far b a k = b then b else _) = j
      rw [if_neg hnb]
      exact e6
    rw [e]
    exact ⟨e3, by rw [e4, h2]; omega⟩
theorem H_end (S : IsSteps N nb h lev b far) (G : Gr N nb h) (ha : a < N) (ha0 : 0 ≤ far.getD a 0) : HB nb far b a (far.getD a 0).toNat = b := by
  obtain ⟨h1, h2⟩ := H_inv S G ha ha0 _ (Nat.le_refl _)
  have h3 : far.getD (HB nb far b a (far.getD a 0).toNat) 0 = 0 := by omega
  rcases S.bck _ h1 (by omega) with ⟨e, _⟩ | ⟨i, -, -, e1, e2⟩
  · exact e
  · omega
theorem H_ne (S : IsSteps N nb h lev b far) (G : Gr N nb h) (ha : a < N) (ha0 : 0 ≤ far.getD a 0) {k : Nat} (hk : k < (far.getD a 0).toNat) : HB nb far b a k ≠ b := fun e => by
  obtain ⟨-, h2⟩ := H_inv S G ha ha0 k (by omega)
  rw [e, S.b0] at h2
  omega
/-- One step of the way. -/
theorem H_step (S : IsSteps N nb h lev b far) (G : Gr N nb h) (ha : a < N) (ha0 : 0 ≤ far.getD a 0) {k m : Nat} (hk : k < (far.getD a 0).toNat) (hm : m < (nb (HB nb far b a k)).length) (h1 : ∀ q, q < m → far.getD ((nb (HB nb far b a k)).getD q 0).toNat 0 ≠ far.getD (HB nb far b a k) 0 - 1)
    (h2 : far.getD ((nb (HB nb far b a k)).getD m 0).toNat 0 = far.getD (HB nb far b a k) 0 - 1) : HB nb far b a (k + 1) = ((nb (HB nb far b a k)).getD m 0).toNat := by
  show (if HB nb far b a k = b then b else _) = _
  rw [if_neg (H_ne S G ha ha0 hk)]
  exact next_at hm h1 h2
theorem H_some (S : IsSteps N nb h lev b far) (G : Gr N nb h) (ha : a < N) (ha0 : 0 ≤ far.getD a 0) {k : Nat} (hk : k < (far.getD a 0).toNat) (h1 : ∀ q, q < (nb (HB nb far b a k)).length → far.getD ((nb (HB nb far b a k)).getD q 0).toNat 0 ≠ far.getD (HB nb far b a k) 0 - 1) : False := by
  obtain ⟨e1, e2⟩ := H_inv S G ha ha0 k (by omega)
  obtain ⟨m, j, m1, m2, -, m3, -, -⟩ := S.next G e1 (by omega)
  have := h1 m m1
  rw [m2, Int.toNat_natCast] at this
  exact this m3
/-- The far cells of a way's level. -/
theorem way_steps (G : Gr N nb h) (ha : a < N) (hb : b < N) : IsSteps N nb h (passV nb h a b) b (stepsL N nb h (passV nb h a b) b) ∧ 0 ≤ (stepsL N nb h (passV nb h a b) b).getD a 0 := by
  have hp := passV_is G ha hb
  have S := steps_is G hb hp.top.2
  exact ⟨S, S.all a (hp.1.symm G ha)⟩
theorem way_len : (wayL N nb h a b).length = ((stepsL N nb h (passV nb h a b) b).getD a 0).toNat + 1 := by simp [wayL]
end
def hbL (f : Nat → Nat) (k : Nat) : List Int := (List.range (k + 1)).map (fun q => ((f q : Nat) : Int))
theorem hbL_succ (f : Nat → Nat) (k : Nat) : hbL f (k + 1) = hbL f k ++ [((f (k + 1) : Nat) : Int)] := by
  unfold hbL
  rw [List.range_succ, List.map_append]
  rfl
theorem hbL_len (f : Nat → Nat) (k : Nat) : (hbL f k).length = k + 1 := by simp [hbL]

end Go.Proofs.Ytkhhloeemecokaa
