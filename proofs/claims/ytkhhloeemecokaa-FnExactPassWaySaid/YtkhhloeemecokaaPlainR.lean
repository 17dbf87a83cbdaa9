/- Plain words for ways over a grid: what can be reached over heights of at least a level; passes by a heap of open steps. -/
import Derived.Test.YtkhhloeemecokaaPlainP
namespace Go.Proofs.Ytkhhloeemecokaa

/-- A way from a over neighbors, all heights at least t. -/
inductive Reach (nb : Nat → List Int) (h : Nat → Int) (t : Int) (a : Nat) : Nat → Prop
  | refl : t ≤ h a → Reach nb h t a a
  | step {b c : Nat} : Reach nb h t a b → (c : Int) ∈ nb b → t ≤ h c → Reach nb h t a c
/-- A graph of N cells. -/
structure Gr (N : Nat) (nb : Nat → List Int) (h : Nat → Int) : Prop where
  inb : ∀ i, i < N → ∀ x ∈ nb i, ∃ j : Nat, x = j ∧ j < N
  sym : ∀ i j : Nat, i < N → (j : Int) ∈ nb i → (i : Int) ∈ nb j
  h0 : ∀ i, i < N → 0 ≤ h i
  conn : ∀ i j, i < N → j < N → Reach nb h 0 i j
  few : ∀ i, (nb i).length ≤ 4
def IsPass (nb : Nat → List Int) (h : Nat → Int) (a b : Nat) (p : Int) : Prop := Reach nb h p a b ∧ ∀ t, Reach nb h t a b → t ≤ p

section
variable {N : Nat} {nb : Nat → List Int} {h : Nat → Int}
theorem Gr.nat (G : Gr N nb h) {i j : Nat} (hi : i < N) (hj : (j : Int) ∈ nb i) : j < N := by
  obtain ⟨k, e, hk⟩ := G.inb i hi _ hj
  omega
theorem Reach.lt (G : Gr N nb h) {t : Int} {a b : Nat} (ha : a < N) (r : Reach nb h t a b) : b < N := by
  induction r with
  | refl _ => exact ha
  | step _ hm _ ih => exact G.nat ih hm
theorem Reach.low {t t' : Int} {a b : Nat} (r : Reach nb h t a b) (ht : t' ≤ t) : Reach nb h t' a b := by
  induction r with
  | refl q => exact .refl (by omega)
  | step _ hm q ih => exact .step ih hm (by omega)
theorem Reach.ends {t : Int} {a b : Nat} (r : Reach nb h t a b) : t ≤ h a ∧ t ≤ h b := by
  induction r with
  | refl q => exact ⟨q, q⟩
  | step _ _ q ih => exact ⟨ih.1, q⟩
theorem Reach.trans {t : Int} {a b c : Nat} (r : Reach nb h t a b) (s : Reach nb h t b c) : Reach nb h t a c := by
  induction s with
  | refl _ => exact r
  | step _ hm q ih => exact .step ih hm q
theorem Reach.symm (G : Gr N nb h) {t : Int} {a b : Nat} (ha : a < N) (r : Reach nb h t a b) : Reach nb h t b a := by
  induction r with
  | refl q => exact .refl q
  | step r hm q ih =>
    have hb := r.lt G ha
    exact Reach.trans (.step (.refl q) (G.sym _ _ hb hm) r.ends.2) ih
theorem IsPass.unique {a b : Nat} {p q : Int} (hp : IsPass nb h a b p) (hq : IsPass nb h a b q) : p = q := by
  have h1 := hp.2 q hq.1
  have h2 := hq.2 p hp.1
  omega
theorem IsPass.symm (G : Gr N nb h) {a b : Nat} {p : Int} (ha : a < N) (hp : IsPass nb h a b p) : IsPass nb h b a p :=
  ⟨hp.1.symm G ha, fun t r => hp.2 t (r.symm G (hp.1.lt G ha))⟩
theorem IsPass.nonneg (G : Gr N nb h) {a b : Nat} {p : Int} (ha : a < N) (hp : IsPass nb h a b p) : 0 ≤ p :=
  hp.2 0 (G.conn a b ha (hp.1.lt G ha))
theorem IsPass.top {a b : Nat} {p : Int} (hp : IsPass nb h a b p) : p ≤ h a ∧ p ≤ h b := hp.1.ends

/-- What holds of the known passes and the open steps; of cell c the neighbors in X are still to be looked at. -/
structure POpen (N : Nat) (nb : Nat → List Int) (h : Nat → Int) (a c : Nat) (X : List Int) (known : List Int) (L : List (Int × Int)) : Prop where
  len : known.length = N
  sound : ∀ k, k < N → known.getD k 0 < 0 ∨ IsPass nb h a k (known.getD k 0)
  steps : ∀ x ∈ L, ∃ k : Nat, x.1 = k ∧ k < N ∧ 0 ≤ x.2 ∧ Reach nb h x.2 a k
  full : ∀ k j : Nat, k < N → 0 ≤ known.getD k 0 → (j : Int) ∈ nb k → known.getD j 0 < 0 → (k = c ∧ (j : Int) ∈ X) ∨ ∃ x ∈ L, x.1 = j ∧ min (known.getD k 0) (h j) ≤ x.2
  first : known.getD a 0 < 0 → ∃ x ∈ L, x.1 = a ∧ h a ≤ x.2
theorem POpen.start (G : Gr N nb h) {a : Nat} (ha : a < N) (c : Nat) : POpen N nb h a c [] (List.replicate N (-1)) [((a : Int), h a)] := by
  have hg : ∀ k, k < N → (List.replicate N (-1 : Int)).getD k 0 = -1 := fun k hk => by
    rw [List.getD_eq_getElem?_getD, List.getElem?_eq_getElem (by simpa using hk)]; simp
  refine ⟨by simp, fun k hk => .inl (by rw [hg k hk]; decide), fun x hx => ?_, fun k j hk hp => ?_, fun _ => ⟨_, List.mem_cons_self, rfl, Int.le_refl _⟩⟩
  · simp only [List.mem_singleton] at hx
    subst hx
    exact ⟨a, rfl, ha, G.h0 a ha, .refl (Int.le_refl _)⟩
  · rw [hg k hk] at hp
    exact absurd hp (by decide)
/-- A step to a known cell is dropped. -/
theorem POpen.skip {a c : Nat} {known : List Int} {L L' : List (Int × Int)} {x : Int × Int} (p : POpen N nb h a c [] known L) (hp : (x :: L').Perm L) {k : Nat} (hk : x.1 = k) (hkn : 0 ≤ known.getD k 0) (c' : Nat) : POpen N nb h a c' [] known L' := by
  have hm : ∀ y, y ∈ L → y = x ∨ y ∈ L' := fun y hy => by simpa using hp.mem_iff.2 hy
  refine ⟨p.len, p.sound, fun y hy => p.steps y (hp.mem_iff.1 (List.mem_cons_of_mem _ hy)), fun k' j h1 h2 h3 h4 => ?_, fun h1 => ?_⟩
  · rcases p.full k' j h1 h2 h3 h4 with ⟨_, q⟩ | ⟨y, hy, e1, e2⟩
    · simp at q
    · rcases hm y hy with rfl | hy'
      · rw [hk] at e1
        have : k = j := by omega
        subst this
        omega
      · exact .inr ⟨y, hy', e1, e2⟩
  · obtain ⟨y, hy, e1, e2⟩ := p.first h1
    rcases hm y hy with rfl | hy'
    · rw [hk] at e1
      have : k = a := by omega
      subst this
      omega
    · exact ⟨y, hy', e1, e2⟩
/-- On a way to a cell that is not known stands an open step that is as good. -/
theorem POpen.front (G : Gr N nb h) {a c : Nat} {known : List Int} {L : List (Int × Int)} (p : POpen N nb h a c [] known L) (ha : a < N) {t : Int} {b : Nat} (r : Reach nb h t a b) : (known.getD b 0 < 0 → ∃ x ∈ L, t ≤ x.2) ∧ (0 ≤ known.getD b 0 → t ≤ known.getD b 0 ∨ ∃ x ∈ L, t ≤ x.2) := by
  induction r with
  | refl q =>
    refine ⟨fun hb => ?_, fun hb => ?_⟩
    · obtain ⟨x, hx, -, e⟩ := p.first hb
      exact ⟨x, hx, by omega⟩
    · rcases p.sound a ha with e | e
      · omega
      · exact .inl (e.2 t (.refl q))
  | @step b c' r hm q ih =>
    have hb := r.lt G ha
    have hc := G.nat hb hm
    refine ⟨fun hcn => ?_, fun hcn => ?_⟩
    · by_cases hbn : known.getD b 0 < 0
      · exact ih.1 hbn
      · rcases ih.2 (by omega) with e | e
        · rcases p.full b c' hb (by omega) hm hcn with ⟨_, e⟩ | ⟨x, hx, e1, e2⟩
          · simp at e
          · exact ⟨x, hx, by omega⟩
        · exact e
    · rcases p.sound c' hc with e | e
      · omega
      · exact .inl (e.2 t (.step r hm q))
/-- The greatest open step is the pass of its cell. -/
theorem POpen.take (G : Gr N nb h) {a c : Nat} {known : List Int} {L L' : List (Int × Int)} {x : Int × Int} (p : POpen N nb h a c [] known L) (ha : a < N) (hp : (x :: L').Perm L) (hmax : ∀ y ∈ L, y.2 ≤ x.2) {k : Nat} (hk : x.1 = k) (hkN : k < N) (hkn : known.getD k 0 < 0) :
    IsPass nb h a k x.2 ∧ POpen N nb h a k (nb k) (known.set k x.2) L' := by
  have hx : x ∈ L := hp.mem_iff.1 List.mem_cons_self
  have hm : ∀ y, y ∈ L → y = x ∨ y ∈ L' := fun y hy => by simpa using hp.mem_iff.2 hy
  obtain ⟨k', e1, hk', h0, hr⟩ := p.steps x hx
  have : k' = k := by omega
  subst this
  have hP : IsPass nb h a k' x.2 := by
    refine ⟨hr, fun t r => ?_⟩
    obtain ⟨y, hy, e⟩ := (p.front G ha r).1 hkn
    have := hmax y hy
    omega
  have hg : ∀ j, (known.set k' x.2).getD j 0 = if k' = j then x.2 else known.getD j 0 := fun j => by
    simp only [List.getD_eq_getElem?_getD, List.getElem?_set]
    by_cases e : k' = j
    · subst e; simp [p.len, hkN]
    · simp [e]
  refine ⟨hP, by rw [List.length_set]; exact p.len, fun j hj => ?_, fun y hy => p.steps y (hp.mem_iff.1 (List.mem_cons_of_mem _ hy)), fun i j h1 h2 h3 h4 => ?_, fun h1 => ?_⟩
  · rw [hg]
    by_cases e : k' = j
    · subst e; rw [if_pos rfl]; exact .inr hP
    · rw [if_neg e]; exact p.sound j hj
  · rw [hg] at h2 h4
    have e2 : k' ≠ j := fun e => by rw [if_pos e] at h4; omega
    rw [if_neg e2] at h4
    by_cases e : k' = i
    · subst e; exact .inl ⟨rfl, h3⟩
    · rw [if_neg e] at h2
      rcases p.full i j h1 h2 h3 h4 with ⟨_, q⟩ | ⟨y, hy, e3, e4⟩
      · simp at q
      · rcases hm y hy with rfl | hy'
        · omega
        · exact .inr ⟨y, hy', e3, by rw [hg, if_neg e]; exact e4⟩
  · rw [hg] at h1
    have e2 : k' ≠ a := fun e => by rw [if_pos e] at h1; omega
    rw [if_neg e2] at h1
    obtain ⟨y, hy, e3, e4⟩ := p.first h1
    rcases hm y hy with rfl | hy'
    · omega
    · exact ⟨y, hy', e3, e4⟩
/-- A neighbor that is known needs no step. -/
theorem POpen.pass {a c : Nat} {X known : List Int} {L : List (Int × Int)} {j : Nat} (p : POpen N nb h a c ((j : Int) :: X) known L) (hj : 0 ≤ known.getD j 0) : POpen N nb h a c X known L :=
  ⟨p.len, p.sound, p.steps, fun k i h1 h2 h3 h4 => by
    rcases p.full k i h1 h2 h3 h4 with ⟨e, q⟩ | q
    · rcases List.mem_cons.1 q with q | q
      · have : i = j := by omega
        subst this
        omega
      · exact .inl ⟨e, q⟩
    · exact .inr q, p.first⟩
/-- A step to a neighbor is put. -/
theorem POpen.put (G : Gr N nb h) {a c : Nat} {X known : List Int} {L L' : List (Int × Int)} {j : Nat} (p : POpen N nb h a c ((j : Int) :: X) known L) (hc : c < N) (hcn : 0 ≤ known.getD c 0) (hm : (j : Int) ∈ nb c) (hL : L'.Perm (((j : Int), min (known.getD c 0) (h j)) :: L)) : POpen N nb h a c X known L' := by
  have hj := G.nat hc hm
  have hin : ∀ y, y ∈ L → y ∈ L' := fun y hy => hL.mem_iff.2 (List.mem_cons_of_mem _ hy)
  refine ⟨p.len, p.sound, fun y hy => ?_, fun k i h1 h2 h3 h4 => ?_, fun h1 => ?_⟩
  · rcases List.mem_cons.1 (hL.mem_iff.1 hy) with rfl | hy'
    · have hh := G.h0 j hj
      rcases p.sound c hc with e | e
      · omega
      · exact ⟨j, rfl, hj, by simp only; omega, .step (e.1.low (by simp only; omega)) hm (by simp only; omega)⟩
    · exact p.steps y hy'
  · rcases p.full k i h1 h2 h3 h4 with ⟨e, q⟩ | ⟨y, hy, q⟩
    · rcases List.mem_cons.1 q with q | q
      · have : i = j := by omega
        subst this
        subst e
        exact .inr ⟨_, hL.mem_iff.2 List.mem_cons_self, rfl, Int.le_refl _⟩
      · exact .inl ⟨e, q⟩
    · exact .inr ⟨y, hin y hy, q⟩
  · obtain ⟨y, hy, q⟩ := p.first h1
    exact ⟨y, hin y hy, q⟩
/-- With no step left all is known. -/
theorem POpen.done (G : Gr N nb h) {a c : Nat} {known : List Int} (p : POpen N nb h a c [] known []) (ha : a < N) {b : Nat} (hb : b < N) : 0 ≤ known.getD b 0 ∧ IsPass nb h a b (known.getD b 0) := by
  have hk : ¬ known.getD b 0 < 0 := fun e => by
    obtain ⟨x, hx, -⟩ := (p.front G ha (G.conn a b ha hb)).1 e
    simp at hx
  rcases p.sound b hb with e | e
  · exact absurd e hk
  · exact ⟨by omega, e⟩
end

end Go.Proofs.Ytkhhloeemecokaa
