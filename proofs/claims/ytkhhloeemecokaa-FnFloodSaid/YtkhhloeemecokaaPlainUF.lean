/- Plain words: a forest of cells; regions above a level. -/
import Derived.Test.YtkhhloeemecokaaPlainSt
namespace Go.Proofs.Ytkhhloeemecokaa

def upN (l : List Int) (i : Nat) : Nat := (l.getD i 0).toNat
inductive IsRoot (l : List Int) : Nat → Nat → Prop
  | here {i : Nat} : upN l i = i → IsRoot l i i
  | step {i r : Nat} : upN l i ≠ i → IsRoot l (upN l i) r → IsRoot l i r
/-- All entries are cells that are not greater; the roots are told by a function. -/
structure HasR (N : Nat) (l : List Int) (ρ : Nat → Nat) : Prop where
  len : l.length = N
  up : ∀ i, i < N → l.getD i 0 = (upN l i : Int) ∧ upN l i ≤ i
  rt : ∀ i, i < N → IsRoot l i (ρ i)
theorem IsRoot.unique {l : List Int} {i r s : Nat} (h : IsRoot l i r) (k : IsRoot l i s) : r = s := by
  induction h generalizing s with
  | here e => cases k with
    | here _ => rfl
    | step e2 _ => exact absurd e e2
  | step e _ ih => cases k with
    | here e2 => exact absurd e2 e
    | step _ k2 => exact ih k2
theorem IsRoot.inv {l : List Int} {i r : Nat} (h : IsRoot l i r) (e : upN l i ≠ i) : IsRoot l (upN l i) r := by
  cases h with
  | here q => exact absurd q e
  | step _ k => exact k
theorem IsRoot.root {l : List Int} {i r : Nat} (h : IsRoot l i r) : upN l r = r := by
  induction h with
  | here e => exact e
  | step _ _ ih => exact ih
theorem set_up {l : List Int} {N i : Nat} (hl : l.length = N) (hi : i < N) (v k : Nat) : upN (l.set i (v : Int)) k = if i = k then v else upN l k := by
  unfold upN
  rw [set_get (by omega)]
  split
  · simp
  · rfl
section
variable {N : Nat} {l : List Int} {ρ : Nat → Nat}
theorem HasR.le (H : HasR N l ρ) {i : Nat} (hi : i < N) : ρ i ≤ i := by
  have aux : ∀ {i r}, IsRoot l i r → i < N → r ≤ i := by
    intro i r h
    induction h with
    | here _ => intro _; exact Nat.le_refl _
    | @step i r _ _ ih =>
      intro hi
      have := (H.up i hi).2
      have := ih (by omega)
      omega
  exact aux (H.rt i hi) hi
theorem HasR.idem (H : HasR N l ρ) {i : Nat} (hi : i < N) : ρ (ρ i) = ρ i :=
  (H.rt (ρ i) (by have := H.le hi; omega)).unique (.here (H.rt i hi).root)
/-- A cell whose entry is itself. -/
theorem HasR.self (H : HasR N l ρ) {i : Nat} (hi : i < N) (e : upN l i = i) : ρ i = i := (H.rt i hi).unique (.here e)
theorem HasR.next (H : HasR N l ρ) {i : Nat} (hi : i < N) : ρ (upN l i) = ρ i := by
  by_cases e : upN l i = i
  · rw [e]
  · have hu := (H.up i hi).2
    exact (H.rt (upN l i) (by omega)).unique ((H.rt i hi).inv e)
theorem HasR.start (N : Nat) (hl : l.length = N) (h : ∀ i, i < N → l.getD i 0 = (i : Int)) : HasR N l id := by
  have hu : ∀ i, i < N → upN l i = i := fun i hi => by unfold upN; rw [h i hi]; rfl
  exact ⟨hl, fun i hi => ⟨by rw [hu i hi]; exact h i hi, by rw [hu i hi]; exact Nat.le_refl _⟩, fun i hi => .here (hu i hi)⟩
/-- Halving a path keeps all roots. -/
theorem HasR.halve (H : HasR N l ρ) {i : Nat} (hi : i < N) (hne : upN l i ≠ i) : HasR N (l.set i (upN l (upN l i) : Int)) ρ := by
  have hs := fun k => set_up H.len hi (upN l (upN l i)) k
  have hu := (H.up i hi).2
  have hu2 := (H.up (upN l i) (by omega)).2
  have aux : ∀ {j r}, IsRoot l j r → j < N → IsRoot (l.set i (upN l (upN l i) : Int)) j r := by
    intro j r h
    induction h with
    | @here j e =>
      intro _
      exact .here (by rw [hs, if_neg (fun e2 => by subst e2; exact hne e)]; exact e)
    | @step j r e k ih =>
      intro hj
      have huj := (H.up j hj).2
      have ih := ih (by omega)
      by_cases e2 : i = j
      · subst e2
        have e3 : upN (l.set i (upN l (upN l i) : Int)) (upN l i) = upN l (upN l i) := by rw [hs, if_neg (fun q => hne q.symm)]
        have e4 : upN (l.set i (upN l (upN l i) : Int)) i = upN l (upN l i) := by rw [hs, if_pos rfl]
        have hne2 : upN l (upN l i) ≠ i := by omega
        refine .step (by rw [e4]; exact hne2) ?_
        rw [e4]
        by_cases e5 : upN l (upN l i) = upN l i
        · exact Eq.mp (congrArg (fun z => IsRoot (l.set i ((upN l (upN l i) : Nat) : Int)) z r) e5.symm) ih
        · have k2 := ih.inv (by rw [e3]; exact e5)
          rw [e3] at k2
          exact k2
      · have e3 : upN (l.set i (upN l (upN l i) : Int)) j = upN l j := by rw [hs, if_neg e2]
        exact .step (by rw [e3]; exact e) (by rw [e3]; exact ih)
  refine ⟨by rw [List.length_set]; exact H.len, fun k hk => ?_, fun k hk => aux (H.rt k hk) hk⟩
  rw [hs, set_get (by rw [H.len]; exact hi)]
  by_cases e : i = k
  · subst e
    rw [if_pos rfl, if_pos rfl]
    exact ⟨rfl, by omega⟩
  · rw [if_neg e, if_neg e]
    exact H.up k hk
/-- A root is hung below another one that is less. -/
theorem HasR.hang (H : HasR N l ρ) {a b : Nat} (ha : upN l a = a) (hb : upN l b = b) (hab : a < b) (hbN : b < N) : HasR N (l.set b (a : Int)) (fun j => if ρ j = b then a else ρ j) := by
  have hs := fun k => set_up H.len hbN a k
  have aux : ∀ {j r}, IsRoot l j r → IsRoot (l.set b (a : Int)) j (if r = b then a else r) := by
    intro j r h
    induction h with
    | @here j e =>
      by_cases e2 : j = b
      · subst e2
        rw [if_pos rfl]
        have e3 : upN (l.set j (a : Int)) j = a := by rw [hs, if_pos rfl]
        refine .step (by rw [e3]; omega) ?_
        rw [e3]
        exact .here (by rw [hs, if_neg (by omega)]; exact ha)
      · rw [if_neg e2]
        exact .here (by rw [hs, if_neg (fun q => e2 q.symm)]; exact e)
    | @step j r e k ih =>
      have e2 : b ≠ j := fun q => by subst q; exact e hb
      have e3 : upN (l.set b (a : Int)) j = upN l j := by rw [hs, if_neg e2]
      exact .step (by rw [e3]; exact e) (by rw [e3]; exact ih)
  refine ⟨by rw [List.length_set]; exact H.len, fun k hk => ?_, fun k hk => aux (H.rt k hk)⟩
  rw [hs, set_get (by rw [H.len]; exact hbN)]
  by_cases e : b = k
  · subst e
    rw [if_pos rfl, if_pos rfl]
    exact ⟨rfl, by omega⟩
  · rw [if_neg e, if_neg e]
    exact H.up k hk
end
/-- The roots behind a join. -/
def joinR (ρ : Nat → Nat) (a b : Nat) (j : Nat) : Nat :=
  if ρ a < ρ b then (if ρ j = ρ b then ρ a else ρ j) else (if ρ j = ρ a then ρ b else ρ j)
theorem joinR_both (ρ : Nat → Nat) (a b : Nat) : joinR ρ a b a = joinR ρ a b b := by
  unfold joinR
  split <;> split <;> split <;> simp_all
theorem joinR_keep {ρ : Nat → Nat} {a b x y : Nat} (h : ρ x = ρ y) : joinR ρ a b x = joinR ρ a b y := by
  unfold joinR
  rw [h]
/-- Sets hold together what can be reached over the level. -/
def SoundR (N : Nat) (nb : Nat → List Int) (h : Nat → Int) (lev : Int) (ρ : Nat → Nat) : Prop := ∀ x, x < N → ρ x < N ∧ (x = ρ x ∨ Reach nb h lev x (ρ x))
section
variable {N : Nat} {nb : Nat → List Int} {h : Nat → Int} {lev : Int} {ρ : Nat → Nat}
theorem SoundR.id (N : Nat) (nb : Nat → List Int) (h : Nat → Int) (lev : Int) : SoundR N nb h lev id := fun _ hx => ⟨hx, .inl rfl⟩
theorem SoundR.both (S : SoundR N nb h lev ρ) (G : Gr N nb h) {x y : Nat} (hx : x < N) (hy : y < N) (lx : lev ≤ h x) (ly : lev ≤ h y) (e : ρ x = ρ y) : Reach nb h lev x y := by
  have r1 : Reach nb h lev x (ρ x) := by
    rcases (S x hx).2 with q | q
    · rw [← q]; exact .refl lx
    · exact q
  have r2 : Reach nb h lev y (ρ y) := by
    rcases (S y hy).2 with q | q
    · rw [← q]; exact .refl ly
    · exact q
  rw [e] at r1
  exact r1.trans (r2.symm G hy)
theorem SoundR.join (S : SoundR N nb h lev ρ) (G : Gr N nb h) {a b : Nat} (ha : a < N) (hb : b < N) (la : lev ≤ h a) (lb : lev ≤ h b) (hm : (b : Int) ∈ nb a) : SoundR N nb h lev (joinR ρ a b) := by
  have rab : Reach nb h lev a b := .step (.refl la) hm lb
  have toRoot : ∀ x, x < N → lev ≤ h x → Reach nb h lev x (ρ x) := fun x hx lx => by
    rcases (S x hx).2 with q | q
    · rw [← q]; exact .refl lx
    · exact q
  have r1 : Reach nb h lev (ρ b) (ρ a) := ((toRoot b hb lb).symm G hb).trans ((rab.symm G ha).trans (toRoot a ha la))
  have r2 : Reach nb h lev (ρ a) (ρ b) := r1.symm G (S b hb).1
  intro x hx
  obtain ⟨s1, s2⟩ := S x hx
  have go : ∀ p q, p < N → q < N → ρ x = p → Reach nb h lev p q → q < N ∧ (x = q ∨ Reach nb h lev x q) := fun p q hp hq e r => by
    refine ⟨hq, .inr ?_⟩
    rcases s2 with t | t
    · rw [t, e]; exact r
    · rw [e] at t; exact t.trans r
  unfold joinR
  split
  · split
    · exact go _ _ (S b hb).1 (S a ha).1 (by assumption) r1
    · exact ⟨s1, s2⟩
  · split
    · exact go _ _ (S a ha).1 (S b hb).1 (by assumption) r2
    · exact ⟨s1, s2⟩
/-- All edges of the land were joined. -/
theorem reach_root (G : Gr N nb h) (E : ∀ i, i < N → ∀ j : Nat, (j : Int) ∈ nb i → lev ≤ h i → lev ≤ h j → ρ i = ρ j) {x y : Nat} (hx : x < N) (r : Reach nb h lev x y) : ρ x = ρ y := by
  induction r with
  | refl _ => rfl
  | step r hm hl ih =>
    rw [ih]
    exact E _ (r.lt G hx) _ hm r.ends.2 hl
end
/-- What numbers of regions are. -/
structure RegOk (N : Nat) (nb : Nat → List Int) (h : Nat → Int) (lev : Int) (num : List Int) : Prop where
  len : num.length = N
  sea : ∀ i, i < N → h i < lev → num.getD i 0 = -1
  land : ∀ i, i < N → lev ≤ h i → 0 ≤ num.getD i 0
  same : ∀ i j, i < N → j < N → lev ≤ h i → lev ≤ h j → (num.getD i 0 = num.getD j 0 ↔ Reach nb h lev i j)
theorem RegOk.both {N : Nat} {nb : Nat → List Int} {h : Nat → Int} {lev : Int} {num : List Int} (R : RegOk N nb h lev num) {a b : Nat} (ha : a < N) (hb : b < N) : (0 ≤ num.getD a 0 ∧ num.getD a 0 = num.getD b 0) ↔ Reach nb h lev a b := by
  constructor
  · rintro ⟨h1, h2⟩
    have la : lev ≤ h a := by
      by_cases e : lev ≤ h a
      · exact e
      · have := R.sea a ha (by omega); omega
    have lb : lev ≤ h b := by
      by_cases e : lev ≤ h b
      · exact e
      · have := R.sea b hb (by omega); omega
    exact (R.same a b ha hb la lb).1 h2
  · intro r
    obtain ⟨la, lb⟩ := r.ends
    exact ⟨R.land a ha la, (R.same a b ha hb la lb).2 r⟩
/-- The first k cells are numbered after their roots. -/
structure NumR (N : Nat) (h : Nat → Int) (lev : Int) (ρ : Nat → Nat) (k cnt : Nat) (num : List Int) : Prop where
  len : num.length = N
  sea : ∀ i, i < k → h i < lev → num.getD i 0 = -1
  land : ∀ i, i < k → lev ≤ h i → 0 ≤ num.getD i 0 ∧ num.getD i 0 < cnt
  same : ∀ i j, i < k → j < k → lev ≤ h i → lev ≤ h j → (num.getD i 0 = num.getD j 0 ↔ ρ i = ρ j)
  few : cnt ≤ k
section
variable {N : Nat} {nb : Nat → List Int} {h : Nat → Int} {lev : Int} {ρ : Nat → Nat} {k cnt : Nat} {num : List Int}
theorem NumR.put (p : NumR N h lev ρ k cnt num) (hk : k < N) (v : Int) (cnt' : Nat) (hc : cnt ≤ cnt') (hc2 : cnt' ≤ k + 1) (h1 : h k < lev → v = -1) (h2 : lev ≤ h k → 0 ≤ v ∧ v < cnt') (h3 : ∀ i, i < k → lev ≤ h i → lev ≤ h k → (num.getD i 0 = v ↔ ρ i = ρ k)) : NumR N h lev ρ (k + 1) cnt' (num.set k v) := by
  have hg := fun i => set_get (l := num) (i := k) (by rw [p.len]; exact hk) v i
  refine ⟨by rw [List.length_set]; exact p.len, fun i hi hl => ?_, fun i hi hl => ?_, fun i j hi hj li lj => ?_, hc2⟩
  · rw [hg]
    by_cases e : k = i
    · subst e; rw [if_pos rfl]; exact h1 hl
    · rw [if_neg e]; exact p.sea i (by omega) hl
  · rw [hg]
    by_cases e : k = i
    · subst e; rw [if_pos rfl]; exact h2 hl
    · rw [if_neg e]
      have := p.land i (by omega) hl
      omega
  · rw [hg, hg]
    by_cases e : k = i
    · subst e
      rw [if_pos rfl]
      by_cases e2 : k = j
      · subst e2; rw [if_pos rfl]; simp
      · rw [if_neg e2]
        have := h3 j (by omega) lj li
        exact ⟨fun q => (this.1 q.symm).symm, fun q => (this.2 q.symm).symm⟩
    · rw [if_neg e]
      by_cases e2 : k = j
      · subst e2; rw [if_pos rfl]; exact h3 i (by omega) li lj
      · rw [if_neg e2]; exact p.same i j (by omega) (by omega) li lj
theorem NumR.sea' (p : NumR N h lev ρ k cnt num) (hk : k < N) (hl : h k < lev) : NumR N h lev ρ (k + 1) cnt (num.set k (-1)) :=
  p.put hk _ cnt (Nat.le_refl _) (by have := p.few; omega) (fun _ => rfl) (fun q => by omega) (fun i _ _ q => by omega)
theorem NumR.new (p : NumR N h lev ρ k cnt num) (hk : k < N) (hl : lev ≤ h k) (hr : ρ k = k) (hle : ∀ i, i < N → ρ i ≤ i) : NumR N h lev ρ (k + 1) (cnt + 1) (num.set k (cnt : Int)) :=
  p.put hk _ (cnt + 1) (by omega) (by have := p.few; omega) (fun q => by omega) (fun _ => by omega) (fun i hi li _ => by
    have := p.land i hi li
    have := hle i (by omega)
    constructor
    · intro q; omega
    · intro q; omega)
theorem NumR.old (p : NumR N h lev ρ k cnt num) (hk : k < N) (hl : lev ≤ h k) (hr : ρ k < k) (hid : ρ (ρ k) = ρ k) (hrl : lev ≤ h (ρ k)) : NumR N h lev ρ (k + 1) cnt (num.set k (num.getD (ρ k) 0)) :=
  p.put hk _ cnt (Nat.le_refl _) (by have := p.few; omega) (fun q => by omega) (fun _ => p.land _ hr hrl) (fun i hi li _ => by
    rw [p.same i (ρ k) hi hr li hrl, hid])
theorem NumR.done (p : NumR N h lev ρ N cnt num) (G : Gr N nb h) (S : SoundR N nb h lev ρ) (E : ∀ i, i < N → ∀ j : Nat, (j : Int) ∈ nb i → lev ≤ h i → lev ≤ h j → ρ i = ρ j) : RegOk N nb h lev num :=
  ⟨p.len, p.sea, fun i hi hl => (p.land i hi hl).1, fun i j hi hj li lj => (p.same i j hi hj li lj).trans ⟨fun e => S.both G hi hj li lj e, fun r => reach_root G E hi r⟩⟩
end

end Go.Proofs.Ytkhhloeemecokaa
