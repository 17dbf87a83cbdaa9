/- Plain words for passes by rounds over all cells. -/
import Derived.Test.YtkhhloeemecokaaPlainR
namespace Go.Proofs.Ytkhhloeemecokaa

/-- A way of at most s steps. -/
inductive RN (nb : Nat → List Int) (h : Nat → Int) (t : Int) (a : Nat) : Nat → Nat → Prop
  | refl (s : Nat) : t ≤ h a → RN nb h t a a s
  | step {b c s : Nat} : RN nb h t a b s → (c : Int) ∈ nb b → t ≤ h c → RN nb h t a c (s + 1)

theorem countP_lt {p q : Nat → Bool} {l : List Nat} (hpq : ∀ x, p x = true → q x = true) {y : Nat} (hy : y ∈ l) (h1 : q y = true) (h2 : p y = false) : l.countP p < l.countP q := by
  induction l with
  | nil => simp at hy
  | cons z l ih =>
    have hle : l.countP p ≤ l.countP q := List.countP_mono_left (fun x _ => hpq x)
    rw [List.countP_cons, List.countP_cons]
    rcases List.mem_cons.1 hy with e | e
    · subst e
      rw [h1, h2]
      simp
      omega
    · have := ih e
      by_cases hz : p z = true
      · rw [if_pos hz, if_pos (hpq z hz)]; omega
      · rw [if_neg hz]
        split <;> omega
section
variable {N : Nat} {nb : Nat → List Int} {h : Nat → Int}
theorem RN.more {t : Int} {a b s : Nat} (r : RN nb h t a b s) : RN nb h t a b (s + 1) := by
  induction r with
  | refl s q => exact .refl _ q
  | step _ hm q ih => exact .step ih hm q
theorem RN.le {t : Int} {a b s s' : Nat} (r : RN nb h t a b s) (hs : s ≤ s') : RN nb h t a b s' := by
  induction hs with
  | refl => exact r
  | step _ ih => exact ih.more
theorem RN.reach {t : Int} {a b s : Nat} (r : RN nb h t a b s) : Reach nb h t a b := by
  induction r with
  | refl s q => exact .refl q
  | step _ hm q ih => exact .step ih hm q
theorem RN.prev {t : Int} {a b s : Nat} (r : RN nb h t a b (s + 1)) : RN nb h t a b s ∨ ∃ c, RN nb h t a c s ∧ (b : Int) ∈ nb c ∧ t ≤ h b := by
  cases r with
  | refl _ q => exact .inl (.refl _ q)
  | step r hm q => exact .inr ⟨_, r, hm, q⟩
open Classical in
theorem RN.grow (G : Gr N nb h) {t : Int} {a : Nat} (ha : a < N) (ht : t ≤ h a) : ∀ s, (∀ b, RN nb h t a b (s + 1) → RN nb h t a b s) ∨ s + 1 ≤ (List.range N).countP (fun b => decide (RN nb h t a b s))
  | 0 => .inr (List.countP_pos_iff.2 ⟨a, List.mem_range.2 ha, by simpa using RN.refl 0 ht⟩)
  | s + 1 => by
    by_cases hcl : ∀ b, RN nb h t a b (s + 1) → RN nb h t a b s
    · refine .inl (fun b r => ?_)
      rcases r.prev with e | ⟨c, e1, e2, e3⟩
      · exact e
      · exact .step (hcl c e1) e2 e3
    · rcases RN.grow G ha ht s with e | e
      · exact absurd e hcl
      · obtain ⟨b, hb⟩ := Classical.not_forall.1 hcl
        have h1 : RN nb h t a b (s + 1) := Classical.byContradiction (fun q => hb (fun z => absurd z q))
        have h2 : ¬ RN nb h t a b s := fun q => hb (fun _ => q)
        refine .inr (Nat.lt_of_le_of_lt e ?_)
        refine countP_lt (y := b) (fun x hx => ?_) (List.mem_range.2 (h1.reach.lt G ha)) (by simpa using h1) (by simpa using h2)
        simp only [decide_eq_true_eq] at hx ⊢
        exact hx.more
open Classical in
theorem Reach.rounds (G : Gr N nb h) {t : Int} {a b : Nat} (ha : a < N) (r : Reach nb h t a b) : RN nb h t a b N := by
  have hcl : ∀ b, RN nb h t a b (N + 1) → RN nb h t a b N := by
    rcases RN.grow G ha r.ends.1 N with e | e
    · exact e
    · have := List.countP_le_length (p := fun b => decide (RN nb h t a b N)) (l := List.range N)
      rw [List.length_range] at this
      omega
  induction r with
  | refl q => exact .refl _ q
  | step _ hm q ih => exact hcl _ (.step ih hm q)

/-- Within round r at cell i, of whose neighbors those in X were looked at. -/
structure RMid (N : Nat) (nb : Nat → List Int) (h : Nat → Int) (a r i : Nat) (X : List Int) (out : List Int) : Prop where
  len : out.length = N
  sound : ∀ k, k < N → out.getD k 0 < 0 ∨ Reach nb h (out.getD k 0) a k
  low : ∀ k, k < N → -1 ≤ out.getD k 0
  grown : ∀ t b, RN nb h t a b r → t ≤ out.getD b 0
  ahead : ∀ t b, b < i → RN nb h t a b (r + 1) → t ≤ out.getD b 0
  here : ∀ (t : Int) (j : Nat), (j : Int) ∈ X → RN nb h t a j r → t ≤ h i → t ≤ out.getD i 0
theorem RMid.start {a : Nat} (G : Gr N nb h) (ha : a < N) : RMid N nb h a 0 0 [] ((List.replicate N (-1)).set a (h a)) := by
  have hg : ∀ k, k < N → ((List.replicate N (-1 : Int)).set a (h a)).getD k 0 = if a = k then h a else -1 := fun k hk => by
    simp only [List.getD_eq_getElem?_getD, List.getElem?_set, List.length_replicate]
    by_cases e : a = k
    · subst e; simp [hk]
    · simp [e, hk]
  have h0 := G.h0 a ha
  refine ⟨by simp, fun k hk => ?_, fun k hk => ?_, fun t b r => ?_, fun t b hb => absurd hb (by omega), fun t j hj => by simp at hj⟩
  · rw [hg k hk]
    by_cases e : a = k
    · subst e; rw [if_pos rfl]; exact .inr (.refl (Int.le_refl _))
    · rw [if_neg e]; exact .inl (by decide)
  · rw [hg k hk]; split <;> omega
  · cases r with
    | refl _ q => rw [hg a ha, if_pos rfl]; exact q
theorem RMid.set_at {a r i : Nat} {X out : List Int} (p : RMid N nb h a r i X out) (hi : i < N) (v : Int) (k : Nat) : (out.set i v).getD k 0 = if i = k then v else out.getD k 0 := by
  simp only [List.getD_eq_getElem?_getD, List.getElem?_set]
  by_cases e : i = k
  · subst e; simp [p.len, hi]
  · simp [e]
/-- One neighbor is looked at. -/
theorem RMid.look (G : Gr N nb h) {a r i j : Nat} {X out : List Int} (p : RMid N nb h a r i X out) (hi : i < N) (hm : (j : Int) ∈ nb i) : RMid N nb h a r i (X ++ [(j : Int)]) (out.set i (max (out.getD i 0) (min (h i) (out.getD j 0)))) := by
  have hj := G.nat hi hm
  have hg := p.set_at hi (max (out.getD i 0) (min (h i) (out.getD j 0)))
  have hle : ∀ k, out.getD k 0 ≤ (out.set i (max (out.getD i 0) (min (h i) (out.getD j 0)))).getD k 0 := fun k => by
    rw [hg]
    by_cases e : i = k
    · subst e; rw [if_pos rfl]; omega
    · rw [if_neg e]; exact Int.le_refl _
  refine ⟨by rw [List.length_set]; exact p.len, fun k hk => ?_, fun k hk => Int.le_trans (p.low k hk) (hle k), fun t b q => Int.le_trans (p.grown t b q) (hle b), fun t b hb q => Int.le_trans (p.ahead t b hb q) (hle b), fun t j' hj' q ht => ?_⟩
  · rw [hg]
    by_cases e : i = k
    · subst e
      rw [if_pos rfl]
      have hh := G.h0 i hi
      by_cases e2 : min (h i) (out.getD j 0) ≤ out.getD i 0
      · rw [Int.max_eq_left e2]; exact p.sound i hi
      · rw [Int.max_eq_right (by omega)]
        rcases p.sound j hj with q | q
        · exact .inl (by omega)
        · exact .inr (.step (q.low (by omega)) (G.sym i j hi hm) (by omega))
    · rw [if_neg e]; exact p.sound k hk
  · rcases List.mem_append.1 hj' with e | e
    · exact Int.le_trans (p.here t j' e q ht) (hle i)
    · have e' : (j' : Int) = j := by simpa using e
      have : j' = j := by omega
      subst this
      have := p.grown t j' q
      rw [hg, if_pos rfl]
      omega
/-- All neighbors of a cell were looked at. -/
theorem RMid.next (G : Gr N nb h) {a r i : Nat} {out : List Int} (p : RMid N nb h a r i (nb i) out) (ha : a < N) (hi : i < N) : RMid N nb h a r (i + 1) [] out := by
  refine ⟨p.len, p.sound, p.low, p.grown, fun t b hb q => ?_, fun t j hj => by simp at hj⟩
  by_cases e : b < i
  · exact p.ahead t b e q
  · have : b = i := by omega
    subst this
    rcases q.prev with q' | ⟨c, q1, q2, q3⟩
    · exact p.grown t b q'
    · exact p.here t c (G.sym c b (q1.reach.lt G ha) q2) q1 q3
/-- A round is over. -/
theorem RMid.round (G : Gr N nb h) {a r : Nat} {out : List Int} (p : RMid N nb h a r N [] out) (ha : a < N) : RMid N nb h a (r + 1) 0 [] out :=
  ⟨p.len, p.sound, p.low, fun t b q => p.ahead t b (q.reach.lt G ha) q, fun t b hb => absurd hb (by omega), fun t j hj => by simp at hj⟩
theorem RMid.done (G : Gr N nb h) {a : Nat} {out : List Int} (p : RMid N nb h a N 0 [] out) (ha : a < N) {b : Nat} (hb : b < N) : 0 ≤ out.getD b 0 ∧ IsPass nb h a b (out.getD b 0) := by
  have h0 := p.grown 0 b ((G.conn a b ha hb).rounds G ha)
  rcases p.sound b hb with e | e
  · omega
  · exact ⟨h0, e, fun t q => p.grown t b (q.rounds G ha)⟩
end

end Go.Proofs.Ytkhhloeemecokaa
