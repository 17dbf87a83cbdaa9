/- Plain words: regions by flooding. -/
import Derived.Test.YtkhhloeemecokaaPlainUF
namespace Go.Proofs.Ytkhhloeemecokaa

/-- The cells before i are numbered. -/
structure FIn (N : Nat) (nb : Nat → List Int) (h : Nat → Int) (lev : Int) (i n : Nat) (out : List Int) : Prop where
  len : out.length = N
  ge : ∀ j, j < N → -1 ≤ out.getD j 0
  lt : ∀ j, j < N → out.getD j 0 < n
  low : ∀ j, j < N → 0 ≤ out.getD j 0 → lev ≤ h j
  done : ∀ j, j < i → lev ≤ h j → 0 ≤ out.getD j 0
  clos : ∀ x, x < N → 0 ≤ out.getD x 0 → ∀ y : Nat, (y : Int) ∈ nb x → lev ≤ h y → out.getD y 0 = out.getD x 0
  conn : ∀ x y, x < N → y < N → 0 ≤ out.getD x 0 → out.getD x 0 = out.getD y 0 → Reach nb h lev x y
  few : n ≤ i
/-- The cell i is flooded with the number n: k cells of the list were looked at; of the last one's (c) neighbors those in X are still to be looked at. -/
structure FMid (N : Nat) (nb : Nat → List Int) (h : Nat → Int) (lev : Int) (i n k c : Nat) (X out list : List Int) : Prop where
  len : out.length = N
  kle : k ≤ list.length
  cnt : list.length + unkN out ≤ N
  mem : ∀ x ∈ list, ∃ j : Nat, x = j ∧ j < N ∧ out.getD j 0 = n
  inl : ∀ j, j < N → out.getD j 0 = n → (j : Int) ∈ list
  ge : ∀ j, j < N → -1 ≤ out.getD j 0
  le : ∀ j, j < N → out.getD j 0 ≤ n
  low : ∀ j, j < N → 0 ≤ out.getD j 0 → lev ≤ h j
  done : ∀ j, j < i + 1 → lev ≤ h j → 0 ≤ out.getD j 0
  old : ∀ x, x < N → 0 ≤ out.getD x 0 → out.getD x 0 < n → ∀ y : Nat, (y : Int) ∈ nb x → lev ≤ h y → out.getD y 0 = out.getD x 0
  conn : ∀ x y, x < N → y < N → 0 ≤ out.getD x 0 → out.getD x 0 < n → out.getD x 0 = out.getD y 0 → Reach nb h lev x y
  root : ∀ j, j < N → out.getD j 0 = n → Reach nb h lev i j
  full : ∀ m, m < k → ∀ a : Nat, list.getD m 0 = a → ∀ j : Nat, (j : Int) ∈ nb a → lev ≤ h j → out.getD j 0 = n ∨ (a = c ∧ (j : Int) ∈ X)
  few : n ≤ i
section
variable {N : Nat} {nb : Nat → List Int} {h : Nat → Int} {lev : Int} {i n : Nat}
theorem FIn.start : FIn N nb h lev 0 0 (List.replicate N (-1)) := by
  have hg : ∀ k, k < N → (List.replicate N (-1 : Int)).getD k 0 = -1 := fun k hk => by
    rw [List.getD_eq_getElem?_getD, List.getElem?_eq_getElem (by simpa using hk)]; simp
  refine ⟨by simp, fun j hj => by rw [hg j hj]; decide, fun j hj => by rw [hg j hj]; decide, fun j hj q => ?_, fun j hj => absurd hj (by omega), fun x hx q => ?_, fun x y hx hy q => ?_, Nat.le_refl _⟩
  · rw [hg j hj] at q; exact absurd q (by decide)
  · rw [hg x hx] at q; exact absurd q (by decide)
  · rw [hg x hx] at q; exact absurd q (by decide)
theorem FIn.skip {out : List Int} (p : FIn N nb h lev i n out) (hs : 0 ≤ out.getD i 0 ∨ h i < lev) : FIn N nb h lev (i + 1) n out :=
  ⟨p.len, p.ge, p.lt, p.low, fun j hj hl => by
    by_cases e : j = i
    · subst e
      rcases hs with q | q
      · exact q
      · omega
    · exact p.done j (by omega) hl, p.clos, p.conn, by have := p.few; omega⟩
theorem FIn.flood {out : List Int} (p : FIn N nb h lev i n out) (hi : i < N) (h1 : out.getD i 0 < 0) (h2 : lev ≤ h i) (c : Nat) : FMid N nb h lev i n 0 c [] (out.set i (n : Int)) [(i : Int)] := by
  have hg := fun k => set_get (l := out) (i := i) (by rw [p.len]; exact hi) (n : Int) k
  have hne : ∀ x, 0 ≤ out.getD x 0 → i ≠ x := fun x q e => by subst e; omega
  refine ⟨by rw [List.length_set]; exact p.len, Nat.zero_le _, ?_, fun x hx => ?_, fun j hj q => ?_, fun j hj => ?_, fun j hj => ?_, fun j hj q => ?_, fun j hj hl => ?_, fun x hx q1 q2 y hy hl => ?_, fun x y hx hy q1 q2 q3 => ?_, fun j hj q => ?_, fun m hm => absurd hm (by omega), p.few⟩
  · have := unk_set (l := out) (k := i) (by rw [p.len]; exact hi) h1 (p := (n : Int)) (by omega)
    have := unk_le out
    rw [p.len] at this
    simp only [List.length_cons, List.length_nil]
    omega
  · have : x = i := by simpa using hx
    exact ⟨i, this, hi, by rw [hg, if_pos rfl]⟩
  · rw [hg] at q
    by_cases e : i = j
    · subst e; simp
    · rw [if_neg e] at q
      have := p.lt j hj
      omega
  · rw [hg]; have := p.ge j hj; split <;> omega
  · rw [hg]; have := p.lt j hj; split <;> omega
  · rw [hg] at q
    by_cases e : i = j
    · subst e; exact h2
    · rw [if_neg e] at q; exact p.low j hj q
  · rw [hg]
    by_cases e : i = j
    · rw [if_pos e]; omega
    · rw [if_neg e]; exact p.done j (by omega) hl
  · rw [hg] at q1 q2
    by_cases e : i = x
    · rw [if_pos e] at q2; omega
    · rw [if_neg e] at q1
      have h3 := p.clos x hx q1 y hy hl
      rw [hg, hg, if_neg e, if_neg (hne y (by omega))]
      exact h3
  · rw [hg] at q1 q2 q3
    by_cases e : i = x
    · rw [if_pos e] at q2; omega
    · rw [if_neg e] at q1 q3 q2
      rw [hg] at q3
      by_cases e2 : i = y
      · rw [if_pos e2] at q3; omega
      · rw [if_neg e2] at q3; exact p.conn x y hx hy q1 q3
  · rw [hg] at q
    by_cases e : i = j
    · subst e; exact .refl h2
    · rw [if_neg e] at q
      have := p.lt j hj
      omega
theorem FMid.enter {k c c' : Nat} {out list : List Int} (p : FMid N nb h lev i n k c' [] out list) (hk : k < list.length) (hc : list.getD k 0 = c) : FMid N nb h lev i n (k + 1) c (nb c) out list :=
  ⟨p.len, hk, p.cnt, p.mem, p.inl, p.ge, p.le, p.low, p.done, p.old, p.conn, p.root, fun m hm a ha j hj hl => by
    by_cases e : m = k
    · subst e
      rw [hc] at ha
      have : a = c := by omega
      subst this
      exact .inr ⟨rfl, hj⟩
    · rcases p.full m (by omega) a ha j hj hl with q | ⟨-, q⟩
      · exact .inl q
      · simp at q, p.few⟩
theorem FMid.pass (G : Gr N nb h) {k c j : Nat} {X out list : List Int} (p : FMid N nb h lev i n k c ((j : Int) :: X) out list) (hcN : c < N) (hcn : out.getD c 0 = n) (hjN : j < N) (hm : (j : Int) ∈ nb c) (hj : ¬ (out.getD j 0 < 0 ∧ lev ≤ h j)) : FMid N nb h lev i n k c X out list :=
  ⟨p.len, p.kle, p.cnt, p.mem, p.inl, p.ge, p.le, p.low, p.done, p.old, p.conn, p.root, fun m hm' a ha j' hj' hl => by
    rcases p.full m hm' a ha j' hj' hl with q | ⟨q1, q2⟩
    · exact .inl q
    · rcases List.mem_cons.1 q2 with q3 | q3
      · have : j' = j := by omega
        subst this
        refine .inl ?_
        have h0 : 0 ≤ out.getD j' 0 := by
          by_cases e : out.getD j' 0 < 0
          · exact absurd ⟨e, hl⟩ hj
          · omega
        have h1 := p.le j' hjN
        by_cases e : out.getD j' 0 = n
        · exact e
        · have := p.old j' hjN h0 (by omega) c (G.sym c j' hcN hm) (p.low c hcN (by omega))
          omega
      · exact .inr ⟨q1, q3⟩, p.few⟩
theorem FMid.put {k c j : Nat} {X out list : List Int} (p : FMid N nb h lev i n k c ((j : Int) :: X) out list) (hcN : c < N) (hcn : out.getD c 0 = n) (hjN : j < N) (h1 : out.getD j 0 < 0) (h2 : lev ≤ h j) (hm : (j : Int) ∈ nb c) :
    FMid N nb h lev i n k c X (out.set j (n : Int)) (list ++ [(j : Int)]) := by
  have hg := fun k => set_get (l := out) (i := j) (by rw [p.len]; exact hjN) (n : Int) k
  have hne : ∀ x, 0 ≤ out.getD x 0 → j ≠ x := fun x q e => by subst e; omega
  refine ⟨by rw [List.length_set]; exact p.len, by rw [List.length_append]; have := p.kle; omega, ?_, fun x hx => ?_, fun a ha q => ?_, fun a ha => ?_, fun a ha => ?_, fun a ha q => ?_, fun a ha hl => ?_, fun x hx q1 q2 y hy hl => ?_, fun x y hx hy q1 q2 q3 => ?_, fun a ha q => ?_, fun m hm' a ha j' hj' hl => ?_, p.few⟩
  · have := unk_set (l := out) (k := j) (by rw [p.len]; exact hjN) h1 (p := (n : Int)) (by omega)
    have := p.cnt
    rw [List.length_append]
    simp only [List.length_cons, List.length_nil]
    omega
  · rcases List.mem_append.1 hx with e | e
    · obtain ⟨a, e1, e2, e3⟩ := p.mem x e
      exact ⟨a, e1, e2, by rw [hg, if_neg (hne a (by omega))]; exact e3⟩
    · have : x = j := by simpa using e
      exact ⟨j, this, hjN, by rw [hg, if_pos rfl]⟩
  · rw [hg] at q
    by_cases e : j = a
    · subst e; simp
    · rw [if_neg e] at q; exact List.mem_append_left _ (p.inl a ha q)
  · rw [hg]; have := p.ge a ha; split <;> omega
  · rw [hg]; have := p.le a ha; split <;> omega
  · rw [hg] at q
    by_cases e : j = a
    · subst e; exact h2
    · rw [if_neg e] at q; exact p.low a ha q
  · rw [hg]
    by_cases e : j = a
    · rw [if_pos e]; omega
    · rw [if_neg e]; exact p.done a ha hl
  · rw [hg] at q1 q2
    by_cases e : j = x
    · rw [if_pos e] at q2; omega
    · rw [if_neg e] at q1 q2
      have h3 := p.old x hx q1 q2 y hy hl
      rw [hg, hg, if_neg e, if_neg (hne y (by omega))]
      exact h3
  · rw [hg] at q1 q2 q3
    by_cases e : j = x
    · rw [if_pos e] at q2; omega
    · rw [if_neg e] at q1 q2 q3
      rw [hg] at q3
      by_cases e2 : j = y
      · rw [if_pos e2] at q3; omega
      · rw [if_neg e2] at q3; exact p.conn x y hx hy q1 q2 q3
  · rw [hg] at q
    by_cases e : j = a
    · subst e; exact .step (p.root c hcN hcn) hm h2
    · rw [if_neg e] at q; exact p.root a ha q
  · rw [app_get (by have := p.kle; omega)] at ha
    rcases p.full m hm' a ha j' hj' hl with q | ⟨q1, q2⟩
    · exact .inl (by rw [hg]; split; rfl; exact q)
    · rcases List.mem_cons.1 q2 with q3 | q3
      · have : j' = j := by omega
        subst this
        exact .inl (by rw [hg, if_pos rfl])
      · exact .inr ⟨q1, q3⟩
theorem FMid.over (G : Gr N nb h) {k c : Nat} {out list : List Int} (p : FMid N nb h lev i n k c [] out list) (hi : i < N) (hk : list.length = k) : FIn N nb h lev (i + 1) (n + 1) out := by
  refine ⟨p.len, p.ge, fun j hj => by have := p.le j hj; omega, p.low, p.done, fun x hx q y hy hl => ?_, fun x y hx hy q1 q2 => ?_, by have := p.few; omega⟩
  · have h1 := p.le x hx
    by_cases e : out.getD x 0 = n
    · obtain ⟨m, m1, m2⟩ := List.mem_iff_getElem.1 (p.inl x hx e)
      rcases p.full m (by omega) x (by rw [List.getD_eq_getElem?_getD, List.getElem?_eq_getElem m1, m2]; rfl) y hy hl with q3 | ⟨-, q3⟩
      · omega
      · simp at q3
    · exact p.old x hx q (by omega) y hy hl
  · have h1 := p.le x hx
    by_cases e : out.getD x 0 = n
    · exact ((p.root x hx e).symm G hi).trans (p.root y hy (by omega))
    · exact p.conn x y hx hy q1 (by omega) q2
theorem FIn.ok {out : List Int} (p : FIn N nb h lev N n out) (G : Gr N nb h) : RegOk N nb h lev out := by
  refine ⟨p.len, fun j hj hl => ?_, fun j hj hl => p.done j hj hl, fun x y hx hy lx ly => ⟨fun e => p.conn x y hx hy (p.done x hx lx) e, fun r => ?_⟩⟩
  · have h1 := p.ge j hj
    by_cases e : 0 ≤ out.getD j 0
    · have := p.low j hj e; omega
    · omega
  · have aux : ∀ z, Reach nb h lev x z → out.getD z 0 = out.getD x 0 := by
      intro z r
      induction r with
      | refl _ => rfl
      | @step b c r hm hl ih =>
        have hb := r.lt G hx
        rw [p.clos b hb (p.done b hb r.ends.2) c hm hl, ih]
    exact (aux y r).symm
end

end Go.Proofs.Ytkhhloeemecokaa
