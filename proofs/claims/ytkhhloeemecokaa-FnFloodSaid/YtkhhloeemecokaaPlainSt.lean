/- Plain words: steps from a cell over heights of at least a level, breadth first. -/
import Derived.Test.YtkhhloeemecokaaPlainPV
namespace Go.Proofs.Ytkhhloeemecokaa

def visitB (h : Nat → Int) (lev : Int) (src : Nat) (st : List Int × List Int) (x : Int) : List Int × List Int :=
  if st.1.getD x.toNat 0 < 0 ∧ lev ≤ h x.toNat then (st.1.set x.toNat (st.1.getD src 0 + 1), st.2 ++ [x]) else st
def stepB (nb : Nat → List Int) (h : Nat → Int) (lev : Int) (k : Nat) (st : List Int × List Int) : List Int × List Int :=
  if k < st.2.length then (nb (st.2.getD k 0).toNat).foldl (visitB h lev (st.2.getD k 0).toNat) st else st
def SB (N : Nat) (nb : Nat → List Int) (h : Nat → Int) (lev : Int) (b : Nat) : Nat → List Int × List Int
  | 0 => ((List.replicate N (-1)).set b 0, [(b : Int)])
  | k + 1 => stepB nb h lev k (SB N nb h lev b k)
def stepsL (N : Nat) (nb : Nat → List Int) (h : Nat → Int) (lev : Int) (b : Nat) : List Int := (SB N nb h lev b N).1

theorem visit_yes {h : Nat → Int} {lev : Int} {src j : Nat} {far list : List Int} (h1 : far.getD j 0 < 0) (h2 : lev ≤ h j) : visitB h lev src (far, list) (j : Int) = (far.set j (far.getD src 0 + 1), list ++ [(j : Int)]) := by
  unfold visitB
  rw [Int.toNat_natCast, if_pos ⟨h1, h2⟩]
theorem visit_no {h : Nat → Int} {lev : Int} {src j : Nat} {far list : List Int} (h1 : ¬ (far.getD j 0 < 0 ∧ lev ≤ h j)) : visitB h lev src (far, list) (j : Int) = (far, list) := by
  unfold visitB
  rw [Int.toNat_natCast, if_neg h1]
theorem fold_step {h : Nat → Int} {lev : Int} {src m j : Nat} {X : List Int} {st : List Int × List Int} (hm : m < X.length) (hj : X.getD m 0 = j) : (X.take (m + 1)).foldl (visitB h lev src) st = visitB h lev src ((X.take m).foldl (visitB h lev src) st) (j : Int) := by
  rw [List.take_succ_eq_append_getElem hm, List.foldl_append]
  rw [List.getD_eq_getElem?_getD, List.getElem?_eq_getElem hm] at hj
  simp only [Option.getD_some] at hj
  rw [hj]
  rfl
theorem SB_next {N : Nat} {nb : Nat → List Int} {h : Nat → Int} {lev : Int} {b k c : Nat} {far list : List Int} (hS : SB N nb h lev b k = (far, list)) (hk : k < list.length) (hc : list.getD k 0 = c) : SB N nb h lev b (k + 1) = (nb c).foldl (visitB h lev c) (far, list) := by
  show stepB nb h lev k (SB N nb h lev b k) = _
  rw [hS]
  unfold stepB
  rw [if_pos hk]
  show (nb (list.getD k 0).toNat).foldl (visitB h lev (list.getD k 0).toNat) (far, list) = _
  rw [hc, Int.toNat_natCast]
theorem SB_stop {N : Nat} {nb : Nat → List Int} {h : Nat → Int} {lev : Int} {b k : Nat} (hk : (SB N nb h lev b k).2.length ≤ k) : ∀ d, SB N nb h lev b (k + d) = SB N nb h lev b k
  | 0 => rfl
  | d + 1 => by
    show stepB nb h lev (k + d) (SB N nb h lev b (k + d)) = _
    rw [SB_stop hk d]
    unfold stepB
    rw [if_neg (by omega)]

/-- k cells of the list were looked at; of the last one's (c) neighbors those in X are still to be looked at. -/
structure BMid (N : Nat) (nb : Nat → List Int) (h : Nat → Int) (lev : Int) (b k c : Nat) (X far list : List Int) : Prop where
  len : far.length = N
  kle : k ≤ list.length
  cnt : list.length + unkN far = N
  mem : ∀ x ∈ list, ∃ j : Nat, x = j ∧ j < N ∧ 0 ≤ far.getD j 0
  inl : ∀ j, j < N → 0 ≤ far.getD j 0 → (j : Int) ∈ list
  low : ∀ j, j < N → 0 ≤ far.getD j 0 → lev ≤ h j
  bck : ∀ j, j < N → 0 ≤ far.getD j 0 → (j = b ∧ far.getD j 0 = 0) ∨ ∃ i, i < N ∧ (j : Int) ∈ nb i ∧ 0 ≤ far.getD i 0 ∧ far.getD j 0 = far.getD i 0 + 1
  b0 : far.getD b 0 = 0
  ge : ∀ j, j < N → -1 ≤ far.getD j 0
  up : ∀ j, j < N → far.getD j 0 < list.length
  full : ∀ m, m < k → ∀ i : Nat, list.getD m 0 = i → ∀ j : Nat, (j : Int) ∈ nb i → lev ≤ h j → 0 ≤ far.getD j 0 ∨ (i = c ∧ (j : Int) ∈ X)

section
variable {N : Nat} {nb : Nat → List Int} {h : Nat → Int} {lev : Int} {b : Nat}
theorem unk_rep (N : Nat) : unkN (List.replicate N (-1)) = N := by simp [unkN, List.countP_replicate]
theorem set_get {l : List Int} {i : Nat} (hi : i < l.length) (v : Int) (k : Nat) : (l.set i v).getD k 0 = if i = k then v else l.getD k 0 := by
  simp only [List.getD_eq_getElem?_getD, List.getElem?_set]
  by_cases e : i = k
  · subst e; simp [hi]
  · simp [e]
theorem app_get {l : List Int} {x : Int} {m : Nat} (hm : m < l.length) : (l ++ [x]).getD m 0 = l.getD m 0 := by
  rw [List.getD_eq_getElem?_getD, List.getElem?_append_left hm, ← List.getD_eq_getElem?_getD]
theorem BMid.start (hb : b < N) (hl : lev ≤ h b) (c : Nat) : BMid N nb h lev b 0 c [] ((List.replicate N (-1)).set b 0) [(b : Int)] := by
  have hg : ∀ k, k < N → ((List.replicate N (-1 : Int)).set b 0).getD k 0 = if b = k then 0 else -1 := fun k hk => by
    rw [set_get (by simpa using hb)]
    by_cases e : b = k
    · simp [e]
    · rw [if_neg e, if_neg e, List.getD_eq_getElem?_getD, List.getElem?_eq_getElem (by simpa using hk)]
      simp
  have hkn : ∀ j, j < N → 0 ≤ ((List.replicate N (-1 : Int)).set b 0).getD j 0 → j = b := fun j hj q => by
    rw [hg j hj] at q
    by_cases e : b = j
    · exact e.symm
    · rw [if_neg e] at q; exact absurd q (by decide)
  refine ⟨by simp, Nat.zero_le _, ?_, ?_, fun j hj q => ?_, fun j hj q => ?_, fun j hj q => .inl ?_, ?_, fun j hj => ?_, fun j hj => ?_, fun m hm => absurd hm (by omega)⟩
  · have := unk_set (l := List.replicate N (-1)) (k := b) (by simpa using hb) (by rw [List.getD_eq_getElem?_getD, List.getElem?_eq_getElem (by simpa using hb)]; simp) (Int.le_refl 0)
    rw [unk_rep] at this
    simp only [List.length_cons, List.length_nil]
    omega
  · intro x hx
    have : x = b := by simpa using hx
    exact ⟨b, this, hb, by rw [hg b hb, if_pos rfl]; decide⟩
  · rw [hkn j hj q]; simp
  · rw [hkn j hj q]; exact hl
  · have e := hkn j hj q
    subst e
    exact ⟨rfl, by rw [hg j hj, if_pos rfl]⟩
  · rw [hg b hb, if_pos rfl]
  · rw [hg j hj]; split <;> decide
  · rw [hg j hj]
    show _ < ((1 : Nat) : Int)
    split <;> decide
theorem BMid.enter {k c c' : Nat} {far list : List Int} (p : BMid N nb h lev b k c' [] far list) (hk : k < list.length) (hc : list.getD k 0 = c) : BMid N nb h lev b (k + 1) c (nb c) far list :=
  ⟨p.len, hk, p.cnt, p.mem, p.inl, p.low, p.bck, p.b0, p.ge, p.up, fun m hm i hi j hj hl => by
    by_cases e : m = k
    · subst e
      rw [hc] at hi
      have : i = c := by omega
      subst this
      exact .inr ⟨rfl, hj⟩
    · rcases p.full m (by omega) i hi j hj hl with q | ⟨-, q⟩
      · exact .inl q
      · simp at q⟩
theorem BMid.pass {k c j : Nat} {X far list : List Int} (p : BMid N nb h lev b k c ((j : Int) :: X) far list) (hj : ¬ (far.getD j 0 < 0 ∧ lev ≤ h j)) : BMid N nb h lev b k c X far list :=
  ⟨p.len, p.kle, p.cnt, p.mem, p.inl, p.low, p.bck, p.b0, p.ge, p.up, fun m hm i hi j' hj' hl => by
    rcases p.full m hm i hi j' hj' hl with q | ⟨q1, q2⟩
    · exact .inl q
    · rcases List.mem_cons.1 q2 with q3 | q3
      · have : j' = j := by omega
        subst this
        refine .inl ?_
        by_cases e : far.getD j' 0 < 0
        · exact absurd ⟨e, hl⟩ hj
        · omega
      · exact .inr ⟨q1, q3⟩⟩
theorem BMid.put {k c j : Nat} {X far list : List Int} (p : BMid N nb h lev b k c ((j : Int) :: X) far list) (hjN : j < N) (h1 : far.getD j 0 < 0) (h2 : lev ≤ h j) (hm : (j : Int) ∈ nb c) (hc : c < N) (hc0 : 0 ≤ far.getD c 0) :
    BMid N nb h lev b k c X (far.set j (far.getD c 0 + 1)) (list ++ [(j : Int)]) := by
  have hg : ∀ i, (far.set j (far.getD c 0 + 1)).getD i 0 = if j = i then far.getD c 0 + 1 else far.getD i 0 := fun i => set_get (by rw [p.len]; exact hjN) _ i
  have hup : ∀ i, 0 ≤ far.getD i 0 → (far.set j (far.getD c 0 + 1)).getD i 0 = far.getD i 0 := fun i hi => by
    rw [hg, if_neg (fun e => by subst e; omega)]
  have hpos : ∀ i, 0 ≤ far.getD i 0 → 0 ≤ (far.set j (far.getD c 0 + 1)).getD i 0 := fun i hi => by rw [hup i hi]; exact hi
  have hll : ((list ++ [(j : Int)]).length : Int) = list.length + 1 := by simp
  refine ⟨by rw [List.length_set]; exact p.len, by rw [List.length_append]; have := p.kle; omega, ?_, ?_, fun i hi q => ?_, fun i hi q => ?_, fun i hi q => ?_, ?_, fun i hi => ?_, fun i hi => ?_, fun m hm' i hi j' hj' hl => ?_⟩
  · have := unk_set (l := far) (k := j) (by rw [p.len]; exact hjN) h1 (p := far.getD c 0 + 1) (by omega)
    have := p.cnt
    rw [List.length_append]
    simp only [List.length_cons, List.length_nil]
    omega
  · intro x hx
    rcases List.mem_append.1 hx with e | e
    · obtain ⟨i, e1, e2, e3⟩ := p.mem x e
      exact ⟨i, e1, e2, hpos i e3⟩
    · have : x = j := by simpa using e
      exact ⟨j, this, hjN, by rw [hg, if_pos rfl]; omega⟩
  · rw [hg] at q
    by_cases e : j = i
    · subst e; simp
    · rw [if_neg e] at q
      exact List.mem_append_left _ (p.inl i hi q)
  · rw [hg] at q
    by_cases e : j = i
    · subst e; exact h2
    · rw [if_neg e] at q; exact p.low i hi q
  · rw [hg] at q
    by_cases e : j = i
    · subst e
      exact .inr ⟨c, hc, hm, hpos c hc0, by rw [hg, if_pos rfl, hup c hc0]⟩
    · rw [if_neg e] at q
      rw [hup i q]
      rcases p.bck i hi q with q' | ⟨i', a1, a2, a3, a4⟩
      · exact .inl q'
      · exact .inr ⟨i', a1, a2, hpos i' a3, by rw [hup i' a3]; exact a4⟩
  · rw [hup b (by rw [p.b0]; decide)]; exact p.b0
  · rw [hg]
    have := p.ge i hi
    split <;> omega
  · rw [hg, hll]
    have u1 := p.up i hi
    have u2 := p.up c hc
    split <;> omega
  · rw [app_get (by have := p.kle; omega)] at hi
    rcases p.full m hm' i hi j' hj' hl with q | ⟨q1, q2⟩
    · exact .inl (hpos j' q)
    · rcases List.mem_cons.1 q2 with q3 | q3
      · have : j' = j := by omega
        subst this
        exact .inl (by rw [hg, if_pos rfl]; omega)
      · exact .inr ⟨q1, q3⟩
theorem BMid.fold (G : Gr N nb h) {k c : Nat} (hc : c < N) : ∀ {X far list : List Int}, (∀ x ∈ X, x ∈ nb c) → 0 ≤ far.getD c 0 → BMid N nb h lev b k c X far list → ∃ far' list', X.foldl (visitB h lev c) (far, list) = (far', list') ∧ BMid N nb h lev b k c [] far' list'
  | [], far, list, _, _, p => ⟨far, list, rfl, p⟩
  | x :: X, far, list, hX, hc0, p => by
    obtain ⟨j, rfl, hjN⟩ := G.inb c hc x (hX _ List.mem_cons_self)
    have hX' : ∀ y ∈ X, y ∈ nb c := fun y hy => hX y (List.mem_cons_of_mem _ hy)
    by_cases e : far.getD j 0 < 0 ∧ lev ≤ h j
    · rw [List.foldl_cons, visit_yes e.1 e.2]
      refine BMid.fold G hc hX' ?_ (p.put hjN e.1 e.2 (hX _ List.mem_cons_self) hc hc0)
      rw [set_get (by rw [p.len]; exact hjN)]
      split <;> omega
    · rw [List.foldl_cons, visit_no e]
      exact BMid.fold G hc hX' hc0 (p.pass e)
theorem SB_mid (G : Gr N nb h) (hb : b < N) (hl : lev ≤ h b) : ∀ k, ∃ K c, K ≤ k ∧ SB N nb h lev b k = SB N nb h lev b K ∧ BMid N nb h lev b K c [] (SB N nb h lev b K).1 (SB N nb h lev b K).2 ∧ (K = k ∨ (SB N nb h lev b K).2.length = K)
  | 0 => ⟨0, 0, Nat.le_refl _, rfl, BMid.start hb hl 0, .inl rfl⟩
  | k + 1 => by
    obtain ⟨K, c, h1, h2, h3, h4⟩ := SB_mid G hb hl k
    by_cases hs : (SB N nb h lev b K).2.length = K
    · refine ⟨K, c, by omega, ?_, h3, .inr hs⟩
      have e1 := SB_stop (N := N) (nb := nb) (h := h) (lev := lev) (b := b) (k := K) (by omega) (k + 1 - K)
      rw [show K + (k + 1 - K) = k + 1 by omega] at e1
      exact e1
    · have hK : K = k := by rcases h4 with q | q; exact q; exact absurd q hs
      subst hK
      have hlt : K < (SB N nb h lev b K).2.length := by have := h3.kle; omega
      obtain ⟨i, e1, e2, e3⟩ := h3.mem ((SB N nb h lev b K).2.getD K 0) (by rw [List.getD_eq_getElem?_getD, List.getElem?_eq_getElem hlt]; simp)
      obtain ⟨far', list', f1, f2⟩ := BMid.fold G e2 (fun x hx => hx) e3 (h3.enter hlt e1)
      have e := SB_next (N := N) (nb := nb) (h := h) (lev := lev) (b := b) (k := K) (far := (SB N nb h lev b K).1) (list := (SB N nb h lev b K).2) rfl hlt e1
      rw [f1] at e
      exact ⟨K + 1, i, Nat.le_refl _, rfl, by rw [e]; exact f2, .inl rfl⟩
/-- What the steps are at the end. -/
structure IsSteps (N : Nat) (nb : Nat → List Int) (h : Nat → Int) (lev : Int) (b : Nat) (far : List Int) : Prop where
  len : far.length = N
  low : ∀ j, j < N → 0 ≤ far.getD j 0 → lev ≤ h j
  bck : ∀ j, j < N → 0 ≤ far.getD j 0 → (j = b ∧ far.getD j 0 = 0) ∨ ∃ i, i < N ∧ (j : Int) ∈ nb i ∧ 0 ≤ far.getD i 0 ∧ far.getD j 0 = far.getD i 0 + 1
  b0 : far.getD b 0 = 0
  ge : ∀ j, j < N → -1 ≤ far.getD j 0
  up : ∀ j, j < N → far.getD j 0 < N
  all : ∀ j, Reach nb h lev b j → 0 ≤ far.getD j 0
theorem BMid.done (G : Gr N nb h) (hb : b < N) {k c : Nat} {far list : List Int} (p : BMid N nb h lev b k c [] far list) (hk : list.length = k) : IsSteps N nb h lev b far := by
  refine ⟨p.len, p.low, p.bck, p.b0, p.ge, fun j hj => ?_, fun j r => ?_⟩
  · have := p.up j hj
    have := p.cnt
    omega
  · induction r with
    | refl _ => rw [p.b0]; decide
    | @step i j r hm hl ih =>
      have hi := r.lt G hb
      have hmem := p.inl i hi ih
      obtain ⟨m, hm1, hm2⟩ := List.mem_iff_getElem.1 hmem
      rcases p.full m (by omega) i (by rw [List.getD_eq_getElem?_getD, List.getElem?_eq_getElem hm1, hm2]; rfl) j hm hl with q | ⟨-, q⟩
      · exact q
      · simp at q
theorem steps_is (G : Gr N nb h) (hb : b < N) (hl : lev ≤ h b) : IsSteps N nb h lev b (stepsL N nb h lev b) := by
  obtain ⟨K, c, h1, h2, h3, h4⟩ := SB_mid G hb hl N
  have hK : (SB N nb h lev b K).2.length = K := by
    rcases h4 with q | q
    · have := h3.kle; have := h3.cnt; omega
    · exact q
  unfold stepsL
  rw [h2]
  exact h3.done G hb hK
/-- The loops' end. -/
theorem steps_end {k c : Nat} {far list : List Int} (p : BMid N nb h lev b k c [] far list) (hS : SB N nb h lev b k = (far, list)) (hk : list.length = k) : far = stepsL N nb h lev b := by
  have e1 := SB_stop (N := N) (nb := nb) (h := h) (lev := lev) (b := b) (k := k) (by rw [hS]; exact Nat.le_of_eq hk) (N - k)
  have := p.cnt
  rw [show k + (N - k) = N by omega, hS] at e1
  unfold stepsL
  rw [e1]
end

end Go.Proofs.Ytkhhloeemecokaa
