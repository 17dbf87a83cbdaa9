/- Memory word 'OutM': a slice of slices of ints of the call's own that is appended to, row by row. -/
import Derived.Test.YtkhhloeemecokaaMat
import Derived.Test.YtkhhloeemecokaaApp
namespace Go.Proofs.Ytkhhloeemecokaa
open Go.RowKit
set_option linter.unusedVariables false

theorem Try.infoRow : (Try.prog.info? 28).map (fun i => (i.zero, i.size, i.bytes)) = some (some (.slice none 0 0), 1, 24) := by kernel_rfl

def OutM (w : World) (B D : Nat) (v : Value) (g : List (List Int)) : Prop :=
  ∃ (us : List Value) (L : Nat → Nat), us.length = g.length ∧ w.ownsRow B 28 1 v g.length us ∧ (∀ i, L i ≤ L (i + 1)) ∧ B ≤ L 0 ∧ L g.length ≤ D ∧ D ≤ w.heap.size ∧
    ∀ i, i < g.length → Own w (L i) (us.getD i undef) (g.getD i []) ∧ ∀ j, (us.getD i undef).ownBlock = some j → j < L (i + 1)
theorem OutM.nil (w : World) (B : Nat) (hB : B ≤ w.heap.size) : OutM (w.alloc (.cells #[] 28)) B w.heap.size (.slice (some ⟨w.heap.size, 0, none⟩) 0 0) [] :=
  ⟨[], fun _ => w.heap.size, rfl, World.ownsRow_lit (e := 28) (size := 1) w #[] 0 hB (Nat.zero_le _) rfl, fun _ => Nat.le_refl _, hB, Nat.le_refl _, by simp, fun i hi => by simp at hi⟩
theorem OutM.lift {w : World} {B D D' : Nat} {v : Value} {g : List (List Int)} (h : OutM w B D v g) (h1 : D ≤ D') (h2 : D' ≤ w.heap.size) : OutM w B D' v g := by
  obtain ⟨us, L, a1, a2, a3, a4, a5, a6, a7⟩ := h
  exact ⟨us, L, a1, a2, a3, a4, Nat.le_trans a5 h1, h2, a7⟩
theorem OutM.size {w : World} {B D : Nat} {v : Value} {g : List (List Int)} (h : OutM w B D v g) : D ≤ w.heap.size := by
  obtain ⟨us, L, a1, a2, a3, a4, a5, a6, a7⟩ := h
  exact a6
theorem OutM.below {w w' : World} {B D : Nat} {v : Value} {g : List (List Int)} (h : OutM w B D v g) (hb : Below w.heap.size w w') : OutM w' B D v g := by
  obtain ⟨us, L, a1, a2, a3, a4, a5, a6, a7⟩ := h
  exact ⟨us, L, a1, a2.kept (grownBy_of_below hb none) (by cases v.ownBlock <;> simp), a3, a4, a5, Nat.le_trans a6 hb.size, fun i hi => ⟨(a7 i hi).1.below hb, (a7 i hi).2⟩⟩
/-- A row of ints and a row of slices lie in different blocks. -/
theorem rows_apart {w : World} {B D n m : Nat} {v u : Value} {us xs : List Value} (h : w.ownsRow B 28 1 v n us) (h' : w.ownsRow D 3 1 u m xs) {k : Nat} (hk : v.ownBlock = some k) : u.ownBlock ≠ some k := by
  intro e
  rcases h.2 with ⟨hv, -⟩ | ⟨g, cap, cur, hv, -, hg, -⟩
  · rw [hv] at hk; simp [Value.ownBlock] at hk
  · rcases h'.2 with ⟨hu, -⟩ | ⟨g', cap', cur', hu, -, hg', -⟩
    · rw [hu] at e; simp [Value.ownBlock] at e
    · rw [hv] at hk; rw [hu] at e
      simp only [Value.ownBlock, Option.some.injEq] at hk e
      subst hk; subst e
      rw [hg] at hg'
      simp at hg'
/-- A row that lies from D on is written. -/
theorem OutM.grown {w w' : World} {B D : Nat} {v u : Value} {g : List (List Int)} {z : List Int} (h : OutM w B D v g) (hu : Own w D u z) (hg : w.grownBy w' u.ownBlock) : OutM w' B D v g := by
  obtain ⟨us, L, a1, a2, a3, a4, a5, a6, a7⟩ := h
  refine ⟨us, L, a1, a2.kept hg ?_, a3, a4, a5, Nat.le_trans a6 hg.size, fun i hi => ⟨(a7 i hi).1.kept hg (fun k hk e => ?_), (a7 i hi).2⟩⟩
  · cases hv : v.ownBlock with
    | none => exact .inl rfl
    | some k => exact .inr (fun e => rows_apart a2 hu hv e.symm)
  · have q1 := (a7 i hi).2 k hk
    have q2 := (hu.lt k e).1
    have q3 := mono_le a3 (show i + 1 ≤ g.length by omega)
    omega
theorem OutM.mrow {w : World} {B D : Nat} {v : Value} {g : List (List Int)} (h : OutM w B D v g) : MRow w v g := by
  obtain ⟨us, L, a1, a2, a3, a4, a5, a6, a7⟩ := h
  have a2' := a2
  rcases a2.2 with ⟨hv, hn⟩ | ⟨b, cap, cur, hv, hB, hh, hle, hm, hs, ht⟩
  · have : g = [] := List.eq_nil_of_length_eq_zero hn
    subst this
    exact ⟨none, 0, hv, .inl rfl⟩
  · refine ⟨some ⟨b, 0, none⟩, cap, hv, .inr ⟨b, 0, rfl, fun i hi => ?_⟩⟩
    subst hv
    refine ⟨us.getD i undef, ?_, (a7 i hi).1.row⟩
    rw [Nat.zero_add, World.ownsRow.cellAt a2' i (by omega)]
    simp [a1, hi]
theorem OutM.shape {w : World} {B D : Nat} {v : Value} {g : List (List Int)} (h : OutM w B D v g) : ∃ a cap, v = .slice a g.length cap := h.mrow.shape
theorem OutM.owns {w : World} {B D : Nat} {v : Value} {g : List (List Int)} (h : OutM w B D v g) : ∀ k, v.ownBlock = some k → B ≤ k ∧ k < w.heap.size := by
  obtain ⟨us, L, a1, a2, -⟩ := h
  exact World.ownsRow.lt a2
/-- 'append(out, row)'. -/
theorem appendM {w : World} {ops : Array Oper} {rest : List Oper} {o : Oper} {a : Act} {Q : Exit → Act → World → Prop} (hgd : o.guard = none) (s x : Operand)
    (ho : o.op = .call { callee := .builtin .append, args := #[s, x], argTypes := #[23, 23] })
    (B D : Nat) (sv : Value) (g : List (List Int)) (u : Value) (z : List Int) (hs : a.eval s = sv) (hx : a.eval x = .slice (some ⟨w.heap.size, 0, none⟩) 1 1) (hO : OutM w B D sv g) (hU : Own w D u z) (hB : B ≤ w.heap.size) (hlen : g.length ≤ 1000000)
    (h : ∀ v' w', OutM w' B w.heap.size v' (g ++ [z]) → w.grownBy w' sv.ownBlock → wpList Try.prog ops Q rest (a.put o.dst v') w') :
    wpList Try.prog ops Q (o :: rest) a (w.alloc (.cells #[u] 28)) := by
  obtain ⟨i0, hi, hz0, hz1, hz2⟩ := info_parts Try.infoRow
  obtain ⟨us, L, a1, a2, a3, a4, a5, a6, a7⟩ := hO
  obtain ⟨au, cu, hu⟩ := hU.shape
  refine wpList_append_own _ hgd s x 23 ho B 28 i0 (.slice none 0 0) 1 24 Try.underlying23 hi hz0 hz1 hz2 rfl (by decide) sv g.length us hs (a2.alloc _) ⟨w.heap.size, 0, none⟩ 1 1 [u] hx rfl (cell_one_new _ _ _) (by intro y hy; simp at hy; subst hy; rw [hu]; rfl) (by unfold maxLen; omega) (by omega) (by simp; omega) ?_
  intro v' w' ho' hg' _
  have hg : w.grownBy w' sv.ownBlock := grownBy_trans (World.grownBy_alloc w _ _) hg'
  have hsz := hg.size
  refine h v' w' ?_ hg
  have hne : ∀ (u' : Value) (zs : List Int) (B' : Nat), Own w B' u' zs → ∀ k, u'.ownBlock = some k → sv.ownBlock ≠ some k := fun u' zs B' hu' k hk e => rows_apart a2 hu' e hk
  refine ⟨us ++ [u], fun i => if i < g.length then L i else if i = g.length then D else w.heap.size, by simp [a1], by rw [List.length_append]; exact ho', fun i => ?_, ?_, ?_, hsz, fun i hi => ?_⟩
  · show (if i < g.length then L i else if i = g.length then D else w.heap.size) ≤ (if i + 1 < g.length then L (i + 1) else if i + 1 = g.length then D else w.heap.size)
    by_cases e1 : i + 1 < g.length
    · rw [if_pos (by omega), if_pos e1]; exact a3 i
    · rw [if_neg e1]
      by_cases e2 : i + 1 = g.length
      · rw [if_pos e2, if_pos (by omega)]
        exact Nat.le_trans (mono_le a3 (by omega)) a5
      · rw [if_neg e2, if_neg (by omega)]
        by_cases e3 : i = g.length
        · rw [if_pos e3]; exact a6
        · rw [if_neg e3]; exact Nat.le_refl _
  · show B ≤ (if 0 < g.length then L 0 else if 0 = g.length then D else w.heap.size)
    by_cases e : 0 < g.length
    · rw [if_pos e]; exact a4
    · rw [if_neg e, if_pos (by omega)]
      exact Nat.le_trans a4 (Nat.le_trans (mono_le a3 (Nat.zero_le _)) a5)
  · simp [if_neg (show ¬ g.length + 1 < g.length by omega)]
  · rw [List.length_append] at hi
    simp only [List.length_cons, List.length_nil] at hi
    by_cases e : i < g.length
    · rw [show (us ++ [u]).getD i undef = us.getD i undef by simp [List.getD_eq_getElem?_getD, List.getElem?_append, a1, e], show (g ++ [z]).getD i [] = g.getD i [] by simp [List.getD_eq_getElem?_getD, List.getElem?_append, e]]
      have q := a7 i e
      refine ⟨by simp only [if_pos e]; exact q.1.kept hg (fun k hk => hne _ _ _ q.1 k hk), fun j hj => ?_⟩
      have q1 := q.2 j hj
      have q2 := mono_le a3 (show i + 1 ≤ g.length by omega)
      show j < (if i + 1 < g.length then L (i + 1) else if i + 1 = g.length then D else w.heap.size)
      by_cases e1 : i + 1 < g.length
      · rw [if_pos e1]; exact q1
      · rw [if_neg e1, if_pos (by omega)]; omega
    · obtain rfl : i = g.length := by omega
      rw [show (us ++ [u]).getD g.length undef = u by simp [List.getD_eq_getElem?_getD, ← a1], show (g ++ [z]).getD g.length [] = z by simp [List.getD_eq_getElem?_getD]]
      refine ⟨by simp only [Nat.lt_irrefl, if_false, if_true]; exact hU.kept hg (fun k hk => hne _ _ _ hU k hk), fun j hj => ?_⟩
      show j < (if g.length + 1 < g.length then L (g.length + 1) else if g.length + 1 = g.length then D else w.heap.size)
      rw [if_neg (by omega), if_neg (by omega)]
      exact (hU.lt j hj).2

end Go.Proofs.Ytkhhloeemecokaa
