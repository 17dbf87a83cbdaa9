/- A slice of the call's own whose front is cut off: cells, tail, append. -/
import Derived.Test.YtkhhloeemecokaaApp
import Derived.ArgAppend
namespace Go.Proofs.Ytkhhloeemecokaa
open Go.RowKit
set_option linter.unusedVariables false

def QAt (w : World) (B : Nat) (v : Value) (qs : List Int) : Prop :=
  ∃ (g o cap : Nat) (cs : Array Value), v = .slice (some ⟨g, o, none⟩) qs.length cap ∧ B ≤ g ∧ w.heap[g]? = some (.cells cs 3 (0, 0)) ∧ qs.length ≤ cap ∧ o + cap ≤ cs.size ∧ cap ≤ maxLen ∧ ∀ j, j < qs.length → cs[o + j]? = some (.int .i64 (qs.getD j 0))
theorem QAt.ofOwn {w : World} {B : Nat} {v : Value} {qs : List Int} (h : Own w B v qs) (hn : 0 < qs.length) : QAt w B v qs := by
  rcases h.2 with ⟨-, h0⟩ | ⟨g, cap, cur, hv, hb, hg, hc, hm, hs, ht⟩
  · omega
  · refine ⟨g, 0, cap, cur, hv, hb, hg, hc, by omega, hm, fun j hj => ?_⟩
    have e : (cur.toList.take (qs.length * 1))[j]? = (qs.map (Value.int .i64))[j]? := by rw [ht]
    rw [List.getElem?_take_of_lt (by omega), List.getElem?_map, List.getElem?_eq_getElem hj] at e
    rw [Nat.zero_add, ← Array.getElem?_toList, e, List.getD_eq_getElem?_getD, List.getElem?_eq_getElem hj]
    rfl
theorem QAt.lt {w : World} {B : Nat} {v : Value} {qs : List Int} (h : QAt w B v qs) : ∀ k, v.ownBlock = some k → B ≤ k ∧ k < w.heap.size := by
  obtain ⟨g, o, cap, cs, rfl, hb, hg, -⟩ := h
  intro k hk
  simp only [Value.ownBlock, Option.some.injEq] at hk
  subst hk
  exact ⟨hb, (Array.getElem?_eq_some_iff.1 hg).1⟩
theorem QAt.form {w : World} {B : Nat} {v : Value} {qs : List Int} (h : QAt w B v qs) : ∃ g o cap, v = .slice (some ⟨g, o, none⟩) qs.length cap ∧ B ≤ g ∧ g < w.heap.size ∧ qs.length ≤ cap := by
  obtain ⟨g, o, cap, cs, rfl, hb, hg, hc, -⟩ := h
  exact ⟨g, o, cap, rfl, hb, (Array.getElem?_eq_some_iff.1 hg).1, hc⟩
theorem QAt.cell {w : World} {B g o n cap : Nat} {qs : List Int} (h : QAt w B (.slice (some ⟨g, o, none⟩) n cap) qs) (j : Nat) (hj : j < n) : n = qs.length ∧ w.cell? ⟨g, o + j, none⟩ = some (.int .i64 (qs.getD j 0)) := by
  obtain ⟨g', o', cap', cs, hv, hb, hg, hc, hs, hm, hq⟩ := h
  simp only [Value.slice.injEq, Option.some.injEq, Addr.mk.injEq, and_true] at hv
  obtain ⟨⟨rfl, rfl⟩, rfl, rfl⟩ := hv
  refine ⟨rfl, ?_⟩
  rw [cell_of_row _ g (o + j) _ _ (0, 0) hg]
  exact hq j hj
theorem QAt.kept {w w' : World} {B : Nat} {v : Value} {qs : List Int} (h : QAt w B v qs) (hb : ∀ k, v.ownBlock = some k → w'.heap[k]? = w.heap[k]?) : QAt w' B v qs := by
  obtain ⟨g, o, cap, cs, rfl, hB, hg, r⟩ := h
  exact ⟨g, o, cap, cs, rfl, hB, (hb g rfl).trans hg, r⟩
theorem QAt.below {w w' : World} {B : Nat} {v : Value} {qs : List Int} (h : QAt w B v qs) (hb : Below w.heap.size w w') : QAt w' B v qs :=
  h.kept (fun k hk => hb.block k (h.lt k hk).2)
/-- The front is cut off. -/
theorem QAt.tail {w : World} {B g o n cap : Nat} {x : Int} {qs : List Int} (h : QAt w B (.slice (some ⟨g, o, none⟩) (n + 1) cap) (x :: qs)) (o' : Nat) (ho : o' = o + 1 ∨ (cap = 1 ∧ o' = o)) : QAt w B (.slice (some ⟨g, o', none⟩) n (cap - 1)) qs := by
  obtain ⟨g', o2, cap', cs, hv, hb, hg, hc, hs, hm, hq⟩ := h
  simp only [Value.slice.injEq, Option.some.injEq, Addr.mk.injEq, and_true, List.length_cons] at hv
  obtain ⟨⟨rfl, rfl⟩, hn, rfl⟩ := hv
  simp only [List.length_cons] at hc hq
  have hn : n = qs.length := by omega
  subst hn
  rcases ho with rfl | ⟨h1, rfl⟩
  · refine ⟨g, o + 1, cap - 1, cs, rfl, hb, hg, by omega, by omega, by omega, fun j hj => ?_⟩
    have := hq (j + 1) (by omega)
    rw [show o + 1 + j = o + (j + 1) by omega, this]
    rfl
  · refine ⟨g, o', cap - 1, cs, rfl, hb, hg, by omega, by omega, by omega, fun j hj => absurd hj (by omega)⟩

/-- 'append(s, y)'. -/
theorem appQ {w : World} {ops : Array Oper} {rest : List Oper} {o : Oper} {a : Act} {Q : Exit → Act → World → Prop} (hgd : o.guard = none) (s x : Operand)
    (ho : o.op = .call { callee := .builtin .append, args := #[s, x], argTypes := #[28, 28] })
    (B : Nat) (sv : Value) (qs : List Int) (y : Int) (b c : Nat) (hs : a.eval s = sv) (hx : a.eval x = .slice (some ⟨b, 0, none⟩) 1 c) (hy : w.cell? ⟨b, 0, none⟩ = some (.int .i64 y))
    (hq : QAt w B sv qs) (hB : B ≤ w.heap.size) (hlen : qs.length ≤ 100000)
    (h : ∀ v' w', QAt w' B v' (qs ++ [y]) → w.grownBy w' sv.ownBlock → (∀ k, v'.ownBlock = some k → sv.ownBlock = some k ∨ w.heap.size ≤ k) → wpList Try.prog ops Q rest (a.put o.dst v') w') :
    wpList Try.prog ops Q (o :: rest) a w := by
  obtain ⟨i0, hi, hz0, hz1, hz2⟩ := info_parts Try.infoInt
  refine wpList_plain hgd fun K hK' => ?_
  have hnews : ∀ j u, ([Value.int .i64 y])[j]? = some u → w.cell? ((⟨b, 0, none⟩ : Addr).add j) = some u := by
    intro j u hu
    have hj : j = 0 := by
      have := (List.getElem?_eq_some_iff.1 hu).1
      simp at this
      exact this
    subst hj
    simp at hu
    rw [add_at, Nat.add_zero, hy, ← hu]
  have h1 : ∀ u ∈ [Value.int .i64 y], u.oneCell' = true := by intro u hu; simp at hu; subst hu; rfl
  obtain ⟨g, off, cap, cs, hv, hb, hg, hc, hsz, hm, hq⟩ := hq
  have hrun : ∃ v' w', (Builtin.append_ #[28, 28] o.type #[sv, .slice (some ⟨b, 0, none⟩) 1 c]).run Try.prog w = .ok v' w' ∧ QAt w' B v' (qs ++ [y]) ∧ w.grownBy w' sv.ownBlock ∧ (∀ k, v'.ownBlock = some k → sv.ownBlock = some k ∨ w.heap.size ≤ k) := by
    by_cases hr : qs.length + 1 ≤ cap
    · have hlt : off + qs.length < cs.size := by omega
      have hcell : w.cell? ⟨g, off + qs.length, none⟩ = some cs[off + qs.length] := by
        rw [cell_of_row _ g _ _ _ (0, 0) hg]
        exact Array.getElem?_eq_getElem hlt
      have hrun := run_append_room_cells (P := Try.prog) w 28 o.type 3 i0 Try.underlying28 hi g off qs.length cap ⟨b, 0, none⟩ 1 c [.int .i64 y] (by rw [hz1]; rfl) hnews h1 hr
        (fun j hj => by
          have : j = 0 := by simpa using hj
          subst this
          rw [hz1, Nat.mul_one, Nat.add_zero, hcell]; rfl)
        (fun j hj => by simp [World.frozen?, hg])
      rw [hz1, Nat.mul_one] at hrun
      rw [hv]
      refine ⟨_, _, hrun, ?_, ?_, fun k hk => .inl hk⟩
      · show QAt (w.setCell ⟨g, off + qs.length, none⟩ (.int .i64 y)) B _ _
        refine ⟨g, off, cap, cs.set! (off + qs.length) (.int .i64 y), by rw [List.length_append]; rfl, hb, by rw [heap_setCell_same w g (off + qs.length) _ _ _ hg]; rfl, by rw [List.length_append]; exact hr, by simpa using hsz, hm, fun j hj => ?_⟩
        rw [List.length_append] at hj
        simp only [List.length_cons, List.length_nil] at hj
        by_cases e : j = qs.length
        · subst e
          simp [Array.set!, hlt]
        · have e1 : off + qs.length ≠ off + j := by omega
          have e2 := hq j (by omega)
          simp only [Array.set!, Array.getElem?_setIfInBounds, if_neg e1]
          rw [e2, show (qs ++ [y]).getD j 0 = qs.getD j 0 by rw [List.getD_eq_getElem?_getD, List.getElem?_append_left (by omega), ← List.getD_eq_getElem?_getD]]
      · show w.grownBy (w.setCell ⟨g, off + qs.length, none⟩ (.int .i64 y)) (some g)
        exact ⟨rfl, rfl, rfl, by simp, fun k _ hk => heap_setCell_other w ⟨g, off + qs.length, none⟩ k _ (fun e => hk (by simp [e]))⟩
    · have holds : ∀ j u, (qs.map (Value.int .i64))[j]? = some u → w.cell? ((⟨g, off, none⟩ : Addr).add j) = some u := by
        intro j u hu
        rw [List.getElem?_map] at hu
        have hj : j < qs.length := by
          rcases Nat.lt_or_ge j qs.length with q | q
          · exact q
          · rw [List.getElem?_eq_none q] at hu; simp at hu
        rw [List.getElem?_eq_getElem hj] at hu
        rw [add_at, cell_of_row _ g _ _ _ (0, 0) hg, hq j hj, List.getD_eq_getElem?_getD, List.getElem?_eq_getElem hj]
        simpa using hu
      obtain ⟨v', w', hrun, r1, r2⟩ := run_append_arg_grows (P := Try.prog) w 28 o.type 3 i0 (.int .i64 0) 1 8 Try.underlying28 hi hz0 hz1 hz2 rfl (by decide) ⟨g, off, none⟩ qs.length cap (qs.map (Value.int .i64)) (by simp) holds ⟨b, 0, none⟩ 1 c [.int .i64 y] rfl hnews (by omega) (by unfold maxLen; omega) (by omega)
      rw [hv]
      have hown : Own w' w.heap.size v' (qs ++ [y]) := by
        unfold Own
        rw [List.length_append, List.map_append]
        exact r1
      refine ⟨v', w', hrun, ?_, ⟨r2.os, r2.tape, r2.output, r2.size, fun k hk _ => r2.block k hk (by simp)⟩, fun k hk => .inr (hown.lt k hk).1⟩
      exact QAt.ofOwn (hown.mono hB) (by simp)
  obtain ⟨v', w', hrun, r1, r2, r3⟩ := hrun
  unfold Oper.wp
  simp [execOp, ho, resolve, invoke, builtin, hs, hx, hrun, Result.andThen]
  exact hK' _ _ (h v' w' r1 r2 r3)

end Go.Proofs.Ytkhhloeemecokaa
