/- 'append(s, ys...)' at a slice of the call's own. -/
import Derived.Test.YtkhhloeemecokaaBase
import Derived.Deep.AppendLies
namespace Go.Proofs.Ytkhhloeemecokaa
open Go.RowKit

theorem news_of {w : World} {b off m : Nat} {ys : List Int} (hm : ys.length = m) (hc : ∀ j, j < m → w.cell? ⟨b, off + j, none⟩ = some (.int .i64 (ys.getD j 0))) :
    ∀ j u, (ys.map (Value.int .i64))[j]? = some u → w.cell? ((⟨b, off, none⟩ : Addr).add j) = some u := by
  intro j u h
  rw [List.getElem?_map] at h
  have hj : j < ys.length := by
    rcases Nat.lt_or_ge j ys.length with h1 | h1
    · exact h1
    · rw [List.getElem?_eq_none h1] at h; simp at h
  rw [List.getElem?_eq_getElem hj] at h
  rw [add_at, hc j (by omega)]
  simp only [Option.map_some, Option.some.injEq] at h
  rw [← h]
  simp [hj]

theorem one_of (ys : List Int) : ∀ u ∈ ys.map (Value.int .i64), u.oneCell' = true := by
  intro u hu
  simp only [List.mem_map] at hu
  obtain ⟨x, _, rfl⟩ := hu
  rfl

theorem appN_step {w : World} {ops : Array Oper} {o : Oper} {a : Act} {K : Act → World → Prop} {Q : Exit → Act → World → Prop} {E : Prop} (hgd : o.guard = none) (s x : Operand)
    (ho : o.op = .call { callee := .builtin .append, args := #[s, x], argTypes := #[28, 28] })
    (B : Nat) (sv : Value) (zs ys : List Int) (b off m c : Nat) (hs : a.eval s = sv) (hx : a.eval x = .slice (some ⟨b, off, none⟩) m c) (hm : ys.length = m) (h0 : 0 < m)
    (hc : ∀ j, j < m → w.cell? ⟨b, off + j, none⟩ = some (.int .i64 (ys.getD j 0))) (hown : Own w B sv zs) (hB : B ≤ w.heap.size) (N : Nat) (hN : zs.length + m = N) (hlen : N ≤ 1099511627776)
    (h : ∀ g cap w', Own w' B (.slice (some ⟨g, 0, none⟩) N cap) (zs ++ ys) → w.grownBy w' sv.ownBlock → K (a.put o.dst (.slice (some ⟨g, 0, none⟩) N cap)) w') :
    if Region.wanted o (yielded ops a.tmps) = true then Oper.wp Try.prog o a w K Q else E := by
  subst hN
  obtain ⟨i0, hi, hz0, hz1, hz2⟩ := info_parts Try.infoInt
  refine step_append_lies w hgd s x 28 ho B 3 i0 (.int .i64 0) 1 8 Try.underlying28 hi hz0 hz1 hz2 rfl (by decide) sv zs.length (zs.map (Value.int .i64)) hs hown ⟨b, off, none⟩ m c (ys.map (Value.int .i64)) hx (by simp [hm]) (news_of hm hc) (one_of ys) h0 (by unfold maxLen; omega) (by omega) hB w.heap.size rfl ?_
  intro g cap w' ho' hg' _ _
  refine h g cap w' ?_ hg'
  unfold Own
  rw [List.length_append, hm, List.map_append]
  exact ho'

theorem appN {w : World} {ops : Array Oper} {rest : List Oper} {o : Oper} {a : Act} {Q : Exit → Act → World → Prop} (hgd : o.guard = none) (s x : Operand)
    (ho : o.op = .call { callee := .builtin .append, args := #[s, x], argTypes := #[28, 28] })
    (B : Nat) (sv : Value) (zs ys : List Int) (b off m c : Nat) (hs : a.eval s = sv) (hx : a.eval x = .slice (some ⟨b, off, none⟩) m c) (hm : ys.length = m)
    (hc : ∀ j, j < m → w.cell? ⟨b, off + j, none⟩ = some (.int .i64 (ys.getD j 0))) (hown : Own w B sv zs) (hB : B ≤ w.heap.size) (hlen : zs.length + m ≤ 1099511627776)
    (h : ∀ v' w', Own w' B v' (zs ++ ys) → w.grownBy w' sv.ownBlock → wpList Try.prog ops Q rest (a.put o.dst v') w') :
    wpList Try.prog ops Q (o :: rest) a w := by
  obtain ⟨i0, hi, hz0, hz1, hz2⟩ := info_parts Try.infoInt
  refine wpList_append_own _ hgd s x 28 ho B 3 i0 (.int .i64 0) 1 8 Try.underlying28 hi hz0 hz1 hz2 rfl (by decide) sv zs.length (zs.map (Value.int .i64)) hs hown ⟨b, off, none⟩ m c (ys.map (Value.int .i64)) hx (by simp [hm]) (news_of hm hc) (one_of ys) (by unfold maxLen; omega) (by omega) hB ?_
  intro v' w' ho' hg' _
  refine h v' w' ?_ hg'
  unfold Own
  rw [List.length_append, hm, List.map_append]
  exact ho'

theorem Own.form {w : World} {B : Nat} {v : Value} {zs : List Int} (h : Own w B v zs) (hn : 0 < zs.length) : ∃ g cap, v = .slice (some ⟨g, 0, none⟩) zs.length cap ∧ B ≤ g ∧ g < w.heap.size ∧ zs.length ≤ cap ∧ cap ≤ maxLen := by
  rcases h.2 with ⟨_, h0⟩ | ⟨g, cap, cur, hv, hb, hg, hc, hm, _⟩
  · omega
  · exact ⟨g, cap, hv, hb, (Array.getElem?_eq_some_iff.1 hg).1, hc, hm⟩

theorem Own.lit1 (w : World) (B : Nat) (x : Int) (hB : B ≤ w.heap.size) : Own (w.alloc (.cells #[.int .i64 x] 3)) B (.slice (some ⟨w.heap.size, 0, none⟩) 1 1) [x] :=
  World.ownsRow_lit (e := 3) (size := 1) w #[.int .i64 x] 1 hB (by decide) rfl
theorem Own.lit2 (w : World) (B : Nat) (x y : Int) (hB : B ≤ w.heap.size) : Own (w.alloc (.cells #[.int .i64 x, .int .i64 y] 3)) B (.slice (some ⟨w.heap.size, 0, none⟩) 2 2) [x, y] :=
  World.ownsRow_lit (e := 3) (size := 1) w #[.int .i64 x, .int .i64 y] 2 hB (by decide) rfl

end Go.Proofs.Ytkhhloeemecokaa
