/- Memory words for the program's pile of steps; the contract of its order. -/
import Derived.Test.YtkhhloeemecokaaPlainP
import Derived.Test.YtkhhloeemecokaaMat
import Derived.Deep.AppendLies
import Derived.OneCell
namespace Go.Proofs.Ytkhhloeemecokaa
open Go.RowKit
set_option linter.unusedVariables false

def cellsL (L : List (Int × Int)) : List Value := L.flatMap (fun x => [Value.int .i64 x.1, Value.int .i64 x.2])
theorem cellsL_len (L : List (Int × Int)) : (cellsL L).length = L.length * 2 := by
  unfold cellsL
  induction L with
  | nil => rfl
  | cons x l ih => simp only [List.flatMap_cons, List.length_append, List.length_cons, List.length_nil, ih]; omega
theorem cellsL_app (L : List (Int × Int)) (x : Int × Int) : cellsL (L ++ [x]) = cellsL L ++ [Value.int .i64 x.1, Value.int .i64 x.2] := by simp [cellsL]
theorem cellsL_get (L : List (Int × Int)) (i : Nat) (h : i < L.length) : (cellsL L)[i * 2]? = some (.int .i64 (at2 L i).1) ∧ (cellsL L)[i * 2 + 1]? = some (.int .i64 (at2 L i).2) := by
  induction L generalizing i with
  | nil => simp at h
  | cons x l ih =>
    cases i with
    | zero => simp [cellsL, at2]
    | succ i =>
      have := ih i (by simpa using h)
      unfold cellsL at this ⊢
      rw [show (i + 1) * 2 = i * 2 + 2 by omega]
      simp only [List.flatMap_cons, List.cons_append, List.nil_append]
      refine ⟨?_, ?_⟩
      · rw [show i * 2 + 2 = (i * 2 + 1) + 1 by omega, List.getElem?_cons_succ, List.getElem?_cons_succ]
        rw [this.1]; rfl
      · rw [List.getElem?_cons_succ, show i * 2 + 2 = (i * 2 + 1) + 1 by omega, List.getElem?_cons_succ]
        rw [this.2]; rfl
theorem cellsL_set (L : List (Int × Int)) (i : Nat) (h : i < L.length) (x : Int × Int) : cellsL (L.set i x) = ((cellsL L).set (i * 2) (.int .i64 x.1)).set (i * 2 + 1) (.int .i64 x.2) := by
  induction L generalizing i with
  | nil => simp at h
  | cons y l ih =>
    cases i with
    | zero => simp [cellsL]
    | succ i =>
      have := ih i (by simpa using h)
      unfold cellsL at this ⊢
      rw [show (i + 1) * 2 = i * 2 + 1 + 1 by omega]
      simp only [List.set_cons_succ, List.flatMap_cons, List.cons_append, List.nil_append, this]
theorem cellsL_take (L : List (Int × Int)) (n : Nat) : (cellsL L).take (n * 2) = cellsL (L.take n) := by
  induction L generalizing n with
  | nil => simp [cellsL]
  | cons x l ih =>
    cases n with
    | zero => simp [cellsL]
    | succ n =>
      have := ih n
      unfold cellsL at this ⊢
      rw [show (n + 1) * 2 = n * 2 + 1 + 1 by omega]
      simp only [List.take_succ_cons, List.flatMap_cons, List.cons_append, List.nil_append, this]

/-- The slice value is the call's own and reads as the list of pairs. -/
def OwnP (w : World) (B : Nat) (v : Value) (L : List (Int × Int)) : Prop := w.ownsRow B 71 2 v L.length (cellsL L)
theorem OwnP.nil (w : World) (B : Nat) : OwnP w B (.slice none 0 0) [] := World.ownsRow_nil w B 71 2
theorem OwnP.below {w w' : World} {B : Nat} {v : Value} {L : List (Int × Int)} (h : OwnP w B v L) (hb : Below w.heap.size w w') : OwnP w' B v L :=
  World.ownsRow.kept h (grownBy_of_below hb none) (by cases v.ownBlock <;> simp)
theorem OwnP.drewN {w : World} {B : Nat} {v : Value} {L : List (Int × Int)} (h : OwnP w B v L) (q : Nat) : OwnP (w.drewN q) B v L := h
theorem OwnP.form {w : World} {B : Nat} {v : Value} {L : List (Int × Int)} (h : OwnP w B v L) (hn : 0 < L.length) : ∃ g cap, v = .slice (some ⟨g, 0, none⟩) L.length cap ∧ B ≤ g ∧ g < w.heap.size ∧ L.length ≤ cap := by
  rcases h.2 with ⟨_, h0⟩ | ⟨g, cap, cur, hv, hb, hg, hc, hm, _⟩
  · omega
  · exact ⟨g, cap, hv, hb, (Array.getElem?_eq_some_iff.1 hg).1, hc⟩
theorem OwnP.len {w : World} {B n cap : Nat} {a : Option Addr} {L : List (Int × Int)} (h : OwnP w B (.slice a n cap) L) : n = L.length := by
  rcases h.2 with ⟨hv, hn⟩ | ⟨g, cap', cur, hv, _⟩
  · simp only [Value.slice.injEq] at hv; omega
  · simp only [Value.slice.injEq] at hv; exact hv.2.1
theorem OwnP.shape {w : World} {B : Nat} {v : Value} {L : List (Int × Int)} (h : OwnP w B v L) : ∃ a cap, v = .slice a L.length cap := by
  rcases h.2 with ⟨hv, hn⟩ | ⟨g, cap, cur, hv, _⟩
  · exact ⟨none, 0, by rw [hv, hn]⟩
  · exact ⟨_, _, hv⟩
theorem OwnP.lt {w : World} {B : Nat} {v : Value} {L : List (Int × Int)} (h : OwnP w B v L) : ∀ k, v.ownBlock = some k → B ≤ k ∧ k < w.heap.size := World.ownsRow.lt h
theorem OwnP.cells {w : World} {B g n cap : Nat} {L : List (Int × Int)} (h : OwnP w B (.slice (some ⟨g, 0, none⟩) n cap) L) (i : Nat) (hi : i < n) :
    w.cell? ⟨g, i * 2, none⟩ = some (.int .i64 (at2 L i).1) ∧ w.cell? ⟨g, i * 2 + 1, none⟩ = some (.int .i64 (at2 L i).2) ∧ w.frozen? ⟨g, i * 2, none⟩ = false ∧ w.frozen? ⟨g, i * 2 + 1, none⟩ = false := by
  obtain rfl := h.len
  have q := cellsL_get L i hi
  exact ⟨by rw [World.ownsRow.cellAt h (i * 2) (by omega)]; exact q.1, by rw [World.ownsRow.cellAt h (i * 2 + 1) (by omega)]; exact q.2, World.ownsRow.frozenAt h _, World.ownsRow.frozenAt h _⟩
/-- A pair is stored. -/
theorem OwnP.store {w : World} {B g n cap : Nat} {L : List (Int × Int)} (h : OwnP w B (.slice (some ⟨g, 0, none⟩) n cap) L) (i : Nat) (hi : i < n) (x : Int × Int) :
    OwnP ((w.setCell ⟨g, i * 2, none⟩ (.int .i64 x.1)).setCell ⟨g, i * 2 + 1, none⟩ (.int .i64 x.2)) B (.slice (some ⟨g, 0, none⟩) n cap) (L.set i x) ∧ w.grownBy ((w.setCell ⟨g, i * 2, none⟩ (.int .i64 x.1)).setCell ⟨g, i * 2 + 1, none⟩ (.int .i64 x.2)) (some g) := by
  obtain rfl := h.len
  have h1 := World.ownsRow.stored h (i * 2) (.int .i64 x.1)
  have h2 := World.ownsRow.stored h1.1 (i * 2 + 1) (.int .i64 x.2)
  refine ⟨?_, grownBy_trans h1.2 h2.2⟩
  unfold OwnP
  rw [List.length_set, cellsL_set L i hi x]
  exact h2.1
theorem Try.infoStep : (Try.prog.info? 71).map (fun i => (i.zero, i.size, i.bytes)) = some (some (.agg #[.int .i64 0, .int .i64 0]), 2, 16) := by kernel_rfl
/-- 'append(s, x)' of a pair, as a step of a drawn region. -/
theorem appP_step {w : World} {ops : Array Oper} {o : Oper} {a : Act} {K : Act → World → Prop} {Q : Exit → Act → World → Prop} {E : Prop} (hgd : o.guard = none) (s x : Operand)
    (ho : o.op = .call { callee := .builtin .append, args := #[s, x], argTypes := #[73, 73] })
    (B : Nat) (sv : Value) (L : List (Int × Int)) (c p : Int) (b : Nat) (hs : a.eval s = sv) (hx : a.eval x = .slice (some ⟨b, 0, none⟩) 1 1) (hb : w.heap[b]? = some (.cells #[.int .i64 c, .int .i64 p] 71 (0, 0)))
    (hown : OwnP w B sv L) (hB : B ≤ w.heap.size) (n : Nat) (hn : n = L.length + 1) (hlen : L.length ≤ 1000000)
    (h : ∀ g cap w', OwnP w' B (.slice (some ⟨g, 0, none⟩) n cap) (L ++ [(c, p)]) → w.grownBy w' sv.ownBlock → (sv.ownBlock = some g ∨ w.heap.size ≤ g) → g < w'.heap.size → K (a.put o.dst (.slice (some ⟨g, 0, none⟩) n cap)) w') :
    if Region.wanted o (yielded ops a.tmps) = true then Oper.wp Try.prog o a w K Q else E := by
  obtain ⟨i0, hi, hz0, hz1, hz2⟩ := info_parts Try.infoStep
  refine step_append_lies w hgd s x 73 ho B 71 i0 (.agg #[.int .i64 0, .int .i64 0]) 2 16 Try.underlying73 hi hz0 hz1 hz2 rfl (by decide) sv L.length (cellsL L) hs hown ⟨b, 0, none⟩ 1 1 [.int .i64 c, .int .i64 p] hx rfl ?_ (by intro u hu; simp at hu; rcases hu with rfl | rfl <;> rfl) (by decide) (by unfold maxLen; omega) (by omega) hB w.heap.size rfl ?_
  · intro j u hj
    rw [add_at, Nat.zero_add, cell_of_row w b j _ _ (0, 0) hb]
    simpa using hj
  · intro g cap w' ho' hg' hat hlt
    subst hn
    refine h g cap w' ?_ hg' ?_ hlt
    · unfold OwnP
      rw [cellsL_app, List.length_append]
      exact ho'
    · rcases hat with hat | hat
      · exact .inl hat
      · exact .inr (by omega)

/-- The pile's block. -/
def PileAt (Bp B : Nat) (v : Value) (L : List (Int × Int)) (w : World) : Prop := w.heap[Bp]? = some (.cells #[.func (.func 67) #[] #[], v] 75 (0, 0)) ∧ OwnP w B v L
theorem pile_cells {Bp : Nat} {v : Value} {w : World} (h : w.heap[Bp]? = some (.cells #[.func (.func 67) #[] #[], v] 75 (0, 0))) : Bp < w.heap.size ∧ w.cell? ⟨Bp, 0, none⟩ = some (.func (.func 67) #[] #[]) ∧ w.cell? ⟨Bp, 1, none⟩ = some v ∧ w.frozen? ⟨Bp, 0, none⟩ = false ∧ w.frozen? ⟨Bp, 1, none⟩ = false :=
  ⟨(Array.getElem?_eq_some_iff.1 h).1, by rw [cell_of_row _ Bp 0 _ _ (0, 0) h]; rfl, by rw [cell_of_row _ Bp 1 _ _ (0, 0) h]; rfl, by simp [World.frozen?, h], by simp [World.frozen?, h]⟩
theorem cell_grown {w w' : World} {r : Option Nat} {b i : Nat} {u : Value} (hg : w.grownBy w' r) (hc : w.cell? ⟨b, i, none⟩ = some u) (hr : r ≠ some b) : w'.cell? ⟨b, i, none⟩ = some u := by
  rw [← hc]
  simp only [World.cell?, hg.block b (World.block_lt_of_cell? _ _ hc) (fun e => hr e.symm)]
theorem OwnP.setOther {w : World} {B : Nat} {v : Value} {L : List (Int × Int)} (h : OwnP w B v L) {g : Nat} (hg : v.ownBlock ≠ some g) (i : Nat) (x : Value) : OwnP (w.setCell ⟨g, i, none⟩ x) B v L :=
  World.ownsRow.kept h (row := some g) ⟨rfl, rfl, rfl, by simp, fun k _ hk => heap_setCell_other w ⟨g, i, none⟩ k x (fun e => hk (by simp [e]))⟩ (.inr hg)
theorem PileAt.put {Bp B : Nat} {v v' : Value} {L : List (Int × Int)} {w : World} (h : w.heap[Bp]? = some (.cells #[.func (.func 67) #[] #[], v] 75 (0, 0))) (ho : OwnP w B v' L) (hne : v'.ownBlock ≠ some Bp) : PileAt Bp B v' L (w.setCell ⟨Bp, 1, none⟩ v') :=
  ⟨by rw [heap_setCell_same w Bp 1 _ _ _ h]; rfl, ho.setOther hne _ _⟩
theorem PileAt.cells {Bp B : Nat} {v : Value} {L : List (Int × Int)} {w : World} (h : PileAt Bp B v L w) : Bp < w.heap.size ∧ w.cell? ⟨Bp, 0, none⟩ = some (.func (.func 67) #[] #[]) ∧ w.cell? ⟨Bp, 1, none⟩ = some v ∧ w.frozen? ⟨Bp, 0, none⟩ = false ∧ w.frozen? ⟨Bp, 1, none⟩ = false := by
  have h := h.1
  exact ⟨(Array.getElem?_eq_some_iff.1 h).1, by rw [cell_of_row _ Bp 0 _ _ (0, 0) h]; rfl, by rw [cell_of_row _ Bp 1 _ _ (0, 0) h]; rfl, by simp [World.frozen?, h], by simp [World.frozen?, h]⟩
theorem PileAt.below {Bp B : Nat} {v : Value} {L : List (Int × Int)} {w w' : World} (h : PileAt Bp B v L w) (hb : Below w.heap.size w w') : PileAt Bp B v L w' :=
  ⟨(hb.block Bp h.cells.1).trans h.1, h.2.below hb⟩
theorem PileAt.drewN {Bp B : Nat} {v : Value} {L : List (Int × Int)} {w : World} (h : PileAt Bp B v L w) (q : Nat) : PileAt Bp B v L (w.drewN q) := h
theorem PileAt.ne {Bp B : Nat} {v : Value} {L : List (Int × Int)} {w : World} (h : PileAt Bp B v L w) : v.ownBlock ≠ some Bp := by
  intro e
  rcases h.2.2 with ⟨hv, -⟩ | ⟨g, cap, cur, hv, -, hg, -⟩
  · rw [hv] at e; simp [Value.ownBlock] at e
  · rw [hv] at e
    simp only [Value.ownBlock, Option.some.injEq] at e
    subst e
    rw [h.1] at hg
    simp at hg
theorem ahead_yes (c1 p1 c2 p2 : Int) (w : World) (h : p2 < p1) : Calls Try.prog 67 #[.agg #[.int .i64 c1, .int .i64 p1], .agg #[.int .i64 c2, .int .i64 p2]] w fun e w' => e = .returned (.bool true) ∧ Below w.heap.size w w' := by
  go_enter Try.func67, Try.ntmps67
  go_wp2
  go_ret
  have b1 := Below.alloc (Below.refl w.heap.size w) (Nat.le_refl _) (.cells #[.int .i64 c1, .int .i64 p1] 71)
  exact ⟨ret_bool (by simp), Below.alloc b1 b1.size _⟩
theorem ahead_no (c1 p1 c2 p2 : Int) (w : World) (h : ¬ p2 < p1) : Calls Try.prog 67 #[.agg #[.int .i64 c1, .int .i64 p1], .agg #[.int .i64 c2, .int .i64 p2]] w fun e w' => e = .returned (.bool false) ∧ Below w.heap.size w w' := by
  go_enter Try.func67, Try.ntmps67
  go_wp2
  go_ret
  have b1 := Below.alloc (Below.refl w.heap.size w) (Nat.le_refl _) (.cells #[.int .i64 c1, .int .i64 p1] 71)
  exact ⟨ret_bool (by simp), Below.alloc b1 b1.size _⟩

end Go.Proofs.Ytkhhloeemecokaa
