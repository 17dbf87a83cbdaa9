/- The reader beside a slice of slices of the call's own. -/
import Derived.Test.YtkhhloeemecokaaOutM
import Derived.Test.YtkhhloeemecokaaProf
namespace Go.Proofs.Ytkhhloeemecokaa
open Go.RowKit
set_option linter.unusedVariables false

/-- The matrix is the call's own (nothing on where its rows lie). -/
def MOwn (w : World) (B : Nat) (v : Value) (g : List (List Int)) : Prop :=
  ∃ us : List Value, us.length = g.length ∧ w.ownsRow B 28 1 v g.length us ∧ ∀ i, i < g.length → Own w B (us.getD i undef) (g.getD i [])
theorem MOwn.mrow {w : World} {B : Nat} {v : Value} {g : List (List Int)} (h : MOwn w B v g) : MRow w v g := by
  obtain ⟨us, a1, a2, a7⟩ := h
  have a2' := a2
  rcases a2.2 with ⟨hv, hn⟩ | ⟨b, cap, cur, hv, hB, hh, hle, hm, hs, ht⟩
  · have : g = [] := List.eq_nil_of_length_eq_zero hn
    subst this
    exact ⟨none, 0, hv, .inl rfl⟩
  · refine ⟨some ⟨b, 0, none⟩, cap, hv, .inr ⟨b, 0, rfl, fun i hi => ?_⟩⟩
    subst hv
    refine ⟨us.getD i undef, ?_, (a7 i hi).row⟩
    rw [Nat.zero_add, World.ownsRow.cellAt a2' i (by omega)]
    simp [a1, hi]
theorem OutM.mown {w : World} {B D : Nat} {v : Value} {g : List (List Int)} (h : OutM w B D v g) : MOwn w B v g := by
  obtain ⟨us, L, a1, a2, a3, a4, a5, a6, a7⟩ := h
  exact ⟨us, a1, a2, fun i hi => (a7 i hi).1.mono (Nat.le_trans a4 (mono_le a3 (Nat.zero_le _)))⟩
theorem MOwn.below {w w' : World} {B : Nat} {v : Value} {g : List (List Int)} (h : MOwn w B v g) (hb : Below w.heap.size w w') : MOwn w' B v g := by
  obtain ⟨us, a1, a2, a7⟩ := h
  exact ⟨us, a1, a2.kept (grownBy_of_below hb none) (by cases v.ownBlock <;> simp), fun i hi => (a7 i hi).below hb⟩
theorem Rd.not_row {w0 : World} {a : Option Addr} {m cap R : Nat} {w : World} {q B n : Nat} {v : Value} {us : List Value} (h : Rd w0 a m cap R w q) (ho : w.ownsRow B 28 1 v n us) : v.ownBlock ≠ some R := by
  rcases ho.2 with ⟨hv, _⟩ | ⟨g', cap', cur, hv, _, hh, _⟩
  · rw [hv]; simp [Value.ownBlock]
  · rw [hv]
    simp only [Value.ownBlock, ne_eq, Option.some.injEq]
    intro e
    subst e
    have := h.2.1
    rw [hh] at this
    simp at this
theorem OutM.rd {w0 : World} {a : Option Addr} {m cap R : Nat} {w w' : World} {q B D : Nat} {v : Value} {g : List (List Int)} (h : OutM w B D v g) (hr : Rd w0 a m cap R w q) (hg : w.grownBy w' (some R)) : OutM w' B D v g := by
  obtain ⟨us, L, a1, a2, a3, a4, a5, a6, a7⟩ := h
  refine ⟨us, L, a1, a2.kept hg (.inr (hr.not_row a2)), a3, a4, a5, Nat.le_trans a6 hg.size, fun i hi => ⟨(a7 i hi).1.rd hr hg, (a7 i hi).2⟩⟩
theorem MOwn.rd {w0 : World} {a : Option Addr} {m cap R : Nat} {w w' : World} {q B : Nat} {v : Value} {g : List (List Int)} (h : MOwn w B v g) (hr : Rd w0 a m cap R w q) (hg : w.grownBy w' (some R)) : MOwn w' B v g := by
  obtain ⟨us, a1, a2, a7⟩ := h
  exact ⟨us, a1, a2.kept hg (.inr (hr.not_row a2)), fun i hi => (a7 i hi).rd hr hg⟩
theorem MOwn.over {w0 : World} {a : Option Addr} {m cap R : Nat} {w w' w'' : World} {q q2 B : Nat} {v : Value} {g : List (List Int)} (ho : MOwn w' B v g) (h : Drawn w0 a m cap R w q w') (k : Drawn w0 a m cap R w' q2 w'') : MOwn w'' B v g := by
  obtain ⟨_, ⟨_, _, h2⟩, _⟩ := h
  exact ho.rd h2 k.gr
theorem OutM.over {w0 : World} {a : Option Addr} {m cap R : Nat} {w w' w'' : World} {q q2 B D : Nat} {v : Value} {g : List (List Int)} (ho : OutM w' B D v g) (h : Drawn w0 a m cap R w q w') (k : Drawn w0 a m cap R w' q2 w'') : OutM w'' B D v g := by
  obtain ⟨_, ⟨_, _, h2⟩, _⟩ := h
  exact ho.rd h2 k.gr
/-- The outer slice is written. -/
theorem Drawn.outM {w0 : World} {a : Option Addr} {m cap R : Nat} {w w' w'' : World} {q D : Nat} {v : Value} {g : List (List Int)} (h : Drawn w0 a m cap R w q w') (ho : OutM w' w.heap.size D v g) (hg : w'.grownBy w'' v.ownBlock) : Drawn w0 a m cap R w q w'' := by
  obtain ⟨h0, ⟨q', h1, h2⟩, h3⟩ := h
  have hw := ho.owns
  obtain ⟨us, L, a1, a2, a3, a4, a5, a6, a7⟩ := ho
  have hR := h2.not_row a2
  refine ⟨h0, ⟨q', h1, h2.1, ?_, h2.2.2.trans (below_of_grown hg h2.2.2.size (fun k e => Nat.le_trans h0 (hw k e).1))⟩, hg.os.trans h3.os, hg.tape.trans h3.tape, hg.output.trans h3.output, Nat.le_trans h3.size hg.size, fun k hk hne => ?_⟩
  · rw [hg.block R h2.lt (fun e => hR e.symm)]; exact h2.2.1
  · rw [hg.block k (Nat.lt_of_lt_of_le hk h3.size) (fun e => by have := (hw k e.symm).1; omega)]
    exact h3.block k hk hne
/-- An own slice is kept while the outer one is written. -/
theorem Own.outM {w w' : World} {B B' D : Nat} {v u : Value} {g : List (List Int)} {z : List Int} (hu : Own w B' u z) (ho : OutM w B D v g) (hg : w.grownBy w' v.ownBlock) : Own w' B' u z := by
  obtain ⟨us, L, a1, a2, -⟩ := ho
  exact hu.kept hg (fun k hk e => rows_apart a2 hu e hk)
/-- A store into the first row. -/
theorem OutM.reset {w : World} {B D : Nat} {v : Value} {g : List (List Int)} (h : OutM w B D v g) (hn : 0 < g.length) (h0 : 0 < (g.getD 0 []).length) :
    ∃ O cap G c, v = .slice (some ⟨O, 0, none⟩) g.length cap ∧ w.cell? ⟨O, 0, none⟩ = some (.slice (some ⟨G, 0, none⟩) (g.getD 0 []).length c) ∧ w.cell? ⟨G, 0, none⟩ = some (.int .i64 ((g.getD 0 []).getD 0 0)) ∧ w.frozen? ⟨G, 0, none⟩ = false ∧ O ≠ G ∧ B ≤ G ∧ G < w.heap.size ∧ w.ownsRow B 3 1 (.slice (some ⟨G, 0, none⟩) (g.getD 0 []).length c) (g.getD 0 []).length ((g.getD 0 []).map (Value.int .i64)) ∧
      ∀ x, MOwn (w.setCell ⟨G, 0, none⟩ (.int .i64 x)) B v (g.set 0 ((g.getD 0 []).set 0 x)) := by
  obtain ⟨us, L, a1, a2, a3, a4, a5, a6, a7⟩ := h
  have q0 := a7 0 hn
  obtain ⟨G, c, hu, hG1, hG2, hG3, hG4⟩ := q0.1.form h0
  have a2' := a2
  rcases a2.2 with ⟨hv, hn'⟩ | ⟨O, cap, cur, hv, hB, hh, hle, hm, hs, ht⟩
  · omega
  subst hv
  have hOG : O ≠ G := fun e => rows_apart a2' q0.1 (k := O) rfl (by rw [hu]; simp [Value.ownBlock, e])
  have hcell : ∀ i, i < g.length → w.cell? ⟨O, i, none⟩ = some (us.getD i undef) := fun i hi => by
    rw [World.ownsRow.cellAt a2' i (by omega)]
    simp [a1, hi]
  have ho0 := q0.1
  rw [hu] at ho0
  refine ⟨O, cap, G, c, rfl, by rw [hcell 0 hn, hu], ho0.cellAt 0 h0, ho0.frozenAt 0, hOG, Nat.le_trans a4 hG1, hG2, ho0.mono a4, fun x => ?_⟩
  have hst : w.grownBy (w.setCell ⟨G, 0, none⟩ (.int .i64 x)) (some G) := ⟨rfl, rfl, rfl, by simp, fun k _ hk => heap_setCell_other w ⟨G, 0, none⟩ k _ (fun e => hk (by simp [e]))⟩
  refine ⟨us, by simp [a1], by rw [List.length_set]; exact a2'.kept hst (.inr (by simp [Value.ownBlock, hOG])), fun i hi => ?_⟩
  simp only [List.length_set] at hi
  by_cases e : i = 0
  · subst e
    rw [show (g.set 0 ((g.getD 0 []).set 0 x)).getD 0 [] = (g.getD 0 []).set 0 x by simp [List.getD_eq_getElem?_getD, hn]]
    rw [hu]
    have := (ho0.store 0 x).1.mono a4
    exact this
  · rw [show (g.set 0 ((g.getD 0 []).set 0 x)).getD i [] = g.getD i [] by simp [List.getD_eq_getElem?_getD, Ne.symm e]]
    refine ((a7 i hi).1.setOther (fun k hk => ?_) _ _).mono (Nat.le_trans a4 (mono_le a3 (Nat.zero_le _)))
    have q1 := ((a7 i hi).1.lt k hk).1
    have q2 := q0.2 G (by rw [hu]; rfl)
    have q3 := mono_le a3 (show 0 + 1 ≤ i by omega)
    omega
/-- The last row is appended to, and stored back. -/
theorem OutM.relast {w : World} {B D : Nat} {v : Value} {g : List (List Int)} (h : OutM w B D v g) (hn : 0 < g.length) :
    ∃ O cap u, v = .slice (some ⟨O, 0, none⟩) g.length cap ∧ w.cell? ⟨O, g.length - 1, none⟩ = some u ∧ Own w B u (g.getD (g.length - 1) []) ∧ B ≤ O ∧
      ∀ w' v' z', w.grownBy w' u.ownBlock → Own w' B v' z' → w'.cell? ⟨O, g.length - 1, none⟩ = some u ∧ w'.frozen? ⟨O, g.length - 1, none⟩ = false ∧ MOwn (w'.setCell ⟨O, g.length - 1, none⟩ v') B v (g.set (g.length - 1) z') := by
  obtain ⟨us, L, a1, a2, a3, a4, a5, a6, a7⟩ := h
  have ql := a7 (g.length - 1) (by omega)
  have a2' := a2
  rcases a2.2 with ⟨hv, hn'⟩ | ⟨O, cap, cur, hv, hB, hh, hle, hm, hs, ht⟩
  · omega
  subst hv
  have hcell : ∀ i, i < g.length → w.cell? ⟨O, i, none⟩ = some (us.getD i undef) := fun i hi => by
    rw [World.ownsRow.cellAt a2' i (by omega)]
    simp [a1, hi]
  refine ⟨O, cap, us.getD (g.length - 1) undef, rfl, hcell _ (by omega), ql.1.mono (Nat.le_trans a4 (mono_le a3 (Nat.zero_le _))), hB, fun w' v' z' hg hv' => ?_⟩
  have hne : (us.getD (g.length - 1) undef).ownBlock ≠ some O := rows_apart a2' ql.1 (k := O) rfl
  have b2 := a2'.kept hg (.inr (fun e => hne e.symm))
  have hcell' : ∀ i, i < g.length → w'.cell? ⟨O, i, none⟩ = some (us.getD i undef) := fun i hi => by
    rw [World.ownsRow.cellAt b2 i (by omega)]
    simp [a1, hi]
  refine ⟨hcell' _ (by omega), World.ownsRow.frozenAt b2 _, ?_⟩
  have b3 := (World.ownsRow.stored b2 (g.length - 1) v').1
  refine ⟨us.set (g.length - 1) v', by simp [a1], by rw [List.length_set]; exact b3, fun i hi => ?_⟩
  simp only [List.length_set] at hi
  have hrow : Own (w'.setCell ⟨O, g.length - 1, none⟩ v') B ((us.set (g.length - 1) v').getD i undef) ((g.set (g.length - 1) z').getD i []) := by
    by_cases e : i = g.length - 1
    · subst e
      rw [show (us.set (g.length - 1) v').getD (g.length - 1) undef = v' by simp [List.getD_eq_getElem?_getD, a1, hi], show (g.set (g.length - 1) z').getD (g.length - 1) [] = z' by simp [List.getD_eq_getElem?_getD, hi]]
      exact hv'.setOther (fun k hk e => rows_apart b2 hv' (k := O) rfl (by rw [hk, e])) _ _
    · rw [show (us.set (g.length - 1) v').getD i undef = us.getD i undef by simp [List.getD_eq_getElem?_getD, Ne.symm e], show (g.set (g.length - 1) z').getD i [] = g.getD i [] by simp [List.getD_eq_getElem?_getD, Ne.symm e]]
      have oi := (a7 i hi).1.kept hg (fun k hk e' => by
        have q1 := (ql.1.lt k e').1
        have q2 := (a7 i hi).2 k hk
        have q3 := mono_le a3 (show i + 1 ≤ g.length - 1 by omega)
        omega)
      exact (oi.setOther (fun k hk e' => rows_apart b2 oi (k := O) rfl (by rw [hk, e'])) _ _).mono (Nat.le_trans a4 (mono_le a3 (Nat.zero_le _)))
  exact hrow

theorem OutM.cell_over {w0 : World} {a : Option Addr} {m cap R : Nat} {w w' w'' : World} {q q2 B D O n c : Nat} {g : List (List Int)} (ho : OutM w' B D (.slice (some ⟨O, 0, none⟩) n c) g) (h : Drawn w0 a m cap R w q w') (k : Drawn w0 a m cap R w' q2 w'') (i : Nat) : w''.cell? ⟨O, i, none⟩ = w'.cell? ⟨O, i, none⟩ := by
  obtain ⟨_, ⟨_, _, h2⟩, _⟩ := h
  have hl := (ho.owns O rfl).2
  obtain ⟨us, L, a1, a2, -⟩ := ho
  have hR := h2.not_row a2
  simp only [World.cell?, k.gr.block O hl (fun e => hR (by simp only [Value.ownBlock]; exact e))]
theorem OutM.drewN {w : World} {B D : Nat} {v : Value} {g : List (List Int)} (h : OutM w B D v g) (q : Nat) : OutM (w.drewN q) B D v g := by
  obtain ⟨us, L, a1, a2, a3, a4, a5, a6, a7⟩ := h
  exact ⟨us, L, a1, a2, a3, a4, a5, a6, fun i hi => ⟨(a7 i hi).1.drewN q, (a7 i hi).2⟩⟩

theorem OutM.ne_rd {w0 : World} {a : Option Addr} {m cap R : Nat} {w w' : World} {q B D O n c : Nat} {g : List (List Int)} (ho : OutM w' B D (.slice (some ⟨O, 0, none⟩) n c) g) (h : Drawn w0 a m cap R w q w') : O ≠ R := by
  obtain ⟨_, ⟨_, _, h2⟩, _⟩ := h
  obtain ⟨us, L, a1, a2, -⟩ := ho
  have hR := h2.not_row a2
  exact fun e => hR (by simp only [Value.ownBlock]; rw [e])
theorem Drawn.setO {w0 : World} {a : Option Addr} {m cap R : Nat} {w w' : World} {q O : Nat} (h : Drawn w0 a m cap R w q w') (hO : w.heap.size ≤ O) (hne : O ≠ R) (i : Nat) (x : Value) : Drawn w0 a m cap R w q (w'.setCell ⟨O, i, none⟩ x) := by
  obtain ⟨h0, ⟨q', h1, h2⟩, h3⟩ := h
  refine ⟨h0, ⟨q', h1, h2.1, ?_, h2.2.2.setCell (p := ⟨O, i, none⟩) (Nat.le_trans h0 hO) _⟩, h3.os, h3.tape, h3.output, by simpa using h3.size, fun k hk hk2 => ?_⟩
  · rw [heap_setCell_other w' ⟨O, i, none⟩ R x (fun e => hne (by simpa using e.symm))]; exact h2.2.1
  · rw [heap_setCell_other w' ⟨O, i, none⟩ k x (fun e => by simp at e; omega)]
    exact h3.block k hk hk2

end Go.Proofs.Ytkhhloeemecokaa
