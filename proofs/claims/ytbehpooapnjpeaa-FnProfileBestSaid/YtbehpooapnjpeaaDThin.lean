/- Contracts: l92Thin, l92Error. -/
import Derived.Test.YtbehpooapnjpeaaProf
import Derived.Test.YtbehpooapnjpeaaPlainSel
namespace Go.Proofs.Ytbehpooapnjpeaa
open Go.RowKit

/-- A slice that reads as zs while a slice of the call's own is kept. -/
def Sub (w : World) (B : Nat) (v : Value) (zs : List Int) : Prop := ∃ v0 L, Own w B v0 L ∧ ∀ w' : World, Own w' B v0 L → Row w' v zs
theorem Sub.row {w : World} {B : Nat} {v : Value} {zs : List Int} (h : Sub w B v zs) : Row w v zs := by
  obtain ⟨v0, L, h1, h2⟩ := h; exact h2 w h1
theorem Sub.of {w : World} {B : Nat} {v : Value} {zs : List Int} (h : Own w B v zs) : Sub w B v zs := ⟨v, zs, h, fun _ h' => h'.row⟩
theorem Sub.over {w0 : World} {a : Option Addr} {m cap R : Nat} {w w' w'' : World} {q q2 B : Nat} {v : Value} {zs : List Int} (ho : Sub w' B v zs) (h : Drawn w0 a m cap R w q w') (k : Drawn w0 a m cap R w' q2 w'') : Sub w'' B v zs := by
  obtain ⟨v0, L, h1, h2⟩ := ho; exact ⟨v0, L, h1.over h k, h2⟩
theorem Sub.alloc {w : World} {B : Nat} {v : Value} {zs : List Int} (h : Sub w B v zs) (o : Obj) : Sub (w.alloc o) B v zs := by
  obtain ⟨v0, L, h1, h2⟩ := h; exact ⟨v0, L, h1.alloc o, h2⟩
/-- The rest of an own slice. -/
theorem Sub.tail {w : World} {B g n cap : Nat} {zs : List Int} (h : Own w B (.slice (some ⟨g, 0, none⟩) n cap) zs) (hn : 0 < n) : Sub w B (.slice (some ⟨g, 1, none⟩) (n - 1) (cap - 1)) (zs.drop 1) := by
  refine ⟨_, _, h, fun w' h' => ?_⟩
  have hl := h'.len
  refine ⟨_, _, by rw [List.length_drop, ← hl], .inr ⟨g, 1, rfl, fun i hi => ?_⟩⟩
  rw [List.length_drop] at hi
  rw [h'.cellAt (1 + i) (by omega)]
  simp [List.getD_eq_getElem?_getD, Nat.add_comm]
theorem Sub.tail1 {w : World} {B g n : Nat} {zs : List Int} (h : Own w B (.slice (some ⟨g, 0, none⟩) n 1) zs) (hn : n = 1) (b : Option Addr) (c : Nat) : Sub w B (.slice b (n - 1) c) (zs.drop 1) := by
  refine ⟨_, _, h, fun w' h' => ?_⟩
  have hl := h'.len
  have e : zs.drop 1 = [] := by rw [List.drop_eq_nil_iff]; omega
  rw [e, hn]
  exact ⟨_, _, rfl, .inl rfl⟩

theorem Drawn.drewN {w0 : World} {a : Option Addr} {m cap R : Nat} {w w' : World} {q : Nat} (h : Drawn w0 a m cap R w q w') (n : Nat) : Drawn w0 a m cap R w q (w'.drewN n) := by
  obtain ⟨h0, ⟨q', h1, h2⟩, h3⟩ := h; exact ⟨h0, ⟨q', h1, h2.drewN n⟩, grown_drewN h3 n⟩

theorem pos_app {L : List Int} {k : Nat} (h : L.length ≤ k) (hp : ∀ j, 1 ≤ j → j < L.length → 0 < L.getD j 0) : ∀ j, 1 ≤ j → j < (L ++ [(k : Int)]).length → 0 < (L ++ [(k : Int)]).getD j 0 := by
  intro j j1 j2
  by_cases hj : j < L.length
  · rw [getD_app_left _ _ _ hj]; exact hp j j1 hj
  · simp only [List.length_append, List.length_singleton] at j2
    have e : j = L.length := by omega
    rw [getD_app_right _ _ _ (by omega), e, Nat.sub_self]
    simp; omega
theorem pos_no {p L : List Int} (hp : ∀ j, 1 ≤ j → j < L.length → 0 < L.getD j 0) : ¬ Thin p (L.drop 1) := by
  rintro ⟨-, h1, h2, -⟩
  rw [List.length_drop] at h1
  have := hp 1 (by omega) (by omega)
  rw [show (L.drop 1).getD 0 0 = L.getD 1 0 by simp [List.getD_eq_getElem?_getD]] at h2
  omega

/-- What l92Thin gives. -/
def GivesThin (w0 : World) (a : Option Addr) (m cap R : Nat) (q : Nat) (w : World) (e : Ending) (w' : World) : Prop :=
  ∃ ps ls av cv al cl, e = .returned (.tuple #[.slice av ps.length cv, .slice al ls.length cl]) ∧ ps.length ≤ 8 ∧ ls.length ≤ 8 ∧ Own w' w.heap.size (.slice av ps.length cv) ps ∧
    (∃ B, w.heap.size ≤ B ∧ Sub w' B (.slice al ls.length cl) ls) ∧ (thinB ps ls = true → Own w' w.heap.size (.slice al ls.length cl) ls) ∧ Drawn w0 a m cap R w (q + 100) w'
theorem GivesThin.of {w0 : World} {a : Option Addr} {m cap R : Nat} {q : Nat} {w w' : World} {ps L : List Int} {v u : Value} {B : Nat} (h1 : ps.length ≤ 8) (h2 : L.length ≤ 8) (h3 : Own w' w.heap.size v ps) (hB : w.heap.size ≤ B) (h4 : Own w' B u L) (h5 : Drawn w0 a m cap R w (q + 100) w') :
    GivesThin w0 a m cap R q w (.returned (.tuple #[v, u])) w' := by
  obtain ⟨av, cv, rfl⟩ := h3.shape
  obtain ⟨al, cl, rfl⟩ := h4.shape
  exact ⟨ps, L, av, cv, al, cl, rfl, h1, h2, h3, ⟨B, hB, Sub.of h4⟩, fun _ => h4.mono hB, h5⟩
theorem GivesThin.cut {w0 : World} {a : Option Addr} {m cap R : Nat} {q : Nat} {w w' : World} {ps L : List Int} {v u : Value} {B : Nat} (h1 : ps.length ≤ 8) (h2 : L.length ≤ 8) (h3 : Own w' w.heap.size v ps) (hB : w.heap.size ≤ B) (h4 : Sub w' B u (L.drop 1)) (h5 : Drawn w0 a m cap R w (q + 100) w')
    (hp : ∀ j, 1 ≤ j → j < L.length → 0 < L.getD j 0) : GivesThin w0 a m cap R q w (.returned (.tuple #[v, u])) w' := by
  obtain ⟨av, cv, rfl⟩ := h3.shape
  obtain ⟨al, cl, rfl⟩ := h4.row.shape
  exact ⟨ps, L.drop 1, av, cv, al, cl, rfl, h1, by rw [List.length_drop]; omega, h3, ⟨B, hB, h4⟩, fun h => absurd (thinB_iff.1 h) (pos_no hp), h5⟩

/-- The list while it is drawn. -/
def DrawnL (w0 : World) (a : Option Addr) (m cap R : Nat) (q : Nat) (w : World) (B : Nat) (ps : List Int) (v : Value) (L : List Int) (k : Nat) (out : Value) (wr : World) : Prop :=
  L.length ≤ k ∧ (∀ j, 1 ≤ j → j < L.length → 0 < L.getD j 0) ∧ Own wr B out L ∧ Own wr w.heap.size v ps ∧ Drawn w0 a m cap R w q wr ∧ B ≤ wr.heap.size
theorem DrawnL.pick {w0 : World} {a : Option Addr} {m cap R : Nat} {q q2 : Nat} {w : World} {B : Nat} {ps : List Int} {v : Value} {L : List Int} {k : Nat} {out : Value} {wr wr' : World} (h : DrawnL w0 a m cap R q w B ps v L k out wr) (hd : Drawn w0 a m cap R wr q2 wr') : DrawnL w0 a m cap R q2 w B ps v L k out wr' :=
  ⟨h.1, h.2.1, h.2.2.1.over h.2.2.2.2.1 hd, h.2.2.2.1.over h.2.2.2.2.1 hd, h.2.2.2.2.1.trans hd, Nat.le_trans h.2.2.2.2.2 hd.size⟩
theorem DrawnL.app {w0 : World} {a : Option Addr} {m cap R : Nat} {q : Nat} {w : World} {B : Nat} {ps : List Int} {v : Value} {L : List Int} {k : Nat} {out out' : Value} {wr wr' : World} (h : DrawnL w0 a m cap R q w B ps v L k out wr) (hB : w.heap.size ≤ B) (hv : ∀ g, v.ownBlock = some g → g < B) (ho : Own wr' B out' (L ++ [(k : Int)])) (hg : wr.grownBy wr' out.ownBlock) :
    DrawnL w0 a m cap R q w B ps v (L ++ [(k : Int)]) (k + 1) out' wr' :=
  ⟨by have := h.1; simp; omega, pos_app h.1 h.2.1, ho, h.2.2.2.1.kept hg (fun g hg' e => by have := hv g hg'; have := (h.2.2.1.lt g e).1; omega), h.2.2.2.2.1.own (h.2.2.1.mono hB) hg, Nat.le_trans h.2.2.2.2.2 hg.size⟩
theorem DrawnL.skip {w0 : World} {a : Option Addr} {m cap R : Nat} {q : Nat} {w : World} {B : Nat} {ps : List Int} {v : Value} {L : List Int} {k : Nat} {out : Value} {wr : World} (h : DrawnL w0 a m cap R q w B ps v L k out wr) : DrawnL w0 a m cap R q w B ps v L (k + 1) out wr :=
  ⟨by have := h.1; omega, h.2⟩
theorem DrawnL.more {w0 : World} {a : Option Addr} {m cap R : Nat} {q q2 : Nat} {w : World} {B : Nat} {ps : List Int} {v : Value} {L : List Int} {k : Nat} {out : Value} {wr : World} (h : DrawnL w0 a m cap R q w B ps v L k out wr) (hq : q ≤ q2) : DrawnL w0 a m cap R q2 w B ps v L k out wr :=
  ⟨h.1, h.2.1, h.2.2.1, h.2.2.2.1, h.2.2.2.2.1.more hq, h.2.2.2.2.2⟩


end Go.Proofs.Ytbehpooapnjpeaa
