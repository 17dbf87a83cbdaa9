/- Contracts: l91Profile, l91At. -/
import Derived.Test.YtkhhloeemecokaaDraw
namespace Go.Proofs.Ytkhhloeemecokaa
open Go.RowKit

/-- The state of a draw that began in w: the reader stands at a place up to q; of what was there only the reader has changed. -/
structure Drawn (w0 : World) (a : Option Addr) (m cap R : Nat) (w : World) (q : Nat) (w' : World) : Prop where
  base : w0.heap.size ≤ w.heap.size
  rd : ∃ q', q' ≤ q ∧ Rd w0 a m cap R w' q'
  gr : w.grownBy w' (some R)

theorem Drawn.more {w0 : World} {a : Option Addr} {m cap R : Nat} {w w' : World} {q q2 : Nat} (h : Drawn w0 a m cap R w q w') (hq : q ≤ q2) : Drawn w0 a m cap R w q2 w' := by
  obtain ⟨h0, ⟨q', h1, h2⟩, h3⟩ := h; exact ⟨h0, ⟨q', by omega, h2⟩, h3⟩
theorem Drawn.trans {w0 : World} {a : Option Addr} {m cap R : Nat} {w w' w'' : World} {q q2 : Nat} (h : Drawn w0 a m cap R w q w') (k : Drawn w0 a m cap R w' q2 w'') : Drawn w0 a m cap R w q2 w'' :=
  ⟨h.base, k.rd, grownBy_trans h.gr k.gr⟩
theorem Drawn.refl {w0 : World} {a : Option Addr} {m cap R : Nat} {w : World} {q : Nat} (h : Rd w0 a m cap R w q) : Drawn w0 a m cap R w q w := ⟨h.2.2.size, ⟨q, Nat.le_refl _, h⟩, grownBy_refl _ _⟩
theorem Drawn.below {w0 : World} {a : Option Addr} {m cap R : Nat} {w w' w'' : World} {q : Nat} (h : Drawn w0 a m cap R w q w') (hb : Below w'.heap.size w' w'') : Drawn w0 a m cap R w q w'' := by
  obtain ⟨h0, ⟨q', h1, h2⟩, h3⟩ := h; exact ⟨h0, ⟨q', h1, h2.below hb⟩, grownBy_trans h3 (grownBy_of_below hb _)⟩
theorem Drawn.alloc {w0 : World} {a : Option Addr} {m cap R : Nat} {w w' : World} {q : Nat} (h : Drawn w0 a m cap R w q w') (o : Obj) : Drawn w0 a m cap R w q (w'.alloc o) :=
  h.below (Below.alloc (Below.refl _ _) (Nat.le_refl _) _)
theorem Drawn.size {w0 : World} {a : Option Addr} {m cap R : Nat} {w w' : World} {q : Nat} (h : Drawn w0 a m cap R w q w') : w.heap.size ≤ w'.heap.size := h.gr.size
theorem Drawn.bel {w0 : World} {a : Option Addr} {m cap R : Nat} {w w' : World} {q : Nat} (h : Drawn w0 a m cap R w q w') : Below w0.heap.size w0 w' := by
  obtain ⟨_, ⟨_, _, h2⟩, _⟩ := h; exact h2.2.2
/-- An own slice is written. -/
theorem Drawn.own {w0 : World} {a : Option Addr} {m cap R : Nat} {w w' w'' : World} {q : Nat} {v : Value} {zs : List Int} (h : Drawn w0 a m cap R w q w') (ho : Own w' w.heap.size v zs) (hg : w'.grownBy w'' v.ownBlock) : Drawn w0 a m cap R w q w'' := by
  obtain ⟨h0, ⟨q', h1, h2⟩, h3⟩ := h
  refine ⟨h0, ⟨q', h1, h2.own ho h0 hg⟩, hg.os.trans h3.os, hg.tape.trans h3.tape, hg.output.trans h3.output, Nat.le_trans h3.size hg.size, fun k hk hne => ?_⟩
  rw [hg.block k (Nat.lt_of_lt_of_le hk h3.size) (fun e => by have := (ho.lt k e.symm).1; omega)]
  exact h3.block k hk hne
/-- An own slice over a draw. -/
theorem Own.drawn {w0 : World} {a : Option Addr} {m cap R : Nat} {w w' : World} {q : Nat} {B : Nat} {v : Value} {zs : List Int} {q0 : Nat} (ho : Own w B v zs) (hr : Rd w0 a m cap R w q0) (h : Drawn w0 a m cap R w q w') : Own w' B v zs := ho.rd hr h.gr

theorem Own.over {w0 : World} {a : Option Addr} {m cap R : Nat} {w w' w'' : World} {q q2 B : Nat} {v : Value} {zs : List Int} (ho : Own w' B v zs) (h : Drawn w0 a m cap R w q w') (k : Drawn w0 a m cap R w' q2 w'') : Own w'' B v zs := by
  obtain ⟨_, ⟨_, _, h2⟩, _⟩ := h
  exact ho.rd h2 k.gr

/-- What a pick gives, as a draw. -/
def GivesPick (w0 : World) (a : Option Addr) (m cap R : Nat) (q : Nat) (n : Int) (w : World) (e : Ending) (w' : World) : Prop :=
  ∃ c : Nat, (c : Int) < n ∧ e = .returned (.int .i64 (c : Int)) ∧ Drawn w0 a m cap R w (q + 1) w'
theorem pickD (w0 : World) (a : Option Addr) (m cap R q : Nat) (n : Int) (w1 w : World) (hb : Bytes w0 a m) (hm : m ≤ 2000) (hr : Drawn w0 a m cap R w1 q w) (hq : q ≤ 100000) (n1 : 1 ≤ n) (n2 : n ≤ 1000) :
    Calls Try.prog 58 #[.pointer (some ⟨R, 0, none⟩), .int .i64 n] w (GivesPick w0 a m cap R q n w) := by
  obtain ⟨h0, ⟨q', h1, h2⟩, h3⟩ := hr
  refine (pick_any w0 a m cap R q' n w hb hm h2 (by omega) n1 n2).mono ?_
  rintro e w' ⟨c, c1, c2, c3, c4⟩
  exact ⟨c, c1, c2, h2.2.2.size, ⟨q' + 1, by omega, c3⟩, c4⟩

/-- What a drawn profile is. -/
def GivesProf (w0 : World) (a : Option Addr) (m cap R : Nat) (q most : Nat) (w : World) (e : Ending) (w' : World) : Prop :=
  ∃ zs av cv, e = .returned (.slice av zs.length cv) ∧ zs.length ≤ most ∧ Own w' w.heap.size (.slice av zs.length cv) zs ∧ Drawn w0 a m cap R w (q + 50) w'
theorem GivesProf.of {w0 : World} {a : Option Addr} {m cap R : Nat} {q most : Nat} {w w' : World} {v : Value} {zs : List Int} (h1 : zs.length ≤ most) (h2 : Own w' w.heap.size v zs) (h3 : Drawn w0 a m cap R w (q + 50) w') : GivesProf w0 a m cap R q most w (.returned v) w' := by
  obtain ⟨av, cv, rfl⟩ := h2.shape
  exact ⟨zs, av, cv, rfl, h1, h2, h3⟩

/-- What a drawn number is. -/
def GivesNum (w0 : World) (a : Option Addr) (m cap R : Nat) (q : Nat) (lo hi : Int) (w : World) (e : Ending) (w' : World) : Prop :=
  ∃ c : Int, lo ≤ c ∧ c ≤ hi ∧ e = .returned (.int .i64 c) ∧ Drawn w0 a m cap R w (q + 10) w'


end Go.Proofs.Ytkhhloeemecokaa
