/- Contracts of the draws of grids: l91Grid, DrawGridSees, DrawProfileRow. -/
import Derived.Test.YtkhhloeemecokaaGDraw
namespace Go.Proofs.Ytkhhloeemecokaa
open Go.RowKit
set_option linter.unusedVariables false

def SmallG (g : List (List Int)) : Prop := 1 ≤ g.length ∧ g.length ≤ 5 ∧ ∀ i, i < g.length → 1 ≤ (g.getD i []).length ∧ (g.getD i []).length ≤ 6
theorem SmallG.tot {g : List (List Int)} (h : SmallG g) : tot g ≤ 1048576 := by
  have aux : ∀ k, k ≤ g.length → Go.Proofs.Ytkhhloeemecokaa.tot (g.take k) ≤ 6 * k := by
    intro k
    induction k with
    | zero => intro _; simp [Go.Proofs.Ytkhhloeemecokaa.tot]
    | succ k ih =>
      intro hk
      rw [tot_step g k (by omega)]
      have := ih (by omega)
      have := h.2.2 k (by omega)
      omega
  have := aux g.length (Nat.le_refl _)
  rw [tot_all] at this
  have := h.2.1
  omega
theorem MOwn.mono {w : World} {B B' : Nat} {v : Value} {g : List (List Int)} (h : MOwn w B v g) (hB : B' ≤ B) : MOwn w B' v g := by
  obtain ⟨us, a1, a2, a7⟩ := h
  refine ⟨us, a1, ⟨a2.1, ?_⟩, fun i hi => (a7 i hi).mono hB⟩
  rcases a2.2 with hn | ⟨g', c, cur, hv, hb, r⟩
  · exact .inl hn
  · exact .inr ⟨g', c, cur, hv, by omega, r⟩
/-- What a drawn grid is. -/
def GivesGrid (w0 : World) (a : Option Addr) (m cap R : Nat) (q : Nat) (w : World) (e : Ending) (w' : World) : Prop :=
  ∃ g ad cp n, e = .returned (.slice ad n cp) ∧ n = g.length ∧ SmallG g ∧ MOwn w' w.heap.size (.slice ad n cp) g ∧ Drawn w0 a m cap R w (q + 70) w'
theorem grid_any (w0 : World) (a : Option Addr) (m cap R q : Nat) (w1 w : World) (hb : Bytes w0 a m) (hm : m ≤ 2000) (hr : Drawn w0 a m cap R w1 q w) (hq : q ≤ 9000) :
    Calls Try.prog 76 #[.pointer (some ⟨R, 0, none⟩)] w (GivesGrid w0 a m cap R q w) := by
  have HD0 := Lib.hid (show Drawn w0 a m cap R w q w from by obtain ⟨h0, ⟨q', h1, h2⟩, h3⟩ := hr; exact (Drawn.refl h2).more h1)
  have HB := Lib.hid hb
  clear hr hb
  go_enter Try.func76, Try.ntmps76
  go_wp2_with fail
  refine (pickD w0 a m cap R q 5 w _ HB.out hm HD0.out (by omega) (by omega) (by omega)).mono ?_
  rintro e w2 ⟨c, hc, rfl, hd⟩
  have HD2 := Lib.hid (HD0.out.trans hd)
  clear hd
  go_wp2_with fail
  refine (pickD w0 a m cap R (q + 1) 5 w _ HB.out hm HD2.out (by omega) (by omega) (by omega)).mono ?_
  rintro e w3 ⟨d, hdd, rfl, hd⟩
  have HD3 := Lib.hid (HD2.out.trans hd)
  clear hd
  have HR := Lib.hid (rough_any w0 a m cap R (q + 2) (1 + c) (1 + d) w w3 HB.out hm HD3.out (by omega) (by omega) (by omega) (by omega) (by omega))
  rw [show ((1 + c : Nat) : Int) = 1 + (c : Int) by omega, show ((1 + d : Nat) : Int) = 1 + (d : Int) by omega] at HR
  go_wp2_with fail
  with_reducible refine HR.out.mono ?_
  rintro e w4 ⟨g, ad, cp, rfl, hg1, hg2, hg3, hg4⟩
  have HG1 := Lib.hid hg1
  have HG2 := Lib.hid hg2
  have HG3 := Lib.hid hg3
  have HG4 := Lib.hid (HD3.out.trans hg4)
  clear hg1 hg2 hg3 hg4
  go_wp2
  go_ret
  exact ⟨g, ad, cp, 1 + c, rfl, HG1.out.symm, ⟨by have := HG1.out; omega, by have := HG1.out; omega, HG2.out⟩, by have h := HG3.out; exact h.mono (HD3.out.size), HG4.out.more (by omega)⟩

/-- What a draw of a grid gives. -/
def GivesG (w : World) (e : Ending) (w' : World) : Prop :=
  ∃ g ad cp n, e = .returned (.slice ad n cp) ∧ n = g.length ∧ SmallG g ∧ MRow w' (.slice ad n cp) g ∧ Below w.heap.size w w'
/-- .. of a grid and a number. -/
def GivesGI (w : World) (e : Ending) (w' : World) : Prop :=
  ∃ g ad cp n x, e = .returned (.tuple #[.slice ad n cp, .int .i64 x]) ∧ n = g.length ∧ SmallG g ∧ MRow w' (.slice ad n cp) g ∧ -1 ≤ x ∧ x ≤ 1000 ∧ Below w.heap.size w w'

end Go.Proofs.Ytkhhloeemecokaa
