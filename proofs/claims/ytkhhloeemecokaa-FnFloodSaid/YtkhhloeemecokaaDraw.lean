/- The reader of the draws: l6Open, pick. -/
import Derived.Test.YtkhhloeemecokaaBase
import Derived.Test.YtkhhloeemecokaaApp
import Derived.Laws.BitsAllLaws
import Derived.Laws.BitsLemmas
import Derived.IntWalk
import Derived.OpenShut
namespace Go.Proofs.Ytkhhloeemecokaa
open Go.RowKit

/-- The slice value reads as bytes. -/
def RowB (w : World) (v : Value) (zs : List Int) : Prop :=
  ∃ a cap, v = .slice a zs.length cap ∧ zs.length ≤ cap ∧ cap ≤ maxLen ∧ (zs = [] ∨ ∃ b off, a = some ⟨b, off, none⟩ ∧ ∀ i, i < zs.length → w.cell? ⟨b, off + i, none⟩ = some (.int .u8 (zs.getD i 0)))

/-- m bytes at an address. -/
def Bytes (w : World) (a : Option Addr) (m : Nat) : Prop := ∀ i, i < m → ∃ b off x, a = some ⟨b, off, none⟩ ∧ w.cell? ⟨b, off + i, none⟩ = some (.int .u8 x) ∧ 0 ≤ x ∧ x ≤ 255

/-- The reader: block R, at place q. -/
def Rd (w0 : World) (a : Option Addr) (m cap R : Nat) (w : World) (q : Nat) : Prop :=
  w0.heap.size ≤ R ∧ w.heap[R]? = some (.cells #[.slice a m cap, .int .i64 (q : Int)] 64 (0, 0)) ∧ Below w0.heap.size w0 w

theorem Rd.lt {w0 : World} {a : Option Addr} {m cap R : Nat} {w : World} {q : Nat} (h : Rd w0 a m cap R w q) : R < w.heap.size := (Array.getElem?_eq_some_iff.1 h.2.1).1
theorem Rd.cell0 {w0 : World} {a : Option Addr} {m cap R : Nat} {w : World} {q : Nat} (h : Rd w0 a m cap R w q) : w.cell? ⟨R, 0, none⟩ = some (.slice a m cap) := by rw [cell_of_row w R 0 _ _ (0, 0) h.2.1]; rfl
theorem Rd.cell1 {w0 : World} {a : Option Addr} {m cap R : Nat} {w : World} {q : Nat} (h : Rd w0 a m cap R w q) : w.cell? ⟨R, 1, none⟩ = some (.int .i64 (q : Int)) := by rw [cell_of_row w R 1 _ _ (0, 0) h.2.1]; rfl
theorem Rd.frozen {w0 : World} {a : Option Addr} {m cap R : Nat} {w : World} {q : Nat} (h : Rd w0 a m cap R w q) (j : Nat) : w.frozen? ⟨R, j, none⟩ = false := frozen_of_row w R j _ _ h.2.1
theorem Rd.not_own {w0 : World} {a : Option Addr} {m cap R : Nat} {w : World} {q : Nat} {B : Nat} {v : Value} {zs : List Int} (h : Rd w0 a m cap R w q) (ho : Own w B v zs) : v.ownBlock ≠ some R := by
  rcases ho.2 with ⟨hv, _⟩ | ⟨g', cap', cur, hv, _, hh, _⟩
  · rw [hv]; simp [Value.ownBlock]
  · rw [hv]
    simp only [Value.ownBlock, ne_eq, Option.some.injEq]
    intro e
    subst e
    have := h.2.1
    rw [hh] at this
    simp at this
/-- Kept while an own slice is written. -/
theorem Rd.own {w0 : World} {a : Option Addr} {m cap R : Nat} {w w' : World} {q : Nat} {B : Nat} {v : Value} {zs : List Int} (h : Rd w0 a m cap R w q) (ho : Own w B v zs) (hB : w0.heap.size ≤ B) (hg : w.grownBy w' v.ownBlock) : Rd w0 a m cap R w' q := by
  refine ⟨h.1, ?_, h.2.2.trans (below_of_grown hg h.2.2.size (fun k e => Nat.le_trans hB (ho.lt k e).1))⟩
  rw [hg.block R h.lt (fun e => h.not_own ho (by rw [e]))]; exact h.2.1
theorem Rd.below {w0 : World} {a : Option Addr} {m cap R : Nat} {w w' : World} {q : Nat} (h : Rd w0 a m cap R w q) (hb : Below w.heap.size w w') : Rd w0 a m cap R w' q := by
  refine ⟨h.1, ?_, h.2.2.trans (hb.mono h.2.2.size)⟩
  rw [hb.block R h.lt]; exact h.2.1
/-- An own slice is kept while the reader is written. -/
theorem Own.rd {w0 : World} {a : Option Addr} {m cap R : Nat} {w w' : World} {q : Nat} {B : Nat} {v : Value} {zs : List Int} (ho : Own w B v zs) (h : Rd w0 a m cap R w q) (hg : w.grownBy w' (some R)) : Own w' B v zs :=
  ho.kept hg (fun k hk e => h.not_own ho (by rw [hk, e]))

/-- What pick gives. -/
def Picks (w0 : World) (a : Option Addr) (m cap R : Nat) (q : Nat) (n : Int) (w : World) (e : Ending) (w' : World) : Prop :=
  ∃ c : Nat, (c : Int) < n ∧ e = .returned (.int .i64 (c : Int)) ∧ Rd w0 a m cap R w' (q + 1) ∧ w.grownBy w' (some R)

theorem Rd.step {w0 : World} {a : Option Addr} {m cap R : Nat} {w : World} {q : Nat} (h : Rd w0 a m cap R w q) : Rd w0 a m cap R (w.setCell ⟨R, 1, none⟩ (.int .i64 ((q : Int) + 1))) (q + 1) := by
  refine ⟨h.1, ?_, h.2.2.setCell (p := ⟨R, 1, none⟩) h.1 _⟩
  rw [heap_setCell_same w R 1 _ _ _ h.2.1]; rfl
theorem Rd.drewN {w0 : World} {a : Option Addr} {m cap R : Nat} {w : World} {q : Nat} (h : Rd w0 a m cap R w q) (n : Nat) : Rd w0 a m cap R (w.drewN n) q := ⟨h.1, h.2.1, below_drewN h.2.2 n⟩
theorem grown_drewN {w w' : World} {r : Option Nat} (h : w.grownBy w' r) (n : Nat) : w.grownBy (w'.drewN n) r := ⟨h.os, h.tape, h.output, h.size, h.block⟩
theorem grown_setC (w : World) (g j : Nat) (x : Value) : w.grownBy (w.setCell ⟨g, j, none⟩ x) (some g) :=
  ⟨rfl, rfl, rfl, by simp, fun k _ hk => heap_setCell_other w ⟨g, j, none⟩ k x (fun e => hk (by simp [e]))⟩

theorem Picks.of {w0 : World} {a : Option Addr} {m cap R q : Nat} {n y : Int} {w w' : World} (h0 : 0 ≤ y) (h1 : y < n) (h2 : Rd w0 a m cap R w' (q + 1)) (h3 : w.grownBy w' (some R)) : Picks w0 a m cap R q n w (.returned (.int .i64 y)) w' :=
  ⟨y.toNat, by omega, by rw [Int.toNat_of_nonneg h0], h2, h3⟩

theorem range_u8' {n : Int} (h : (Lit.int .u8 n).wf = true) : 0 ≤ n ∧ n ≤ 255 := bounds_u8 h

theorem ofInt_i64 (a : Nat) (ha : a < 9223372036854775808) : (BitVec.ofInt 64 (a : Int)).toNat = a := by
  rw [BitVec.ofInt_natCast, BitVec.toNat_ofNat]; exact Nat.mod_eq_of_lt (by omega)
theorem i64_xor_nat (a b : Nat) (ha : a < 9223372036854775808) (hb : b < 9223372036854775808) : bits .xor .i64 (a : Int) (b : Int) = ((a ^^^ b : Nat) : Int) := by
  have hx : a ^^^ b < 2 ^ 63 := Nat.xor_lt_two_pow (by omega) (by omega)
  show IntKind.i64.wrap ((BitVec.ofInt 64 (a : Int) ^^^ BitVec.ofInt 64 (b : Int)).toNat : Int) = _
  rw [BitVec.toNat_xor, ofInt_i64 a ha, ofInt_i64 b hb, IntKind.wrap_i64]
  omega

set_option maxHeartbeats 1000000 in
theorem pick_any (w0 : World) (a : Option Addr) (m cap R q : Nat) (n : Int) (w : World) (hb : Bytes w0 a m) (hm : m ≤ 2000) (hr : Rd w0 a m cap R w q) (hq : q ≤ 100000) (n1 : 1 ≤ n) (n2 : n ≤ 1000) :
    Calls Try.prog 58 #[.pointer (some ⟨R, 0, none⟩), .int .i64 n] w (Picks w0 a m cap R q n w) := by
  have c0 := hr.cell0
  have c1 := hr.cell1
  have f1 := hr.frozen 1
  have d0 := hr.step.cell0
  have d1 := hr.step.cell1
  have hlt := hr.lt
  have HS := Lib.hid hr.step
  have HG := Lib.hid (grown_setC w R 1 (.int .i64 ((q : Int) + 1)))
  have HB := Lib.hid hb
  have HR := Lib.hid hr
  clear hb hr
  have en : ¬ n < 1 := by omega
  rw [show ((q + 1 : Nat) : Int) = (q : Int) + 1 by omega] at d1
  by_cases m0 : m = 0
  · subst m0
    have e0 : (((0 : Nat) : Int) == 0) = true := by simp
    go_enter Try.func58, Try.ntmps58
    go_wp2
    go_ret
    exact ⟨0, by simp; omega, rfl, HS.out, HG.out⟩
  · have e0 : ((m : Int) == 0) = false := by simp; omega
    by_cases hqm : q < m
    · obtain ⟨b, off, x, rfl, hx, x0, x1⟩ := HB.out q hqm
      have hbl := World.block_lt_of_cell? w0 _ hx
      have hx2 := (HS.out.2.2.cell (p := ⟨b, off + q, none⟩) hbl).trans hx
      go_enter Try.func58, Try.ntmps58
      go_wp2
      go_ret
      exact Picks.of (Int.emod_nonneg _ (by omega)) (Int.emod_lt_of_pos _ (by omega)) HS.out HG.out
    · have m1 : 0 < m := by omega
      obtain ⟨j1, hj1⟩ : ∃ j, j = q % m := ⟨_, rfl⟩
      obtain ⟨j2, hj2⟩ : ∃ j, j = (q * 7 + 3) % m := ⟨_, rfl⟩
      obtain ⟨j3, hj3⟩ : ∃ j, j = q / m := ⟨_, rfl⟩
      have t1 : (q : Int).tmod (m : Int) = (j1 : Int) := by rw [hj1]; rfl
      have t2 : ((q : Int) * 7 + 3).tmod (m : Int) = (j2 : Int) := by
        rw [hj2, show (q : Int) * 7 + 3 = ((q * 7 + 3 : Nat) : Int) by omega]; rfl
      have t3 : (q : Int).tdiv (m : Int) = (j3 : Int) := by rw [hj3]; rfl
      have g1 : j1 < m := by rw [hj1]; exact Nat.mod_lt _ m1
      have g2 : j2 < m := by rw [hj2]; exact Nat.mod_lt _ m1
      have g3 : j3 ≤ q := by rw [hj3]; exact Nat.div_le_self _ _
      clear hj1 hj2 hj3
      obtain ⟨b, off, x, rfl, hx, x0, x1⟩ := HB.out j1 g1
      obtain ⟨b', off', y, he, hy, y0, y1⟩ := HB.out j2 g2
      simp only [Option.some.injEq, Addr.mk.injEq, and_true] at he
      obtain ⟨rfl, rfl⟩ := he
      have hbl := World.block_lt_of_cell? w0 _ hx
      have hx2 := (HS.out.2.2.cell (p := ⟨b, off + j1, none⟩) hbl).trans hx
      have hy2 := (HS.out.2.2.cell (p := ⟨b, off + j2, none⟩) hbl).trans hy
      have i1 : (0 : Int) ≤ (j1 : Int) := by omega
      have i2 : (j1 : Int) < (m : Int) := by omega
      have i3 : (0 : Int) ≤ (j2 : Int) := by omega
      have i4 : (j2 : Int) < (m : Int) := by omega
      have r1 : IntKind.i64.wrap ((q : Int) * 7) = (q : Int) * 7 := IntWalk.i64_in _ (by omega)
      have r2 : IntKind.i64.wrap ((q : Int) * 7 + 3) = (q : Int) * 7 + 3 := IntWalk.i64_in _ (by omega)
      have r3 : IntKind.i64.wrap (x * 131) = x * 131 := IntWalk.i64_in _ (by omega)
      have r4 : IntKind.i64.wrap (y * 1117) = y * 1117 := IntWalk.i64_in _ (by omega)
      have r5 : IntKind.i64.wrap (x * 131 + y * 1117) = x * 131 + y * 1117 := IntWalk.i64_in _ (by omega)
      have r6 : IntKind.i64.wrap ((q : Int) * 29) = (q : Int) * 29 := IntWalk.i64_in _ (by omega)
      have r7 : IntKind.i64.wrap (x * 131 + y * 1117 + (q : Int) * 29) = x * 131 + y * 1117 + (q : Int) * 29 := IntWalk.i64_in _ (by omega)
      have r8 : IntKind.i64.wrap ((j3 : Int) * 53) = (j3 : Int) * 53 := IntWalk.i64_in _ (by omega)
      have r9 : IntKind.i64.wrap (x * 131 + y * 1117 + (q : Int) * 29 + (j3 : Int) * 53) = x * 131 + y * 1117 + (q : Int) * 29 + (j3 : Int) * 53 := IntWalk.i64_in _ (by omega)
      obtain ⟨X, hX⟩ : ∃ X : Nat, (X : Int) = x * 131 + y * 1117 + (q : Int) * 29 + (j3 : Int) * 53 := ⟨(x * 131 + y * 1117 + (q : Int) * 29 + (j3 : Int) * 53).toNat, by omega⟩
      have X1 : X ≤ 10000000 := by omega
      have HX := Lib.hid hX
      clear hX
      go_enter Try.func58, Try.ntmps58
      go_wp2
      go_quiet (fail)
      rw [← HX.out]
      clear r1 r2 r3 r4 r5 r6 r7 r8 r9 t1 t2 t3
      go_wp2
      go_ret
      have hxor := i64_xor_nat X (X / 64) (by omega) (by omega)
      rw [show ((X / 64 : Nat) : Int) = (X : Int) / 64 by omega] at hxor
      exact Picks.of (show 0 ≤ (bits .xor .i64 (X : Int) ((X : Int) / 64)).tmod n by rw [hxor]; exact Int.tmod_nonneg _ (by omega)) (show (bits .xor .i64 (X : Int) ((X : Int) / 64)).tmod n < n from Int.tmod_lt_of_pos _ (by omega)) (HS.out.drewN _) (grown_drewN HG.out _)

/-- What l6Open gives. -/
def Opens (w : World) (e : Ending) (w' : World) : Prop :=
  ∃ a m cap, m ≤ 2000 ∧ Bytes w a m ∧ e = .returned (.pointer (some ⟨w.heap.size, 0, none⟩)) ∧ Rd w a m cap w.heap.size w' 0

theorem open_any (v : Value) (zs : List Int) (w : World) (hr : RowB w v zs) (hf : ∀ n ∈ zs, (Lit.int .u8 n).wf = true) :
    Calls Try.prog 35 #[v] w (Opens w) := by
  obtain ⟨a, cap, rfl, hc, hcm, hz⟩ := hr
  have HZ := Lib.hid (show Bytes w a zs.length from fun i hi => by
    rcases hz with h | ⟨b, off, ha, hh⟩
    · subst h; simp at hi
    · have hx := hf zs[i] (List.getElem_mem hi)
      have hb := range_u8' hx
      exact ⟨b, off, zs.getD i 0, ha, hh i hi, by simp [hi]; omega, by simp [hi]; omega⟩)
  obtain ⟨n, hN⟩ : ∃ n, n = zs.length := ⟨_, rfl⟩
  rw [← hN] at hc HZ ⊢
  clear hN hz hf
  unfold maxLen at hcm
  by_cases hn : 2000 < n
  · have q0 : 2000 ≤ cap := by omega
    go_enter Try.func35, Try.ntmps35
    go_wp2
    go_ret
    exact ⟨a, 2000, cap, Nat.le_refl _, fun i hi => HZ.out i (by omega), rfl, Nat.le_refl _, heap_alloc_new w _, Below.alloc (Below.refl _ _) (Nat.le_refl _) _⟩
  · go_enter Try.func35, Try.ntmps35
    go_wp2
    go_ret
    exact ⟨a, n, cap, by omega, HZ.out, rfl, Nat.le_refl _, heap_alloc_new w _, Below.alloc (Below.refl _ _) (Nat.le_refl _) _⟩

end Go.Proofs.Ytkhhloeemecokaa
