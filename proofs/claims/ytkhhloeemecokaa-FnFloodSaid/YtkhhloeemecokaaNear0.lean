/- Contracts: nearOf of the laws, l2Near of the reference; cellsOf, l2Cells. -/
import Derived.Test.YtkhhloeemecokaaMat
import Derived.Test.YtkhhloeemecokaaPlainG
import Derived.Test.YtkhhloeemecokaaBase
import Derived.IntWalk
import Derived.Deep.Cut
namespace Go.Proofs.Ytkhhloeemecokaa
open Go.RowKit
set_option linter.unusedVariables false

/-- The neighbors of a cell: north, east, south and west. -/
def nearL (n C i : Nat) : List Int := (if C ≤ i then [(i : Int) - C] else []) ++ ((if i % C + 1 < C then [(i : Int) + 1] else []) ++ ((if i < C * (n - 1) then [(i : Int) + C] else []) ++ (if 0 < i % C then [(i : Int) - 1] else [])))
theorem nearL_len (n C i : Nat) : (nearL n C i).length ≤ 4 := by
  unfold nearL
  split <;> split <;> split <;> split <;> simp
/-- The first row of a matrix. -/
theorem MRow.first {w : World} {a : Option Addr} {n cap : Nat} {g : List (List Int)} (h : MRow w (.slice a n cap) g) (h0 : 0 < n) : ∃ b off a0 c0, a = some ⟨b, off, none⟩ ∧ w.cell? ⟨b, off, none⟩ = some (.slice a0 (colsG g) c0) := by
  obtain ⟨-, hc⟩ := h.cells
  obtain ⟨b, off, u, rfl, h1, h2⟩ := hc 0 h0
  obtain ⟨a0, c0, rfl⟩ := h2.shape
  exact ⟨b, off, a0, c0, rfl, by rw [Nat.add_zero] at h1; exact h1⟩


theorem cellsOf_any (v : Value) (g : List (List Int)) (n C N : Nat) (w : World) (hr : MRow w v g) (hn : n = g.length) (hC : C = colsG g) (hN : N = n * C) (h1 : 1 ≤ n) (h2 : n ≤ 7) (h4 : C ≤ 1000) :
    Calls Try.prog 29 #[v] w fun e w' => e = .returned (.int .i64 N) ∧ w = w' := by
  obtain ⟨a, cap, rfl⟩ := hr.shape
  rw [← hn] at hr ⊢
  obtain ⟨b, off, a0, c0, rfl, hcell⟩ := hr.first (by omega)
  rw [← hC] at hcell
  have t1 : (n : Int) * (C : Int) = (N : Int) := by rw [hN]; simp
  have n0 : 0 < n := by omega
  have hb : N ≤ 7000 := by rw [hN]; exact Nat.mul_le_mul h2 h4
  clear hr hn hC hN
  go_enter Try.func29, Try.ntmps29
  go_wp2
  go_ret
  exact ⟨rfl, rfl⟩


theorem l2Cells_any (v : Value) (g : List (List Int)) (n C N : Nat) (w : World) (hr : MRow w v g) (hn : n = g.length) (hC : C = colsG g) (hN : N = n * C) (h1 : 1 ≤ n) (h2 : n ≤ 7) (h4 : C ≤ 1000) :
    Calls Try.prog 66 #[v] w fun e w' => e = .returned (.int .i64 N) ∧ w = w' := by
  obtain ⟨a, cap, rfl⟩ := hr.shape
  rw [← hn] at hr ⊢
  obtain ⟨b, off, a0, c0, rfl, hcell⟩ := hr.first (by omega)
  rw [← hC] at hcell
  have t1 : (n : Int) * (C : Int) = (N : Int) := by rw [hN]; simp
  have n0 : 0 < n := by omega
  have hb : N ≤ 7000 := by rw [hN]; exact Nat.mul_le_mul h2 h4
  clear hr hn hC hN
  go_enter Try.func66, Try.ntmps66
  go_wp2
  go_ret
  exact ⟨rfl, rfl⟩


end Go.Proofs.Ytkhhloeemecokaa
