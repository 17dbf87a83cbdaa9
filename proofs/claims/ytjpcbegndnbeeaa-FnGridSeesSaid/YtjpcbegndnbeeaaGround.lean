/- Contract: groundSight of the program. -/
import Derived.Test.YtjpcbegndnbeeaaSight
import Derived.Deep.RegionHeld3
namespace Go.Proofs.Ytjpcbegndnbeeaa
open Go.RowKit

theorem ground_any (v : Value) (p : List Int) (i k : Nat) (w : World) (hr : Row w v p) (hv : validB p = true) (hi : i < p.length) (hk : k < p.length) :
    Calls Try.prog 51 #[v, .int .i64 i, .int .i64 k] w fun e w' => e = .returned (.bool (seesB p i k 0)) ∧ Below w.heap.size w w' := by
  rw [seesB_zero]
  have hl := valid_len hv
  have hx := valid_ht' hv i
  have hy := valid_ht' hv k
  have e0 := fun w' (hb : Below w.heap.size w w') => insight_any v p i k (p.getD i 0) (p.getD k 0) w' (hr.below hb) hv hi hk hx.1 (by omega) hy.1 (by omega)
  obtain ⟨a, cap, rfl⟩ := hr.shape
  obtain ⟨-, hc⟩ := hr.cells
  obtain ⟨n, hN⟩ : ∃ n, n = p.length := ⟨_, rfl⟩
  obtain ⟨bb, hB⟩ : ∃ b, b = lookB p i k (p.getD i 0) (p.getD k 0) := ⟨_, rfl⟩
  rw [← hN] at hc hl hk hi e0 ⊢
  rw [← hB] at e0 ⊢
  obtain ⟨b, off, rfl, hci⟩ := hc i hi
  obtain ⟨b', off', he, hck⟩ := hc k hk
  simp only [Option.some.injEq, Addr.mk.injEq, and_true] at he
  obtain ⟨rfl, rfl⟩ := he
  obtain ⟨x, hX⟩ : ∃ x, x = p.getD i 0 := ⟨_, rfl⟩
  obtain ⟨y, hY⟩ : ∃ y, y = p.getD k 0 := ⟨_, rfl⟩
  rw [← hX] at hci e0
  rw [← hY] at hck e0
  have E0 := Lib.hid e0
  clear hr hc hN hB hx hy hX hY e0 hv
  obtain ⟨l1, l2⟩ := hl
  go_enter Try.func51, Try.ntmps51
  go_wp2
  go_region_held3 (fun w' => w'.cell? ⟨b, off + i, none⟩ = some (.int .i64 x) ∧ w'.cell? ⟨b, off + k, none⟩ = some (.int .i64 y)) (go_keep)
    (first | (go_at_call 55; refine (E0.out _ (below_drewN (Below.refl _ _) 1)).mono ?_; rintro e w' ⟨rfl, hb⟩; (have h1 := (hb.cell (World.block_lt_of_cell? w _ hci)).trans hci); (have h2 := (hb.cell (World.block_lt_of_cell? w _ hck)).trans hck)))
  go_wp2
  go_ret
  exact ⟨rfl, (below_drewN (Below.refl _ _) 1).trans hb⟩

end Go.Proofs.Ytjpcbegndnbeeaa
