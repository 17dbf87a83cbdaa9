/- Contracts: at and has of the program's fields. -/
import Derived.Test.YtjpcbegndnbeeaaFld
import Derived.Deep.QuietTactic
import Derived.BigQuiet
namespace Go.Proofs.Ytjpcbegndnbeeaa
open Go.RowKit
set_option linter.unusedVariables false

set_option maxHeartbeats 400000 in
theorem fat_any (R C r c : Nat) (a : Option Addr) (n cap : Nat) (zs : List Int) (w : World) (hr : Row w (.slice a n cap) zs) (hn : n = R * C) (h1 : r < R) (h2 : c < C) (hb : n ≤ 10000) :
    Calls Try.prog 32 #[.agg #[.int .i64 R, .int .i64 C, .slice a n cap], .int .i64 r, .int .i64 c] w fun e w' => e = .returned (.int .i64 (zs.getD (r * C + c) 0)) ∧ Below w.heap.size w w' := by
  obtain ⟨-, hcc⟩ := hr.cells
  have hi := idx_lt h1 h2
  obtain ⟨P, hP⟩ : ∃ P, P = r * C := ⟨_, rfl⟩
  rw [← hn] at hi
  rw [← hP] at hi ⊢
  obtain ⟨b, off, rfl, hcell⟩ := hcc (P + c) hi
  clear hcc hr hn h1 h2
  have HI := Lib.hid (fun wx => index_any R C r c P (some ⟨b, off, none⟩) n cap wx hP (by omega))
  clear hP
  obtain ⟨x, hx⟩ : ∃ x, x = zs.getD (P + c) 0 := ⟨_, rfl⟩
  rw [← hx] at hcell ⊢
  clear hx
  have lt1 := World.block_lt_of_cell? _ _ hcell
  have k1 : (0 : Int) ≤ (P : Int) + (c : Int) := by omega
  have k2 : (P : Int) + (c : Int) < (n : Int) := by omega
  have k3 : ((P : Int) + (c : Int)).toNat = P + c := by omega
  go_enter Try.func32, Try.ntmps32
  go_wp2_with fail
  obtain ⟨W, hW⟩ : ∃ W, W = w.alloc (.cells #[.int .i64 R, .int .i64 C, .slice (some ⟨b, off, none⟩) n cap] 47) := ⟨_, rfl⟩
  have F0 := FldAt.new w R C (.slice (some ⟨b, off, none⟩) n cap)
  have b0 := Below.alloc (Below.refl w.heap.size w) (Nat.le_refl _) (.cells #[.int .i64 R, .int .i64 C, .slice (some ⟨b, off, none⟩) n cap] 47)
  rw [← hW] at F0 b0 ⊢
  clear hW
  have hcW := (b0.cell (p := ⟨b, off + (P + c), none⟩) lt1).trans hcell
  have ltW := World.block_lt_of_cell? _ _ hcW
  obtain ⟨-, g1, g2, g3⟩ := F0.cells
  have HF := Lib.hid F0
  have HB0 := Lib.hid b0
  clear F0 b0 hcell lt1
  refine wp_region_held_drew (S := fun wx => wx.cell? ⟨w.heap.size, 0, none⟩ = some (.int .i64 R) ∧ wx.cell? ⟨w.heap.size, 1, none⟩ = some (.int .i64 C) ∧ wx.cell? ⟨w.heap.size, 2, none⟩ = some (.slice (some ⟨b, off, none⟩) n cap) ∧ wx.cell? ⟨b, off + (P + c), none⟩ = some (.int .i64 x)) (by kernel_rfl) (⟨g1, g2, g3, hcW⟩) (fun hHeld => ?_)
  refine wpAnyH_take (i := 0) (oi := { dst := some 7, op := _, type := _, pos := _, after := _, guard := _ }) (v := ?_) rfl (by kernel_rfl) (by kernel_rfl) (by kernel_rfl) (fun _ _ _ h => h) (Or.inl ⟨by rfl, ?_⟩) (by assumption) ?_
  case refine_2 => ((intro w hSw; (try dsimp only at hSw); go_simp); try with_reducible rfl)
  try simp only [Act.put, List.setIfInBounds_toArray, List.set_cons_zero, List.set_cons_succ]
  refine wpAnyH_take (i := 1) (oi := { dst := some 8, op := _, type := _, pos := _, after := _, guard := _ }) (v := ?_) rfl (by kernel_rfl) (by kernel_rfl) (by kernel_rfl) (fun _ _ _ h => h) (Or.inl ⟨by rfl, ?_⟩) (by assumption) ?_
  case refine_2 => ((intro w hSw; (try dsimp only at hSw); go_simp); try with_reducible rfl)
  try simp only [Act.put, List.setIfInBounds_toArray, List.set_cons_zero, List.set_cons_succ]
  refine wpAnyH_take (i := 2) (oi := { dst := some 9, op := _, type := _, pos := _, after := _, guard := _ }) (v := ?_) rfl (by kernel_rfl) (by kernel_rfl) (by kernel_rfl) (fun _ _ _ h => h) (Or.inl ⟨by rfl, ?_⟩) (by assumption) ?_
  case refine_2 => ((intro w hSw; (try dsimp only at hSw); go_simp); try with_reducible rfl)
  try simp only [Act.put, List.setIfInBounds_toArray, List.set_cons_zero, List.set_cons_succ]
  refine wpAnyH_take (i := 3) (oi := { dst := some 10, op := _, type := _, pos := _, after := _, guard := _ }) (v := ?_) rfl (by kernel_rfl) (by kernel_rfl) (by kernel_rfl) (fun _ _ _ h => h) (Or.inl ⟨by rfl, ?_⟩) (by assumption) ?_
  case refine_2 => ((intro w hSw; (try dsimp only at hSw); go_simp); try with_reducible rfl)
  try simp only [Act.put, List.setIfInBounds_toArray, List.set_cons_zero, List.set_cons_succ]
  refine wpAnyH_take (i := 4) (oi := { dst := some 11, op := _, type := _, pos := _, after := _, guard := _ }) (v := ?_) rfl (by kernel_rfl) (by kernel_rfl) (by kernel_rfl) (fun _ _ _ h => h) (Or.inl ⟨by rfl, ?_⟩) (by assumption) ?_
  case refine_2 => ((intro w hSw; (try dsimp only at hSw); go_simp); try with_reducible rfl)
  try simp only [Act.put, List.setIfInBounds_toArray, List.set_cons_zero, List.set_cons_succ]
  have hb5 := below_drewN (Below.alloc (Below.refl W.heap.size W) (Nat.le_refl _) (.cells #[.int .i64 R, .int .i64 C, .slice (some ⟨b, off, none⟩) n cap] 47)) 1
  refine wpAnyH_ready (rs := [5]) (by kernel_rfl) (by simp) ?_
  refine AllReadyH.cons (o := { dst := some 12, op := _, type := _, pos := _, after := _, guard := _ }) rfl (fun K hK => ?_) AllReadyH.nil
  go_simp
  go_at_call 48
  refine (HI.out _).mono ?_
  rintro e wc ⟨rfl, rfl⟩
  refine hK.out _ _ ((by have q := (HF.out.below hb5).cells; exact ⟨q.2.1, q.2.2.1, q.2.2.2, (hb5.cell (p := ⟨b, off + (P + c), none⟩) ltW).trans hcW⟩)) (fun hHeld => ?_)
  clear hK K
  try simp only [Act.put, List.setIfInBounds_toArray, List.set_cons_zero, List.set_cons_succ]
  refine wpAnyH_take (i := 6) (oi := { dst := some 13, op := _, type := _, pos := _, after := _, guard := _ }) (v := ?_) rfl (by kernel_rfl) (by kernel_rfl) (by kernel_rfl) (fun _ _ _ h => h) (Or.inl ⟨by rfl, ?_⟩) (by assumption) ?_
  case refine_2 => ((intro w hSw; (try dsimp only at hSw); go_simp); try with_reducible rfl)
  try simp only [Act.put, List.setIfInBounds_toArray, List.set_cons_zero, List.set_cons_succ]
  refine wpAnyH_take (i := 7) (oi := { dst := some 14, op := _, type := _, pos := _, after := _, guard := _ }) (v := ?_) rfl (by kernel_rfl) (by kernel_rfl) (by kernel_rfl) (fun _ _ _ h => h) (Or.inl ⟨by rfl, ?_⟩) (by assumption) ?_
  case refine_2 => ((intro w hSw; (try dsimp only at hSw); go_simp); try with_reducible rfl)
  try simp only [Act.put, List.setIfInBounds_toArray, List.set_cons_zero, List.set_cons_succ]
  refine wpAnyH_take (i := 8) (oi := { dst := some 6, op := _, type := _, pos := _, after := _, guard := _ }) (v := ?_) rfl (by kernel_rfl) (by kernel_rfl) (by kernel_rfl) (fun _ _ _ h => h) (Or.inl ⟨by rfl, ?_⟩) (by assumption) ?_
  case refine_2 => ((intro w hSw; (try dsimp only at hSw); go_simp); try with_reducible rfl)
  try simp only [Act.put, List.setIfInBounds_toArray, List.set_cons_zero, List.set_cons_succ]
  refine wpAnyH_done (by kernel_rfl) ?_ _
  clear hHeld
  go_wp2
  go_ret
  exact ⟨rfl, HB0.out.trans (hb5.mono HB0.out.size)⟩

theorem fhas_any (R C : Nat) (r c : Int) (a : Option Addr) (n cap : Nat) (w : World) :
    Calls Try.prog 31 #[.agg #[.int .i64 R, .int .i64 C, .slice a n cap], .int .i64 r, .int .i64 c] w fun e w' => e = .returned (.bool (decide (0 ≤ r ∧ r < R ∧ 0 ≤ c ∧ c < C))) ∧ Below w.heap.size w w' := by
  go_enter Try.func31, Try.ntmps31
  go_wp2
  all_goals
    go_ret
    refine ⟨ret_bool ?_, Below.alloc (Below.refl _ _) (Nat.le_refl _) _⟩
    rw [Bool.eq_iff_iff]
    simp
    first | done | omega

end Go.Proofs.Ytjpcbegndnbeeaa
