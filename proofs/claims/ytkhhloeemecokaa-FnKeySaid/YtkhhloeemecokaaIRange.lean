/- Contract: GridRange of the program, at a grid. -/
import Derived.Test.YtkhhloeemecokaaIPeak
import Derived.Test.YtkhhloeemecokaaFldYes
import Derived.Deep.RegionHeld3
import Derived.Deep.Cut
namespace Go.Proofs.Ytkhhloeemecokaa
open Go.RowKit
set_option linter.unusedVariables false

set_option maxHeartbeats 2000000 in
theorem igrange_any (v : Value) (g : List (List Int)) (n C N : Nat) (w : World) (hr : MRow w v g) (hv : gvalB g = true) (hn : n = g.length) (hC : C = colsG g) (hN : N = n * C) (h1 : g.length ≤ 1048576) (h2 : tot g ≤ 1048576) :
    Calls Try.prog 31 #[v] w fun e w' => e = .returned (.tuple #[.int .i64 (lowK (hgtG g C) (hgtG g C 0) N), .int .i64 (highK (hgtG g C) (hgtG g C 0) N), .bool true]) ∧ Below w.heap.size w w' := by
  have HF := Lib.hid (fld_yes hr hv n C N hn hC hN h1 h2)
  obtain ⟨p1, p2, p3, p4⟩ := gval_rows hv
  rw [← hn] at p1 p2
  rw [← hC] at p3 p4
  have hN1 : 1 ≤ N := by rw [hN]; exact Nat.mul_le_mul p1 p3
  have hN49 : N ≤ 49 := by rw [hN]; exact Nat.mul_le_mul p2 p4
  have hff := flat_fun (C := C) hn (by omega)
  rw [← hN] at hff
  obtain ⟨zs, hz⟩ : ∃ zs, zs = flatG g n C N := ⟨_, rfl⟩
  rw [← hz] at hff HF
  obtain ⟨h, hh⟩ : ∃ h : Nat → Int, h = hgtG g C := ⟨_, rfl⟩
  rw [← hh] at hff ⊢
  have HH := Lib.hid (show ∀ j, zs.getD j 0 = h j from fun j => by rw [← hff])
  clear hr hv hn hC hN hff hz hh p1 p2 p3 p4
  go_enter Try.func31, Try.ntmps31
  go_wp2_with fail
  go_at_call 36
  refine HF.out.mono ?_
  rintro e w1 ⟨G, rfl, ho, hb1⟩
  have HB1 := Lib.hid hb1
  have HO := Lib.hid ho
  clear ho hb1 HF
  go_upto_region 4 with (fail)
  have hbA := Below.alloc (Below.refl w1.heap.size w1) (Nat.le_refl _) (.cells #[.int .i64 n, .int .i64 C, .slice (some ⟨G, 0, none⟩) N N] 49)
  have HFd := Lib.hid (FldAt.new w1 n C (.slice (some ⟨G, 0, none⟩) N N))
  have HO1 := Lib.hid (HO.out.below hbA)
  have HB2 := Lib.hid (HB1.out.trans (hbA.mono HB1.out.size))
  clear hbA HO HB1
  obtain ⟨W1, hW1⟩ : ∃ W1, W1 = w1.alloc (.cells #[.int .i64 n, .int .i64 C, .slice (some ⟨G, 0, none⟩) N N] 49) := ⟨_, rfl⟩
  rw [← hW1] at HFd HO1 HB2 ⊢
  clear hW1
  obtain ⟨-, -, -, f2⟩ := HFd.out.cells
  have q0 := HO1.out.cellAt 0 (by omega)
  rw [HH.out 0] at q0
  have d0 : (0 : Int) < (N : Int) := by omega
  have d0n : 0 < N := by omega
  refine wp_region_held_drew (S := fun wx => wx.cell? ⟨w1.heap.size, 2, none⟩ = some (.slice (some ⟨G, 0, none⟩) N N) ∧ wx.cell? ⟨G, 0, none⟩ = some (.int .i64 (h 0))) (by kernel_rfl) (⟨f2, q0⟩) (fun hHeld => ?_)
  refine wpAnyH_take (i := 0) (oi := { dst := some 18, op := _, type := _, pos := _, after := _, guard := _ }) (v := ?_) rfl (by kernel_rfl) (by kernel_rfl) (by kernel_rfl) (fun _ _ _ h => h) (Or.inl ⟨by rfl, ?_⟩) (by assumption) ?_
  case refine_2 => ((intro w hSw; (try dsimp only at hSw); go_simp); try with_reducible rfl)
  try simp only [Act.put, List.setIfInBounds_toArray, List.set_cons_zero, List.set_cons_succ]
  refine wpAnyH_take (i := 1) (oi := { dst := some 19, op := _, type := _, pos := _, after := _, guard := _ }) (v := ?_) rfl (by kernel_rfl) (by kernel_rfl) (by kernel_rfl) (fun _ _ _ h => h) (Or.inl ⟨by rfl, ?_⟩) (by assumption) ?_
  case refine_2 => ((intro w hSw; (try dsimp only at hSw); go_simp); try with_reducible rfl)
  try simp only [Act.put, List.setIfInBounds_toArray, List.set_cons_zero, List.set_cons_succ]
  refine wpAnyH_take (i := 2) (oi := { dst := some 20, op := _, type := _, pos := _, after := _, guard := _ }) (v := ?_) rfl (by kernel_rfl) (by kernel_rfl) (by kernel_rfl) (fun _ _ _ h => h) (Or.inl ⟨by rfl, ?_⟩) (by assumption) ?_
  case refine_2 => ((intro w hSw; (try dsimp only at hSw); go_simp); try with_reducible rfl)
  try simp only [Act.put, List.setIfInBounds_toArray, List.set_cons_zero, List.set_cons_succ]
  refine wpAnyH_take (i := 3) (oi := { dst := some 21, op := _, type := _, pos := _, after := _, guard := _ }) (v := ?_) rfl (by kernel_rfl) (by kernel_rfl) (by kernel_rfl) (fun _ _ _ h => h) (Or.inl ⟨by rfl, ?_⟩) (by assumption) ?_
  case refine_2 => ((intro w hSw; (try dsimp only at hSw); go_simp); try with_reducible rfl)
  try simp only [Act.put, List.setIfInBounds_toArray, List.set_cons_zero, List.set_cons_succ]
  refine wpAnyH_take (i := 4) (oi := { dst := some 22, op := _, type := _, pos := _, after := _, guard := _ }) (v := ?_) rfl (by kernel_rfl) (by kernel_rfl) (by kernel_rfl) (fun _ _ _ h => h) (Or.inl ⟨by rfl, ?_⟩) (by assumption) ?_
  case refine_2 => ((intro w hSw; (try dsimp only at hSw); go_simp); try with_reducible rfl)
  try simp only [Act.put, List.setIfInBounds_toArray, List.set_cons_zero, List.set_cons_succ]
  refine wpAnyH_take (i := 5) (oi := { dst := some 23, op := _, type := _, pos := _, after := _, guard := _ }) (v := ?_) rfl (by kernel_rfl) (by kernel_rfl) (by kernel_rfl) (fun _ _ _ h => h) (Or.inl ⟨by rfl, ?_⟩) (by assumption) ?_
  case refine_2 => ((intro w hSw; (try dsimp only at hSw); go_simp); try with_reducible rfl)
  try simp only [Act.put, List.setIfInBounds_toArray, List.set_cons_zero, List.set_cons_succ]
  refine wpAnyH_take (i := 6) (oi := { dst := some 24, op := _, type := _, pos := _, after := _, guard := _ }) (v := ?_) rfl (by kernel_rfl) (by kernel_rfl) (by kernel_rfl) (fun _ _ _ h => h) (Or.inl ⟨by rfl, ?_⟩) (by assumption) ?_
  case refine_2 => ((intro w hSw; (try dsimp only at hSw); go_simp); try with_reducible rfl)
  try simp only [Act.put, List.setIfInBounds_toArray, List.set_cons_zero, List.set_cons_succ]
  refine wpAnyH_take (i := 7) (oi := { dst := some 25, op := _, type := _, pos := _, after := _, guard := _ }) (v := ?_) rfl (by kernel_rfl) (by kernel_rfl) (by kernel_rfl) (fun _ _ _ h => h) (Or.inl ⟨by rfl, ?_⟩) (by assumption) ?_
  case refine_2 => ((intro w hSw; (try dsimp only at hSw); go_simp); try with_reducible rfl)
  try simp only [Act.put, List.setIfInBounds_toArray, List.set_cons_zero, List.set_cons_succ]
  refine wpAnyH_take (i := 8) (oi := { dst := some 7, op := _, type := _, pos := _, after := _, guard := _ }) (v := ?_) rfl (by kernel_rfl) (by kernel_rfl) (by kernel_rfl) (fun _ _ _ h => h) (Or.inl ⟨by rfl, ?_⟩) (by assumption) ?_
  case refine_2 => ((intro w hSw; (try dsimp only at hSw); go_simp); try with_reducible rfl)
  try simp only [Act.put, List.setIfInBounds_toArray, List.set_cons_zero, List.set_cons_succ]
  refine wpAnyH_take (i := 9) (oi := { dst := some 8, op := _, type := _, pos := _, after := _, guard := _ }) (v := ?_) rfl (by kernel_rfl) (by kernel_rfl) (by kernel_rfl) (fun _ _ _ h => h) (Or.inl ⟨by rfl, ?_⟩) (by assumption) ?_
  case refine_2 => ((intro w hSw; (try dsimp only at hSw); go_simp); try with_reducible rfl)
  try simp only [Act.put, List.setIfInBounds_toArray, List.set_cons_zero, List.set_cons_succ]
  refine wpAnyH_done (by kernel_rfl) ?_ _
  clear hHeld q0
  have hbd : Below W1.heap.size W1 W1.drew := below_drewN (Below.refl _ _) 1
  have HFd2 := Lib.hid (HFd.out.below hbd)
  have HO2 := Lib.hid (HO1.out.below hbd)
  have HB3 := Lib.hid (HB2.out.trans (hbd.mono HB2.out.size))
  obtain ⟨W2, hW2⟩ : ∃ W2, W2 = W1.drew := ⟨_, rfl⟩
  rw [← hW2] at HFd2 HO2 HB3 ⊢
  clear hbd hW2 HFd HO1 HB2 f2
  obtain ⟨-, -, -, f2⟩ := HFd2.out.cells
  go_wp2_with fail
  go_loopw [7, 8, 29] (fun s t q wr => ∃ m : Nat, m ≤ N ∧ q = .int .i64 m ∧ s = .int .i64 (lowK h (h 0) m) ∧ t = .int .i64 (highK h (h 0) m) ∧ wr = W2) (fun _ _ q _ => N - (intOf q).toNat)
  case atStart => exact ⟨0, Nat.zero_le _, rfl, rfl, rfl, rfl⟩
  case round =>
    obtain ⟨m, hm, rfl, rfl, rfl, rfl⟩ := hrel
    by_cases hlt : m < N
    · have qm := HO2.out.cellAt m hlt
      rw [HH.out m] at qm
      have HLs := Lib.hid (show lowK h (h 0) (m + 1) = min (lowK h (h 0) m) (h m) from rfl)
      have HTs := Lib.hid (show highK h (h 0) (m + 1) = max (highK h (h 0) m) (h m) from rfl)
      obtain ⟨lm, hlm⟩ : ∃ lm, lm = lowK h (h 0) m := ⟨_, rfl⟩
      obtain ⟨tm, htm⟩ : ∃ tm, tm = highK h (h 0) m := ⟨_, rfl⟩
      obtain ⟨y, hy⟩ : ∃ y, y = h m := ⟨_, rfl⟩
      rw [← hlm, ← hy] at HLs
      rw [← htm, ← hy] at HTs
      rw [← hy] at qm
      rw [← hlm, ← htm]
      clear hlm htm hy
      have d1 : (m : Int) < (N : Int) := by omega
      go_wp2_with fail
      go_roundw
      case rel => exact ⟨m + 1, by omega, by go_num, by rw [HLs.out], by rw [HTs.out], trivial⟩
      case measure => simp [intOf]; omega
    · have hme : N = m := by omega
      subst hme
      go_wp2_with fail
      go_ret3
      exact ⟨rfl, HB3.out⟩

end Go.Proofs.Ytkhhloeemecokaa
