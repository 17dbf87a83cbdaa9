/- Contract: GridSees of the reference. -/
import Derived.Test.YtjpcbegndnbeeaaGTurn
import Derived.Test.YtjpcbegndnbeeaaPairs
namespace Go.Proofs.Ytjpcbegndnbeeaa
open Go.RowKit
set_option linter.unusedVariables false

set_option maxHeartbeats 2000000 in
theorem sgsees_any (v : Value) (g : List (List Int)) (w : World) (hr : MRow w v g) (hn : g.length ≤ 1048576) (hm : tot g ≤ 1048576) :
    Calls Try.prog 16 #[v] w fun e w' => e = .returned (.int .i64 (gsV g)) ∧ Below w.heap.size w w' := by
  have HTu := Lib.hid (sturn_any v g w hr hn hm)
  obtain ⟨a, cap, rfl⟩ := hr.shape
  cases hv : gvalB g
  · have HG := Lib.hid (show gsV g = -1 by simp [gsV, hv])
    have HTu2 := Lib.hid (HTu.out.mono (fun e w' h => show (∃ a cap, e = .returned (.tuple #[.slice a 0 cap, .bool false]) ∧ Below w.heap.size w w') from by
      unfold GivesTurn at h
      rw [hv] at h
      obtain ⟨a, cap, he, -, hb⟩ := h
      exact ⟨a, cap, he, hb⟩))
    clear HTu hv hr
    go_enter Try.func16, Try.ntmps16
    go_wp2_with fail
    with_reducible refine HTu2.out.mono ?_
    rintro e w1 ⟨a1, c1, rfl, hb⟩
    go_wp2
    go_ret
    exact ⟨ret_int HG.out.symm, hb⟩
  · have HG := Lib.hid (show gsV g = sumB (rowP g) g.length + sumB (colP g) (colsG g) by simp [gsV, hv])
    obtain ⟨g1, g2, g3, g4⟩ := gval_rows hv
    obtain ⟨n, hN⟩ : ∃ n, n = g.length := ⟨_, rfl⟩
    obtain ⟨C, hC⟩ : ∃ C, C = colsG g := ⟨_, rfl⟩
    have HTu2 := Lib.hid (HTu.out.mono (fun e w' h => show (∃ a cap, e = .returned (.tuple #[.slice a C cap, .bool true]) ∧ MRow w' (.slice a C cap) (turnG g) ∧ Below w.heap.size w w') from by
      unfold GivesTurn at h
      rw [hv] at h
      obtain ⟨a, cap, he, hm, hb⟩ := h
      have e2 : (if true = true then turnG g else []).length = C := by simp [turnG_len, hC]
      rw [e2] at he hm
      exact ⟨a, cap, he, hm, hb⟩))
    have HPr := Lib.hid (show ∀ r v wx, r < n → Row wx v (g.getD r []) → Calls Try.prog 34 #[v] wx fun e w' => e = .returned (.int .i64 (rowP g r)) ∧ Below wx.heap.size wx w' from fun r v wx h hr => by
      have := spairs_any v (g.getD r []) wx hr (by rw [gval_len hv r (by omega)]; omega)
      rw [← row_fill hv r (by omega)] at this
      exact this)
    have HPc := Lib.hid (show ∀ c v wx, c < C → Row wx v ((turnG g).getD c []) → Calls Try.prog 34 #[v] wx fun e w' => e = .returned (.int .i64 (colP g c)) ∧ Below wx.heap.size wx w' from fun c v wx h hr => by
      have hl : ((turnG g).getD c []).length ≤ 1099511627776 := by rw [turn_row g c (by omega), List.length_reverse, fillF_len]; omega
      have := spairs_any v _ wx hr hl
      rw [turn_row g c (by omega), gpairs_rev (col_valid hv (by omega))] at this
      exact this)
    have HRb := Lib.hid (fun k (hk : k ≤ n) => rows_bd hv k (by omega))
    have HCb := Lib.hid (fun k (hk : k ≤ C) => cols_bd hv k (by omega))
    obtain ⟨-, hc⟩ := hr.cells
    have HRow := Lib.hid hc
    have HN := Lib.hid hN
    rw [← hN, ← hC] at HG
    rw [← hN] at HRow HTu2 g1 g2 ⊢
    rw [← hC] at g3 g4
    clear hc hr hv HTu hN hC hn hm
    go_enter Try.func16, Try.ntmps16
    go_wp2_with fail
    with_reducible refine HTu2.out.mono ?_
    rintro e w1 ⟨a1, c1, rfl, hM, hb⟩
    have HB := Lib.hid hb
    have HM := Lib.hid hM
    clear hb hM
    go_wp2
    go_loopw [5, 6] (fun t i wr => ∃ r : Nat, r ≤ n ∧ i = .int .i64 r ∧ t = .int .i64 (sumB (rowP g) r) ∧ Below w1.heap.size w1 wr) (fun _ i _ => n - (intOf i).toNat)
    case atStart => exact ⟨0, Nat.zero_le _, rfl, rfl, Below.refl _ _⟩
    case round =>
      obtain ⟨r, hr, rfl, rfl, hb⟩ := hrel
      have HBr := Lib.hid hb; clear hb
      by_cases hlt : r < n
      · obtain ⟨b, off, u, rfl, hcell, hrow⟩ := HRow.out r hlt
        have HBw := Lib.hid (HB.out.trans (HBr.out.mono HB.out.size))
        have hc1 := (HBw.out.cell (World.block_lt_of_cell? w _ hcell)).trans hcell
        have HP := Lib.hid (HPr.out r u wr hlt (hrow.below HBw.out))
        obtain ⟨s1, s2⟩ := HRb.out r (by omega)
        obtain ⟨s3, s4⟩ := HRb.out (r + 1) (by omega)
        have HS := Lib.hid (show sumB (rowP g) (r + 1) = sumB (rowP g) r + rowP g r from rfl)
        obtain ⟨S, hS⟩ : ∃ S, S = sumB (rowP g) r := ⟨_, rfl⟩
        obtain ⟨y, hy⟩ : ∃ y, y = rowP g r := ⟨_, rfl⟩
        rw [← hS] at s1 s2 HS ⊢
        rw [← hy] at HS HP
        rw [HS.out] at s3 s4
        obtain ⟨z, hz⟩ : ∃ z, z = g.getD r [] := ⟨_, rfl⟩
        rw [← hz] at hrow
        obtain ⟨au, cu, rfl⟩ := hrow.shape
        clear hcell hrow hS hy hz
        go_wp2_with fail
        with_reducible refine HP.out.mono ?_
        rintro e w2 ⟨rfl, hb⟩
        have HB2 := Lib.hid (HBr.out.trans (hb.mono HBr.out.size))
        clear hb
        go_wp2
        go_roundw
        case rel => exact ⟨r + 1, by omega, by go_num, by rw [HS.out], HB2.out⟩
        case measure => simp [intOf]; omega
      · obtain rfl : r = n := by omega
        obtain ⟨s1, s2⟩ := HRb.out r (Nat.le_refl _)
        obtain ⟨S, hS⟩ : ∃ S, S = sumB (rowP g) r := ⟨_, rfl⟩
        rw [← hS] at s1 s2 HG ⊢
        have HMr := Lib.hid (HM.out.below HBr.out)
        have HBw := Lib.hid (HB.out.trans (HBr.out.mono HB.out.size))
        clear hS
        go_wp2
        obtain ⟨W, hW⟩ : ∃ W, W = wr := ⟨_, rfl⟩
        rw [← hW] at HMr HBw ⊢
        clear hW HBr
        go_loopw [5, 7] (fun t i wr => ∃ c : Nat, c ≤ C ∧ i = .int .i64 c ∧ t = .int .i64 (S + sumB (colP g) c) ∧ Below W.heap.size W wr) (fun _ i _ => C - (intOf i).toNat)
        case atStart => exact ⟨0, Nat.zero_le _, rfl, by simp [sumB], Below.refl _ _⟩
        case round =>
          obtain ⟨c, hc, rfl, rfl, hb⟩ := hrel
          have HBr := Lib.hid hb; clear hb
          by_cases hlt : c < C
          · obtain ⟨-, hMc⟩ := HMr.out.cells
            obtain ⟨b, off, u, rfl, hcell, hrow⟩ := hMc c hlt
            clear hMc
            have hc1 := (HBr.out.cell (World.block_lt_of_cell? W _ hcell)).trans hcell
            have HP := Lib.hid (HPc.out c u wr hlt (hrow.below HBr.out))
            obtain ⟨t1, t2⟩ := HCb.out c (by omega)
            obtain ⟨t3, t4⟩ := HCb.out (c + 1) (by omega)
            have HS := Lib.hid (show sumB (colP g) (c + 1) = sumB (colP g) c + colP g c from rfl)
            obtain ⟨T, hT⟩ : ∃ T, T = sumB (colP g) c := ⟨_, rfl⟩
            obtain ⟨y, hy⟩ : ∃ y, y = colP g c := ⟨_, rfl⟩
            rw [← hT] at t1 t2 HS ⊢
            rw [← hy] at HS HP
            rw [HS.out] at t3 t4
            obtain ⟨z, hz⟩ : ∃ z, z = (turnG g).getD c [] := ⟨_, rfl⟩
            rw [← hz] at hrow
            obtain ⟨au, cu, rfl⟩ := hrow.shape
            clear hcell hrow hT hy hz
            go_wp2_with fail
            with_reducible refine HP.out.mono ?_
            rintro e w2 ⟨rfl, hb⟩
            have HB2 := Lib.hid (HBr.out.trans (hb.mono HBr.out.size))
            clear hb
            go_wp2
            go_roundw
            case rel => exact ⟨c + 1, by omega, by go_num, by rw [HS.out]; go_num, HB2.out⟩
            case measure => simp [intOf]; omega
          · obtain rfl : c = C := by omega
            go_wp2
            go_ret
            exact ⟨ret_int HG.out.symm, HBw.out.trans (HBr.out.mono HBw.out.size)⟩

end Go.Proofs.Ytjpcbegndnbeeaa
