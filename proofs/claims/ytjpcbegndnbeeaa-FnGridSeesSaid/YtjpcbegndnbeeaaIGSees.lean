/- Contract: GridSees of the program. -/
import Derived.Test.YtjpcbegndnbeeaaIRow
import Derived.Test.YtjpcbegndnbeeaaGSees
namespace Go.Proofs.Ytjpcbegndnbeeaa
open Go.RowKit
set_option linter.unusedVariables false

set_option maxHeartbeats 2000000 in
theorem igsees_any (v : Value) (g : List (List Int)) (w : World) (hr : MRow w v g) (hn : g.length ≤ 1048576) (hm : tot g ≤ 1048576) :
    Calls Try.prog 17 #[v] w fun e w' => e = .returned (.int .i64 (gsV g)) ∧ Below w.heap.size w w' := by
  cases hv : gvalB g
  · have HG := Lib.hid (show gsV g = -1 by simp [gsV, hv])
    have HF := Lib.hid (fld_no hr hv hn hm)
    obtain ⟨a, cap, rfl⟩ := hr.shape
    clear hv hr
    go_enter Try.func17, Try.ntmps17
    go_wp2_with fail
    with_reducible refine HF.out.mono ?_
    rintro e w1 ⟨rfl, hb⟩
    go_wp2
    go_ret
    exact ⟨ret_int HG.out.symm, hb.trans ((below_alloc w1 _).mono hb.size)⟩
  · have HG := Lib.hid (show gsV g = sumB (rowP g) g.length + sumB (colP g) (colsG g) by simp [gsV, hv])
    obtain ⟨g1, g2, g3, g4⟩ := gval_rows hv
    obtain ⟨n, hN⟩ : ∃ n, n = g.length := ⟨_, rfl⟩
    obtain ⟨C, hC⟩ : ∃ C, C = colsG g := ⟨_, rfl⟩
    obtain ⟨N, hNN⟩ : ∃ N, N = n * C := ⟨_, rfl⟩
    have HF := Lib.hid (fld_yes hr hv n C N hN hC hNN hn hm)
    have HPr := Lib.hid (show ∀ r v wx, r < n → Row wx v (fillF (cellG g r) C C) → Calls Try.prog 35 #[v] wx fun e w' => e = .returned (.int .i64 (rowP g r)) ∧ Below wx.heap.size wx w' from fun r v wx h hr => by
      have := ipairs_any v (fillF (cellG g r) C C) wx hr (by rw [fillF_len]; omega)
      rw [hC] at this
      exact this)
    have HPc := Lib.hid (show ∀ c v wx, c < C → Row wx v (fillF (fun r => cellG g r c) n n) → Calls Try.prog 35 #[v] wx fun e w' => e = .returned (.int .i64 (colP g c)) ∧ Below wx.heap.size wx w' from fun c v wx h hr => by
      have := ipairs_any v (fillF (fun r => cellG g r c) n n) wx hr (by rw [fillF_len]; omega)
      rw [hN] at this
      exact this)
    have HRb := Lib.hid (fun k (hk : k ≤ n) => rows_bd hv k (by omega))
    have HCb := Lib.hid (fun k (hk : k ≤ C) => cols_bd hv k (by omega))
    rw [← hN, ← hC] at HG
    rw [← hN] at g1 g2
    rw [← hC] at g3 g4
    have hN49 : N ≤ 49 := by rw [hNN]; exact Nat.mul_le_mul g2 g4
    have HA := Lib.hid (show ∀ G r c wx, Own wx w.heap.size (.slice (some ⟨G, 0, none⟩) N N) (flatG g n C N) → r < n → c < C → Calls Try.prog 32 #[.agg #[.int .i64 n, .int .i64 C, .slice (some ⟨G, 0, none⟩) N N], .int .i64 r, .int .i64 c] wx fun e w' => e = .returned (.int .i64 (cellG g r c)) ∧ Below wx.heap.size wx w' from fun G r c wx ho hr hc => by
      have := fat_any n C r c (some ⟨G, 0, none⟩) N N (flatG g n C N) wx ho.row hNN hr hc (by omega)
      rw [hNN, flat_getD g hr hc] at this
      rw [hNN]
      exact this)
    obtain ⟨a, cap, rfl⟩ := hr.shape
    rw [← hN] at HF ⊢
    obtain ⟨i0, hi, hz0, hz1, hz2⟩ := info_parts Try.infoInt
    clear hr hv hN hC hNN hn hm
    go_enter Try.func17, Try.ntmps17
    go_wp2_with fail
    with_reducible refine HF.out.mono ?_
    rintro e w1 ⟨G, rfl, ho, hb⟩
    have hGB : G < w1.heap.size := (ho.lt G rfl).2
    have HFd := Lib.hid (show FldAt w1.heap.size n C (.slice (some ⟨G, 0, none⟩) N N) (w1.alloc (.cells #[.int .i64 n, .int .i64 C, .slice (some ⟨G, 0, none⟩) N N] 47)) ∧ Own (w1.alloc (.cells #[.int .i64 n, .int .i64 C, .slice (some ⟨G, 0, none⟩) N N] 47)) w.heap.size (.slice (some ⟨G, 0, none⟩) N N) (flatG g n C N) ∧ Below w.heap.size w (w1.alloc (.cells #[.int .i64 n, .int .i64 C, .slice (some ⟨G, 0, none⟩) N N] 47)) from by
      exact ⟨FldAt.new w1 n C _, ho.below (below_alloc w1 _), hb.trans ((below_alloc w1 _).mono hb.size)⟩)
    clear hb ho
    go_wp2
    go_loopw [5, 21] (fun t i wr => ∃ r : Nat, r ≤ n ∧ i = .int .i64 r ∧ t = .int .i64 (sumB (rowP g) r) ∧ FldAt w1.heap.size n C (.slice (some ⟨G, 0, none⟩) N N) wr ∧ Own wr w.heap.size (.slice (some ⟨G, 0, none⟩) N N) (flatG g n C N) ∧ Below w.heap.size w wr) (fun _ i _ => n - (intOf i).toNat)
    case atStart => exact ⟨0, Nat.zero_le _, rfl, rfl, HFd.out⟩
    case round =>
      obtain ⟨r, hr, rfl, rfl, hfd⟩ := hrel
      clear HFd
      have HFd := Lib.hid hfd; clear hfd
      by_cases hlt : r < n
      · obtain ⟨s1, s2⟩ := HRb.out r (by omega)
        obtain ⟨s3, s4⟩ := HRb.out (r + 1) (by omega)
        have HS := Lib.hid (show sumB (rowP g) (r + 1) = sumB (rowP g) r + rowP g r from rfl)
        obtain ⟨T, hT⟩ : ∃ T, T = sumB (rowP g) r := ⟨_, rfl⟩
        obtain ⟨y, hy⟩ : ∃ y, y = rowP g r := ⟨_, rfl⟩
        rw [← hT] at s1 s2 HS ⊢
        have HY := Lib.hid hy
        rw [← hy] at HS
        rw [HS.out] at s3 s4
        clear hT hy
        obtain ⟨f0, f1, f2, f3⟩ := HFd.out.1.cells
        obtain ⟨D, hD⟩ : ∃ D, D = wr.heap.size := ⟨_, rfl⟩
        go_wp2_with (at_make; refine wpList_make_full _ rfl _ _ 24 rfl wr.heap.size 3 i0 (.int .i64 0) 1 Try.underlying24 hi hz0 hz1 .i64 .i64 _ _ C rfl rfl rfl rfl (by rw [hz2]; omega) (by unfold maxLen; omega) (Nat.le_refl _) ?_; intro w3 hown hgrow)
        have HPR := Lib.hid (show PR w w1.heap.size G D D n C N C g (cellG g r) 0 w3 from by rw [hD]; exact PR.start HFd.out.1 HFd.out.2.1 HFd.out.2.2 hown hgrow)
        have d1 : w.heap.size ≤ D := by rw [hD]; exact HFd.out.2.2.size
        have d2 : w1.heap.size < D := by rw [hD]; exact f0
        have d3 : G < D := by omega
        rw [← hD]
        clear hown hgrow hD f0 f1 f2 f3
        go_loopw [29] (fun i wr => ∃ k : Nat, k ≤ C ∧ i = .int .i64 k ∧ PR w w1.heap.size G D D n C N C g (cellG g r) k wr) (fun i _ => C - (intOf i).toNat)
        case atStart => exact ⟨0, Nat.zero_le _, rfl, HPR.out⟩
        case round =>
          obtain ⟨k, hk, rfl, hs⟩ := hrel
          clear HPR HFd
          have HPR := Lib.hid hs; clear hs
          obtain ⟨f0, f1, f2, f3⟩ := HPR.out.1.cells
          by_cases hltk : k < C
          · have HAk := Lib.hid (HA.out G r k _ HPR.out.2.1 (by omega) (by omega))
            go_wp2_with fail
            with_reducible refine HAk.out.mono ?_
            rintro e w4 ⟨rfl, hb⟩
            have HS4 := Lib.hid (HPR.out.below hb)
            have hold := HS4.out.2.2.1.cellAt k hltk
            have hfr := HS4.out.2.2.1.frozenAt k
            have HS5 := Lib.hid (HS4.out.store d1 d2 d3)
            clear hb
            go_wp2
            go_roundw
            case rel => exact ⟨k + 1, by omega, by go_num, HS5.out⟩
            case measure => simp [intOf]; omega
          · have hke : k = C := by omega
            have HPR2 := Lib.hid (show PR w w1.heap.size G D D n C N C g (cellG g r) C wr from by have q := HPR.out; rw [hke] at q; exact q)
            clear hke HPR
            have HP := Lib.hid (HPr.out r _ wr hlt HPR2.out.2.2.1.row)
            rw [← HY.out] at HP
            go_wp2_with fail
            with_reducible refine HP.out.mono ?_
            rintro e w4 ⟨rfl, hb⟩
            have HP4 := Lib.hid (HPR2.out.below hb)
            clear hb
            go_wp2
            go_roundw
            case rel => exact ⟨r + 1, by omega, by go_num, by rw [HS.out], HP4.out.1, HP4.out.2.1, HP4.out.2.2.2⟩
            case measure => simp [intOf]; omega
      · obtain rfl : r = n := by omega
        obtain ⟨s1, s2⟩ := HRb.out r (Nat.le_refl _)
        obtain ⟨S, hS⟩ : ∃ S, S = sumB (rowP g) r := ⟨_, rfl⟩
        rw [← hS] at s1 s2 HG ⊢
        clear hS
        obtain ⟨f0, f1, f2, f3⟩ := HFd.out.1.cells
        go_wp2
        obtain ⟨wo, rfl⟩ : ∃ wo : World, wo = wr := ⟨_, rfl⟩
        clear f0 f1 f2 f3
        go_loopw [5, 47] (fun t i wr => ∃ c : Nat, c ≤ C ∧ i = .int .i64 c ∧ t = .int .i64 (S + sumB (colP g) c) ∧ FldAt w1.heap.size r C (.slice (some ⟨G, 0, none⟩) N N) wr ∧ Own wr w.heap.size (.slice (some ⟨G, 0, none⟩) N N) (flatG g r C N) ∧ Below w.heap.size w wr) (fun _ i _ => C - (intOf i).toNat)
        case atStart => exact ⟨0, Nat.zero_le _, rfl, by simp [sumB], HFd.out⟩
        case round =>
          obtain ⟨c, hc, rfl, rfl, hfd⟩ := hrel
          clear HFd
          have HFd := Lib.hid hfd; clear hfd
          by_cases hlt : c < C
          · obtain ⟨s1, s2⟩ := HCb.out c (by omega)
            obtain ⟨s3, s4⟩ := HCb.out (c + 1) (by omega)
            have HS := Lib.hid (show sumB (colP g) (c + 1) = sumB (colP g) c + colP g c from rfl)
            obtain ⟨T, hT⟩ : ∃ T, T = sumB (colP g) c := ⟨_, rfl⟩
            obtain ⟨y, hy⟩ : ∃ y, y = colP g c := ⟨_, rfl⟩
            rw [← hT] at s1 s2 HS ⊢
            have HY := Lib.hid hy
            rw [← hy] at HS
            rw [HS.out] at s3 s4
            clear hT hy
            obtain ⟨f0, f1, f2, f3⟩ := HFd.out.1.cells
            obtain ⟨D, hD⟩ : ∃ D, D = wr.heap.size := ⟨_, rfl⟩
            go_wp2_with (at_make; refine wpList_make_full _ rfl _ _ 24 rfl wr.heap.size 3 i0 (.int .i64 0) 1 Try.underlying24 hi hz0 hz1 .i64 .i64 _ _ r rfl rfl rfl rfl (by rw [hz2]; omega) (by unfold maxLen; omega) (Nat.le_refl _) ?_; intro w3 hown hgrow)
            have HPR := Lib.hid (show PR w w1.heap.size G D D r C N r g (fun j => cellG g j c) 0 w3 from by rw [hD]; exact PR.start HFd.out.1 HFd.out.2.1 HFd.out.2.2 hown hgrow)
            have d1 : w.heap.size ≤ D := by rw [hD]; exact HFd.out.2.2.size
            have d2 : w1.heap.size < D := by rw [hD]; exact f0
            have d3 : G < D := by omega
            rw [← hD]
            clear hown hgrow hD f0 f1 f2 f3
            go_loopw [55] (fun i wr => ∃ k : Nat, k ≤ r ∧ i = .int .i64 k ∧ PR w w1.heap.size G D D r C N r g (fun j => cellG g j c) k wr) (fun i _ => r - (intOf i).toNat)
            case atStart => exact ⟨0, Nat.zero_le _, rfl, HPR.out⟩
            case round =>
              obtain ⟨k, hk, rfl, hs⟩ := hrel
              clear HPR HFd
              have HPR := Lib.hid hs; clear hs
              obtain ⟨f0, f1, f2, f3⟩ := HPR.out.1.cells
              by_cases hltk : k < r
              · have HAk := Lib.hid (HA.out G k c _ HPR.out.2.1 (by omega) (by omega))
                go_wp2_with fail
                with_reducible refine HAk.out.mono ?_
                rintro e w4 ⟨rfl, hb⟩
                have HS4 := Lib.hid (HPR.out.below hb)
                have hold := HS4.out.2.2.1.cellAt k hltk
                have hfr := HS4.out.2.2.1.frozenAt k
                have HS5 := Lib.hid (HS4.out.store d1 d2 d3)
                clear hb
                go_wp2
                go_roundw
                case rel => exact ⟨k + 1, by omega, by go_num, HS5.out⟩
                case measure => simp [intOf]; omega
              · have hke : k = r := by omega
                have HPR2 := Lib.hid (show PR w w1.heap.size G D D r C N r g (fun j => cellG g j c) r wr from by have q := HPR.out; rw [hke] at q; exact q)
                clear hke HPR
                have HP := Lib.hid (HPc.out c _ wr hlt HPR2.out.2.2.1.row)
                rw [← HY.out] at HP
                go_wp2_with fail
                with_reducible refine HP.out.mono ?_
                rintro e w4 ⟨rfl, hb⟩
                have HP4 := Lib.hid (HPR2.out.below hb)
                clear hb
                go_wp2
                go_roundw
                case rel => exact ⟨c + 1, by omega, by go_num, by rw [HS.out]; go_num, HP4.out.1, HP4.out.2.1, HP4.out.2.2.2⟩
                case measure => simp [intOf]; omega
          · obtain rfl : c = C := by omega
            go_wp2
            go_ret
            exact ⟨ret_int HG.out.symm, HFd.out.2.2⟩

end Go.Proofs.Ytjpcbegndnbeeaa
