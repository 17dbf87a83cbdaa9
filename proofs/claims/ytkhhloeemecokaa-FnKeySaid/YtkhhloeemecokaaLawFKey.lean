/- Walk of the law FnKey: a key is the best pass to something higher. -/
import Derived.Test.YtkhhloeemecokaaDPeak
import Derived.Test.YtkhhloeemecokaaIBet
import Derived.Test.YtkhhloeemecokaaIRange
import Derived.Test.YtkhhloeemecokaaIProm
import Derived.Test.YtkhhloeemecokaaPlainWay
namespace Go.Proofs.Ytkhhloeemecokaa
open Go.RowKit

set_option maxRecDepth 100000 in
set_option maxHeartbeats 4000000 in
theorem fnKey_walk (w : World) (v0 : Value) (z0 : List Int) (hr0 : RowB w v0 z0) (_hm0 : z0.length ≤ maxLen) (hf0 : ∀ n ∈ z0, (Lit.int .u8 n).wf = true) :
    Calls Try.prog 6 #[v0] w fun e w' => e = .returned (.bool true) ∧ Below w.heap.size w w' := by
  have HDr := Lib.hid (dPeakKey_any v0 z0 w hr0 hf0)
  obtain ⟨a0, cap0, rfl, -, -, -⟩ := hr0
  clear _hm0 hf0
  by_cases hbig : 1048576 < z0.length
  · go_enter Try.func6, Try.ntmps6
    go_wp2
    go_ret
    exact ⟨rfl, Below.refl _ _⟩
  go_enter Try.func6, Try.ntmps6
  have BT := Lib.hid (Below.refl w.heap.size w)
  go_wp2_with fail
  refine (HDr.out).mono ?_
  rintro e w1 ⟨g, a_g, c_g, n, x, rfl, hn, hs, hM, hb⟩
  replace BT := Lib.hid (BT.out.trans (hb.mono BT.out.size))
  have R_g := Lib.hid hM
  have HN := Lib.hid hn
  have HS := Lib.hid hs
  clear hM hn hs HDr
  clear hb
  have HL := Lib.hid (show g.length ≤ 1048576 from by have := HS.out.2.1; omega)
  have HT := Lib.hid HS.out.tot
  have HI := Lib.hid (show ∀ wx, MRow wx (.slice a_g n c_g) g → Calls Try.prog 27 #[.slice a_g n c_g, .int .i64 x] wx (fun e w' => e = .returned (.int .i64 (pkeyV g x)) ∧ Below wx.heap.size wx w') from fun wx hr => ppkey_any _ g x wx hr HL.out HT.out)
  have HJ := Lib.hid (show ∀ wx, MRow wx (.slice a_g n c_g) g → Calls Try.prog 28 #[.slice a_g n c_g, .int .i64 x] wx (fun e w' => e = .returned (.int .i64 (pkeyV g x)) ∧ Below wx.heap.size wx w') from fun wx hr => speakKey_any _ g x wx hr HL.out HT.out)
  cases hv : isPk g x
  · have HV := Lib.hid (show pkeyV g x = -1 by unfold pkeyV; rw [hv]; rfl)
    rw [HV.out] at HI HJ
    clear hv HV
    go_wp2_with fail
    refine (HI.out _ R_g.out).mono ?_
    rintro e w2 ⟨rfl, hb⟩
    replace R_g := Lib.hid (R_g.out.below hb)
    replace BT := Lib.hid (BT.out.trans (hb.mono BT.out.size))
    clear hb
    go_wp2_with fail
    refine (HJ.out _ R_g.out).mono ?_
    rintro e w3 ⟨rfl, hb⟩
    replace R_g := Lib.hid (R_g.out.below hb)
    replace BT := Lib.hid (BT.out.trans (hb.mono BT.out.size))
    clear hb
    go_wp2
    go_ret
    exact ⟨rfl, BT.out⟩
  · skip
    have hp := hv
    unfold isPk at hp
    simp only [Bool.and_eq_true, decide_eq_true_eq] at hp
    obtain ⟨hgv, ⟨x0, x1⟩, -⟩ := hp
    obtain ⟨i, rfl⟩ : ∃ r : Nat, x = (r : Int) := ⟨x.toNat, by omega⟩
    obtain ⟨C, hC⟩ : ∃ C, C = colsG g := ⟨_, rfl⟩
    obtain ⟨N, hN⟩ : ∃ N, N = n * C := ⟨_, rfl⟩
    have hn := HN.out
    have hNg : N = g.length * colsG g := by rw [hN, hn, hC]
    rw [← hNg] at x1
    have hi : i < N := by omega
    obtain ⟨h1, h2, h3, h4⟩ := gval_rows hgv
    rw [← hn] at h1 h2
    rw [← hC] at h3 h4
    have hN49 : N ≤ 49 := by rw [hN]; exact Nat.mul_le_mul h2 h4
    have hrow : ∀ r, r < n → (g.getD r []).length = C := fun r hr => by rw [hC]; exact gval_len hgv r (by omega)
    have hG := grVal hgv hn hC
    rw [← hN] at hG
    have HCo := Lib.hid (show ∀ wx, MRow wx (.slice a_g n c_g) g → Calls Try.prog 29 #[.slice a_g n c_g] wx (fun e w' => e = .returned (.int .i64 N) ∧ wx = w') from fun wx hr => cellsOf_any _ g n C N wx hr hn hC hN h1 h2 (by omega))
    have HHt := Lib.hid (show ∀ wx, MRow wx (.slice a_g n c_g) g → Calls Try.prog 16 #[.slice a_g n c_g, .int .i64 (i : Nat)] wx (fun e w' => e = .returned (.int .i64 (hgtG g C i)) ∧ Below wx.heap.size wx w') from fun wx hr => (heightOf_any _ g i n C wx hr hn hC h3 h2 h4 (by rw [← hN]; exact hi) hrow).mono (fun e w' hq => ⟨hq.1, by rw [hq.2]; exact below_drewN (Below.refl _ _) 1⟩))
    have HHi := Lib.hid (show ∀ (k : Nat) wx, k < N → MRow wx (.slice a_g n c_g) g → Calls Try.prog 30 #[.slice a_g n c_g, .int .i64 (k : Nat), .int .i64 (i : Nat)] wx (fun e w' => e = .returned (.bool (hiH (hgtG g C) k i)) ∧ Below wx.heap.size wx w') from fun k wx hk hr => higher_any _ g k i n C wx hr hn hC h3 h2 h4 (by rw [← hN]; exact hk) (by rw [← hN]; exact hi) hrow)
    have HB := Lib.hid (show ∀ (k : Nat) wx, k < N → MRow wx (.slice a_g n c_g) g → Calls Try.prog 11 #[.slice a_g n c_g, .int .i64 (i : Nat), .int .i64 (k : Nat)] wx (fun e w' => e = .returned (.int .i64 ((passL N (nearL n C) (hgtG g C) i).getD k 0)) ∧ Below wx.heap.size wx w') from fun k wx hk hr => by
      have := ipbet_any _ g i k wx hr HL.out HT.out
      rw [show pbV g i k = (passL N (nearL n C) (hgtG g C) i).getD k 0 by unfold pbV; rw [if_pos (pway_in hgv hNg hi hk), ← hn, ← hC, Int.toNat_natCast, Int.toNat_natCast, passL_get hk]] at this
      exact this)
    have HGr := Lib.hid (show ∀ wx, MRow wx (.slice a_g n c_g) g → Calls Try.prog 31 #[.slice a_g n c_g] wx (fun e w' => e = .returned (.tuple #[.int .i64 (lowK (hgtG g C) (hgtG g C 0) N), .int .i64 (highK (hgtG g C) (hgtG g C 0) N), .bool true]) ∧ Below wx.heap.size wx w') from fun wx hr => igrange_any _ g n C N wx hr hgv hn hC hN HL.out HT.out)
    obtain ⟨h, hh⟩ : ∃ h : Nat → Int, h = hgtG g C := ⟨_, rfl⟩
    rw [← hh] at HHt HHi HB HGr hG
    obtain ⟨P, hP⟩ : ∃ P, P = passL N (nearL n C) h i := ⟨_, rfl⟩
    have hK : pkeyV g i = if 0 ≤ bestK P h i N then bestK P h i N else lowK h (h 0) N := by
      unfold pkeyV keyG
      rw [hv, if_pos rfl, Int.toNat_natCast, ← hn, ← hC, ← hN, ← hh]
      unfold keyH
      rw [← hP, lowK_any hi (show 0 < N by omega)]
    have hle : ∀ k, k ≤ N → bestK P h i k ≤ h i := by
      intro k
      induction k with
      | zero => intro _; have := hG.h0 i hi; show (-1 : Int) ≤ _; omega
      | succ k ih =>
        intro hk
        have h5 := ih (by omega)
        have h6 := (passV_is hG hi (show k < N by omega)).top.1
        have h7 : P.getD k 0 = passV (nearL n C) h i k := by rw [hP]; exact passL_get (by omega)
        unfold bestK
        split <;> omega
    have hself : hiH h i i = false := by unfold hiH; simp
    have hnn : 0 ≤ pkeyV g i := by
      rw [hK]
      split
      · assumption
      · rcases lowK_at h (h 0) N with q | ⟨j, hj, q⟩
        · rw [q]; exact hG.h0 0 (by omega)
        · rw [q]; exact hG.h0 j hj
    rw [← hP] at HB
    have HLe := Lib.hid hle
    have HSf := Lib.hid hself
    obtain ⟨kv, hkv⟩ : ∃ kv, kv = pkeyV g i := ⟨_, rfl⟩
    rw [← hkv] at HI HJ hK hnn
    have HK := Lib.hid hK
    have d0 : ¬ kv < 0 := by omega
    clear hv hgv x0 x1 hC hN hn hNg h1 h2 h3 h4 hrow hG hh hP hK hle hself hkv
    go_wp2_with fail
    refine (HI.out _ R_g.out).mono ?_
    rintro e w4 ⟨rfl, hb⟩
    replace R_g := Lib.hid (R_g.out.below hb)
    replace BT := Lib.hid (BT.out.trans (hb.mono BT.out.size))
    clear hb
    go_wp2_with fail
    refine (HJ.out _ R_g.out).mono ?_
    rintro e w5 ⟨rfl, hb⟩
    replace R_g := Lib.hid (R_g.out.below hb)
    replace BT := Lib.hid (BT.out.trans (hb.mono BT.out.size))
    clear hb
    go_wp2_with fail
    go_loopw [7, 8] (fun t q wr => ∃ m : Nat, m ≤ N ∧ q = .int .i64 m ∧ t = .int .i64 (bestK P h i m) ∧ Below w5.heap.size w5 wr) (fun _ q _ => N - (intOf q).toNat)
    case atStart => exact ⟨0, Nat.zero_le _, rfl, rfl, Below.refl _ _⟩
    case round =>
      obtain ⟨m, hm, rfl, rfl, hb⟩ := hrel
      have HBe := Lib.hid hb
      clear hb
      replace R_g := Lib.hid (R_g.out.below HBe.out)
      replace BT := Lib.hid (BT.out.trans ((HBe.out).mono BT.out.size))
      by_cases hlt : m < N
      · skip
        have HBs := Lib.hid (show bestK P h i (m + 1) = if hiH h m i = true then max (bestK P h i m) (P.getD m 0) else bestK P h i m from rfl)
        obtain ⟨bm, hbm⟩ : ∃ bm, bm = bestK P h i m := ⟨_, rfl⟩
        have HBm := Lib.hid (HB.out m)
        obtain ⟨pm, hpm⟩ : ∃ pm, pm = P.getD m 0 := ⟨_, rfl⟩
        rw [← hbm, ← hpm] at HBs
        rw [← hpm] at HBm
        rw [← hbm]
        have d1 : (m : Int) < (N : Int) := by omega
        clear hbm hpm
        by_cases hmi : m = i
        · subst hmi
          go_wp2_with (go_at_call 29; refine (HCo.out _ R_g.out).mono ?_; rintro e wz ⟨rfl, rfl⟩)
          go_roundw
          case rel => exact ⟨m + 1, by omega, by go_num, by rw [HBs.out, HSf.out]; rfl, HBe.out⟩
          case measure => simp [intOf]; omega
        · have d2 : ¬ (m : Int) = (i : Int) := by omega
          have HHm := Lib.hid (HHi.out m wr hlt R_g.out)
          cases hq : hiH h m i
          · have HQ := Lib.hid hq
            rw [hq] at HHm
            clear hq
            go_wp2_with (first | (go_at_call 29; refine (HCo.out _ R_g.out).mono ?_; rintro e wz ⟨rfl, rfl⟩) | (go_at_call 30; refine HHm.out.mono ?_; rintro e wy ⟨rfl, hby⟩))
            go_roundw
            case rel => exact ⟨m + 1, by omega, by go_num, by rw [HBs.out, HQ.out]; rfl, HBe.out.trans (hby.mono HBe.out.size)⟩
            case measure => simp [intOf]; omega
          · have HQ := Lib.hid hq
            rw [hq] at HHm
            clear hq
            go_wp2_with (first | (go_at_call 29; refine (HCo.out _ R_g.out).mono ?_; rintro e wz ⟨rfl, rfl⟩) | (go_at_call 30; refine HHm.out.mono ?_; rintro e wy ⟨rfl, hby⟩; have R_y := Lib.hid (R_g.out.below hby)) | (go_at_call 11; refine (HBm.out _ hlt R_y.out).mono ?_; rintro e wu ⟨rfl, hbu⟩))
            go_roundw
            case rel => exact ⟨m + 1, by omega, by go_num, by rw [HBs.out, HQ.out]; rfl, (HBe.out.trans (hby.mono HBe.out.size)).trans (hbu.mono (Nat.le_trans HBe.out.size hby.size))⟩
            case measure => simp [intOf]; omega
      · have hme : N = m := by omega
        subst hme
        have hle := HLe.out N (Nat.le_refl _)
        obtain ⟨bm, hbm⟩ : ∃ bm, bm = bestK P h i N := ⟨_, rfl⟩
        rw [← hbm] at HK hle ⊢
        clear hbm
        obtain ⟨lo, hlo⟩ : ∃ lo, lo = lowK h (h 0) N := ⟨_, rfl⟩
        rw [← hlo] at HK HGr
        obtain ⟨hg, hhg⟩ : ∃ hg, hg = highK h (h 0) N := ⟨_, rfl⟩
        rw [← hhg] at HGr
        obtain ⟨hi', hhi⟩ : ∃ hi', hi' = h i := ⟨_, rfl⟩
        rw [← hhi] at HHt hle
        clear hlo hhg hhi
        by_cases hb0 : bm < 0
        · have hkl : kv = lo := by rw [HK.out, if_neg (by omega)]
          subst hkl
          go_wp2_with (first | (go_at_call 29; refine (HCo.out _ R_g.out).mono ?_; rintro e wz ⟨rfl, rfl⟩) | (go_at_call 31; refine (HGr.out _ R_g.out).mono ?_; rintro e wu ⟨rfl, hbu⟩))
          go_ret
          exact ⟨rfl, BT.out.trans (hbu.mono BT.out.size)⟩
        · have hkl : kv = bm := by rw [HK.out, if_pos (by omega)]
          subst hkl
          have d3 : kv ≤ hi' := hle
          go_wp2_with (first | (go_at_call 29; refine (HCo.out _ R_g.out).mono ?_; rintro e wz ⟨rfl, rfl⟩) | (go_at_call 31; refine (HGr.out _ R_g.out).mono ?_; rintro e wu ⟨rfl, hbu⟩; have R_u := Lib.hid (R_g.out.below hbu)) | (go_at_call 16; refine (HHt.out _ R_u.out).mono ?_; rintro e wy ⟨rfl, hby⟩))
          go_ret
          exact ⟨rfl, (BT.out.trans (hbu.mono BT.out.size)).trans (hby.mono (Nat.le_trans BT.out.size hbu.size))⟩

end Go.Proofs.Ytkhhloeemecokaa
