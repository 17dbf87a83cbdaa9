/- Walk of the law FnGridSees: turned grids see as much. -/
import Derived.Test.YtjpcbegndnbeeaaGDraw2
import Derived.Test.YtjpcbegndnbeeaaIGSees
import Derived.Test.YtjpcbegndnbeeaaIGrid
import Derived.Test.YtjpcbegndnbeeaaNearL
import Derived.Test.YtjpcbegndnbeeaaPlainGN
namespace Go.Proofs.Ytjpcbegndnbeeaa
open Go.RowKit
set_option linter.unusedVariables false

set_option maxRecDepth 100000 in
set_option maxHeartbeats 4000000 in
theorem fnGridSees_walk (w : World) (v0 : Value) (z0 : List Int) (hr0 : RowB w v0 z0) (_hm0 : z0.length ≤ maxLen) (hf0 : ∀ n ∈ z0, (Lit.int .u8 n).wf = true) :
    Calls Try.prog 6 #[v0] w fun e w' => e = .returned (.bool true) ∧ Below w.heap.size w w' := by
  have HDr := Lib.hid (dGridSees_any v0 z0 w hr0 hf0)
  obtain ⟨a0, cap0, rfl, -, -, -⟩ := hr0
  clear _hm0 hf0
  by_cases hbig : 1048576 < z0.length
  · go_enter Try.func6, Try.ntmps6
    go_wp2
    go_ret
    exact ⟨rfl, Below.refl _ _⟩
  go_enter Try.func6, Try.ntmps6
  have BT := Lib.hid (Below.refl w.heap.size w)
  go_wp2_with fail
  refine (HDr.out).mono ?_
  rintro e w1 ⟨g, a_g, c_g, n, rfl, hn, hs, hM, hb⟩
  replace BT := Lib.hid (BT.out.trans (hb.mono BT.out.size))
  have R_g := Lib.hid hM
  have HN := Lib.hid hn
  have HS := Lib.hid hs
  clear hM hn hs HDr
  clear hb
  have HL := Lib.hid (show g.length ≤ 1048576 from by have := HS.out.2.1; omega)
  have HT := Lib.hid HS.out.tot
  obtain ⟨S, hS⟩ : ∃ S, S = gsV g := ⟨_, rfl⟩
  have HI := Lib.hid (show ∀ wx, MRow wx (.slice a_g n c_g) g → Calls Try.prog 17 #[.slice a_g n c_g] wx fun e w' => e = .returned (.int .i64 S) ∧ Below wx.heap.size wx w' from fun wx hr => by rw [hS]; exact igsees_any _ g wx hr HL.out HT.out)
  have HJ := Lib.hid (show ∀ wx, MRow wx (.slice a_g n c_g) g → Calls Try.prog 16 #[.slice a_g n c_g] wx fun e w' => e = .returned (.int .i64 S) ∧ Below wx.heap.size wx w' from fun wx hr => by rw [hS]; exact sgsees_any _ g wx hr HL.out HT.out)
  cases hv : gvalB g
  · obtain rfl : S = -1 := by rw [hS]; simp [gsV, hv]
    clear hS hv
    go_wp2_with fail
    refine (HI.out _ R_g.out).mono ?_
    rintro e w2 ⟨rfl, hb⟩
    replace R_g := Lib.hid (R_g.out.below hb)
    replace BT := Lib.hid (BT.out.trans (hb.mono BT.out.size))
    clear hb
    go_wp2_with fail
    refine (HJ.out _ R_g.out).mono ?_
    rintro e w3 ⟨rfl, hb⟩
    replace R_g := Lib.hid (R_g.out.below hb)
    replace BT := Lib.hid (BT.out.trans (hb.mono BT.out.size))
    clear hb
    go_wp2
    go_ret
    exact ⟨rfl, BT.out⟩
  · have x0 : (S != S) = false := by simp
    have x1 : (S == S) = true := by simp
    obtain ⟨g1, g2, g3, g4⟩ := gval_rows hv
    have hmul : g.length * colsG g ≤ 49 := Nat.mul_le_mul g2 g4
    have hmul2 : colsG g * g.length ≤ 49 := Nat.mul_le_mul g4 g2
    have b1 := rows_bd hv g.length (Nat.le_refl _)
    have b2 := cols_bd hv (colsG g) (Nat.le_refl _)
    have hSb : 0 ≤ S ∧ S ≤ 5600 := by rw [hS]; unfold gsV; rw [if_pos hv]; omega
    obtain ⟨s1, s2⟩ := hSb
    have HSa := Lib.hid (show ∀ v wx, MRow wx v (turnG g) → Calls Try.prog 17 #[v] wx fun e w' => e = .returned (.int .i64 S) ∧ Below wx.heap.size wx w' from fun v wx hr => by have := igsees_any v _ wx hr (by rw [turnG_len]; omega) (by rw [show turnG g = gridF (fun r c => cellG g (g.length - 1 - c) r) (colsG g) g.length from rfl, tot_gridF]; omega); rw [(gs_turn hv).2, ← hS] at this; exact this)
    have HSb := Lib.hid (show ∀ v wx, MRow wx v (gridF (fun r c => cellG g r (colsG g - 1 - c)) g.length (colsG g)) → Calls Try.prog 17 #[v] wx fun e w' => e = .returned (.int .i64 S) ∧ Below wx.heap.size wx w' from fun v wx hr => by have := igsees_any v _ wx hr (by rw [gridF_len]; omega) (by rw [tot_gridF]; omega); rw [(gs_mirror hv).2, ← hS] at this; exact this)
    have HSc := Lib.hid (show (∀ r c, r < g.length → c < colsG g → htB (cellG g r c + 1) = true) → ∀ v wx, MRow wx v (gridF (fun r c => cellG g r c + 1) g.length (colsG g)) → Calls Try.prog 17 #[v] wx fun e w' => e = .returned (.int .i64 S) ∧ Below wx.heap.size wx w' from fun hall v wx hr => by have := igsees_any v _ wx hr (by rw [gridF_len]; omega) (by rw [tot_gridF]; omega); rw [(gs_raise hv hall).2, ← hS] at this; exact this)
    have HTu := Lib.hid (show ∀ wx, MRow wx (.slice a_g n c_g) g → Calls Try.prog 23 #[.slice a_g n c_g] wx _ from fun wx hr => iturn_any _ g wx hr hv HL.out HT.out)
    have HMi := Lib.hid (show ∀ wx, MRow wx (.slice a_g n c_g) g → Calls Try.prog 20 #[.slice a_g n c_g] wx _ from fun wx hr => imirror_any _ g wx hr hv HL.out HT.out)
    have HRa := Lib.hid (show ∀ wx, MRow wx (.slice a_g n c_g) g → Calls Try.prog 24 #[.slice a_g n c_g, .int .i64 1] wx _ from fun wx hr => iraise_any _ g wx hr hv HL.out HT.out)
    have hnear := near_le hv
    rw [← hS] at hnear
    obtain ⟨C, hC⟩ : ∃ C, C = colsG g := ⟨_, rfl⟩
    obtain ⟨N, hN2⟩ : ∃ N, N = n * C := ⟨_, rfl⟩
    have hn1 := HN.out
    have HCl := Lib.hid (show ∀ wx, MRow wx (.slice a_g n c_g) g → Calls Try.prog 25 #[.slice a_g n c_g] wx fun e w' => e = .returned (.int .i64 N) ∧ wx = w' from fun wx hr => cellsOf_any _ g n C N wx hr hn1 hC hN2 (by omega) (by omega) (by omega))
    have HNr := Lib.hid (show ∀ j wx, j < N → MRow wx (.slice a_g n c_g) g → Calls Try.prog 26 #[.slice a_g n c_g, .int .i64 (j : Nat)] wx fun e w' => (∃ a c, e = .returned (.slice a (nearN n C j) c)) ∧ Below wx.heap.size wx w' from fun j wx hj hr => by
      refine (nearOf_any _ g j n C wx hr hn1 hC (by omega) (by omega) (by omega) (by omega) (by rw [← hN2]; exact hj)).mono ?_
      rintro e w' ⟨a, c, he, -, hb⟩
      rw [near_len] at he
      exact ⟨⟨a, c, he⟩, hb⟩)
    have HNe := Lib.hid (show sumB (fun i => (nearN n C i : Int)) N ≤ 2 * S from by
      rw [hN2, hC, hn1]
      refine Int.le_trans (Int.le_of_eq (sumB_congr (fun i hi => ?_))) hnear
      rw [near_len])
    have HBd := Lib.hid (show ∀ j, j ≤ N → 0 ≤ sumB (fun i => (nearN n C i : Int)) j ∧ sumB (fun i => (nearN n C i : Int)) j ≤ 4 * j from fun j _ => sumB_bd (X := 4) (fun i => by rw [← near_len]; have := nearL_len n C i; omega) j)
    have HN4 := Lib.hid (show ∀ j, nearN n C j ≤ 4 from fun j => by rw [← near_len]; exact nearL_len n C j)
    have hN49 : N ≤ 49 := by rw [hN2, hC, hn1]; exact hmul
    rw [← hC] at HTu
    clear hnear hmul hmul2 b1 b2 hS hv hC hN2 hn1 g1 g2 g3 g4
    go_wp2_with fail
    refine (HI.out _ R_g.out).mono ?_
    rintro e w4 ⟨rfl, hb⟩
    replace R_g := Lib.hid (R_g.out.below hb)
    replace BT := Lib.hid (BT.out.trans (hb.mono BT.out.size))
    clear hb
    go_wp2_with fail
    refine (HJ.out _ R_g.out).mono ?_
    rintro e w5 ⟨rfl, hb⟩
    replace R_g := Lib.hid (R_g.out.below hb)
    replace BT := Lib.hid (BT.out.trans (hb.mono BT.out.size))
    clear hb
    go_wp2_with fail
    refine (HTu.out _ R_g.out).mono ?_
    rintro e w6 ⟨a_a, c_a, rfl, hM, hb⟩
    replace R_g := Lib.hid (R_g.out.below hb)
    replace BT := Lib.hid (BT.out.trans (hb.mono BT.out.size))
    have R_a := Lib.hid hM
    clear hM
    clear hb
    go_wp2_with fail
    refine (HMi.out _ R_g.out).mono ?_
    rintro e w7 ⟨a_b, c_b, rfl, hM, hb⟩
    replace R_g := Lib.hid (R_g.out.below hb)
    replace R_a := Lib.hid (R_a.out.below hb)
    replace BT := Lib.hid (BT.out.trans (hb.mono BT.out.size))
    have R_b := Lib.hid hM
    clear hM
    clear hb
    go_wp2_with fail
    refine (HRa.out _ R_g.out).mono ?_
    rintro e w8 hor
    rcases hor with ⟨hall, a_c, c_c, rfl, hM, hb⟩ | ⟨-, rfl, hb⟩
    · skip
      replace R_g := Lib.hid (R_g.out.below hb)
      replace R_a := Lib.hid (R_a.out.below hb)
      replace R_b := Lib.hid (R_b.out.below hb)
      replace BT := Lib.hid (BT.out.trans (hb.mono BT.out.size))
      have R_c := Lib.hid hM
      have HSc2 := Lib.hid (HSc.out hall)
      clear hM hall
      clear hb HRa HSc HTu HMi
      go_wp2
      go_loopw [12, 13] (fun t i wr => ∃ j : Nat, j ≤ N ∧ i = .int .i64 j ∧ t = .int .i64 (sumB (fun i => (nearN n C i : Int)) j) ∧ Below w8.heap.size w8 wr) (fun _ i _ => N - (intOf i).toNat)
      case atStart => exact ⟨0, Nat.zero_le _, rfl, rfl, Below.refl _ _⟩
      case round =>
        obtain ⟨j, hj, rfl, rfl, hb⟩ := hrel
        have HBe := Lib.hid hb
        clear hb
        replace R_g := Lib.hid (R_g.out.below HBe.out)
        replace R_a := Lib.hid (R_a.out.below HBe.out)
        replace R_b := Lib.hid (R_b.out.below HBe.out)
        replace R_c := Lib.hid (R_c.out.below HBe.out)
        replace BT := Lib.hid (BT.out.trans ((HBe.out).mono BT.out.size))
        obtain ⟨t1, t2⟩ := HBd.out j hj
        have HTs := Lib.hid (show sumB (fun i => (nearN n C i : Int)) (j + 1) = sumB (fun i => (nearN n C i : Int)) j + (nearN n C j : Int) from rfl)
        by_cases hlt : j < N
        · obtain ⟨l, hl⟩ : ∃ l, l = nearN n C j := ⟨_, rfl⟩
          have hl4 : l ≤ 4 := by rw [hl]; exact HN4.out j
          obtain ⟨T, hT⟩ : ∃ T, T = sumB (fun i => (nearN n C i : Int)) j := ⟨_, rfl⟩
          have HNj := Lib.hid (fun wx => HNr.out j wx hlt)
          rw [← hl] at HNj HTs
          rw [← hT] at t1 t2 HTs ⊢
          clear hl hT
          go_wp2_with fail
          refine (calls_same (HCl.out _ R_g.out)).mono ?_
          rintro e w9 ⟨rfl, hb⟩
          replace R_g := Lib.hid (R_g.out.below hb)
          replace R_a := Lib.hid (R_a.out.below hb)
          replace R_b := Lib.hid (R_b.out.below hb)
          replace R_c := Lib.hid (R_c.out.below hb)
          replace BT := Lib.hid (BT.out.trans (hb.mono BT.out.size))
          replace HBe := Lib.hid (HBe.out.trans (hb.mono HBe.out.size))
          clear hb
          go_wp2_with fail
          refine (HNj.out _ R_g.out).mono ?_
          rintro e w10 ⟨⟨a_z, c_z, rfl⟩, hb⟩
          replace R_g := Lib.hid (R_g.out.below hb)
          replace R_a := Lib.hid (R_a.out.below hb)
          replace R_b := Lib.hid (R_b.out.below hb)
          replace R_c := Lib.hid (R_c.out.below hb)
          replace BT := Lib.hid (BT.out.trans (hb.mono BT.out.size))
          replace HBe := Lib.hid (HBe.out.trans (hb.mono HBe.out.size))
          clear hb
          go_wp2
          go_roundw
          case rel => exact ⟨j + 1, by omega, by go_num, by rw [HTs.out], HBe.out⟩
          case measure => simp [intOf]; omega
        · obtain rfl : j = N := by omega
          have hne := HNe.out
          obtain ⟨T, hT⟩ : ∃ T, T = sumB (fun i => (nearN n C i : Int)) j := ⟨_, rfl⟩
          rw [← hT] at t1 t2 hne ⊢
          clear hT HTs
          go_wp2_with fail
          refine (calls_same (HCl.out _ R_g.out)).mono ?_
          rintro e w11 ⟨rfl, hb⟩
          replace R_g := Lib.hid (R_g.out.below hb)
          replace R_a := Lib.hid (R_a.out.below hb)
          replace R_b := Lib.hid (R_b.out.below hb)
          replace R_c := Lib.hid (R_c.out.below hb)
          replace BT := Lib.hid (BT.out.trans (hb.mono BT.out.size))
          replace HBe := Lib.hid (HBe.out.trans (hb.mono HBe.out.size))
          clear hb
          go_wp2_with fail
          refine (HSa.out _ _ R_a.out).mono ?_
          rintro e w12 ⟨rfl, hb⟩
          replace R_g := Lib.hid (R_g.out.below hb)
          replace R_a := Lib.hid (R_a.out.below hb)
          replace R_b := Lib.hid (R_b.out.below hb)
          replace R_c := Lib.hid (R_c.out.below hb)
          replace BT := Lib.hid (BT.out.trans (hb.mono BT.out.size))
          replace HBe := Lib.hid (HBe.out.trans (hb.mono HBe.out.size))
          clear hb
          go_wp2_with fail
          refine (HSb.out _ _ R_b.out).mono ?_
          rintro e w13 ⟨rfl, hb⟩
          replace R_g := Lib.hid (R_g.out.below hb)
          replace R_a := Lib.hid (R_a.out.below hb)
          replace R_b := Lib.hid (R_b.out.below hb)
          replace R_c := Lib.hid (R_c.out.below hb)
          replace BT := Lib.hid (BT.out.trans (hb.mono BT.out.size))
          replace HBe := Lib.hid (HBe.out.trans (hb.mono HBe.out.size))
          clear hb
          go_wp2_with fail
          refine (HSc2.out _ _ R_c.out).mono ?_
          rintro e w14 ⟨rfl, hb⟩
          replace R_g := Lib.hid (R_g.out.below hb)
          replace R_a := Lib.hid (R_a.out.below hb)
          replace R_b := Lib.hid (R_b.out.below hb)
          replace R_c := Lib.hid (R_c.out.below hb)
          replace BT := Lib.hid (BT.out.trans (hb.mono BT.out.size))
          replace HBe := Lib.hid (HBe.out.trans (hb.mono HBe.out.size))
          clear hb
          go_wp2
          go_ret
          exact ⟨rfl, BT.out⟩
    · skip
      replace R_g := Lib.hid (R_g.out.below hb)
      replace R_a := Lib.hid (R_a.out.below hb)
      replace R_b := Lib.hid (R_b.out.below hb)
      replace BT := Lib.hid (BT.out.trans (hb.mono BT.out.size))
      clear hb HRa HSc HTu HMi
      go_wp2
      go_loopw [12, 13] (fun t i wr => ∃ j : Nat, j ≤ N ∧ i = .int .i64 j ∧ t = .int .i64 (sumB (fun i => (nearN n C i : Int)) j) ∧ Below w8.heap.size w8 wr) (fun _ i _ => N - (intOf i).toNat)
      case atStart => exact ⟨0, Nat.zero_le _, rfl, rfl, Below.refl _ _⟩
      case round =>
        obtain ⟨j, hj, rfl, rfl, hb⟩ := hrel
        have HBe := Lib.hid hb
        clear hb
        replace R_g := Lib.hid (R_g.out.below HBe.out)
        replace R_a := Lib.hid (R_a.out.below HBe.out)
        replace R_b := Lib.hid (R_b.out.below HBe.out)
        replace BT := Lib.hid (BT.out.trans ((HBe.out).mono BT.out.size))
        obtain ⟨t1, t2⟩ := HBd.out j hj
        have HTs := Lib.hid (show sumB (fun i => (nearN n C i : Int)) (j + 1) = sumB (fun i => (nearN n C i : Int)) j + (nearN n C j : Int) from rfl)
        by_cases hlt : j < N
        · obtain ⟨l, hl⟩ : ∃ l, l = nearN n C j := ⟨_, rfl⟩
          have hl4 : l ≤ 4 := by rw [hl]; exact HN4.out j
          obtain ⟨T, hT⟩ : ∃ T, T = sumB (fun i => (nearN n C i : Int)) j := ⟨_, rfl⟩
          have HNj := Lib.hid (fun wx => HNr.out j wx hlt)
          rw [← hl] at HNj HTs
          rw [← hT] at t1 t2 HTs ⊢
          clear hl hT
          go_wp2_with fail
          refine (calls_same (HCl.out _ R_g.out)).mono ?_
          rintro e w29 ⟨rfl, hb⟩
          replace R_g := Lib.hid (R_g.out.below hb)
          replace R_a := Lib.hid (R_a.out.below hb)
          replace R_b := Lib.hid (R_b.out.below hb)
          replace BT := Lib.hid (BT.out.trans (hb.mono BT.out.size))
          replace HBe := Lib.hid (HBe.out.trans (hb.mono HBe.out.size))
          clear hb
          go_wp2_with fail
          refine (HNj.out _ R_g.out).mono ?_
          rintro e w30 ⟨⟨a_z, c_z, rfl⟩, hb⟩
          replace R_g := Lib.hid (R_g.out.below hb)
          replace R_a := Lib.hid (R_a.out.below hb)
          replace R_b := Lib.hid (R_b.out.below hb)
          replace BT := Lib.hid (BT.out.trans (hb.mono BT.out.size))
          replace HBe := Lib.hid (HBe.out.trans (hb.mono HBe.out.size))
          clear hb
          go_wp2
          go_roundw
          case rel => exact ⟨j + 1, by omega, by go_num, by rw [HTs.out], HBe.out⟩
          case measure => simp [intOf]; omega
        · obtain rfl : j = N := by omega
          have hne := HNe.out
          obtain ⟨T, hT⟩ : ∃ T, T = sumB (fun i => (nearN n C i : Int)) j := ⟨_, rfl⟩
          rw [← hT] at t1 t2 hne ⊢
          clear hT HTs
          go_wp2_with fail
          refine (calls_same (HCl.out _ R_g.out)).mono ?_
          rintro e w31 ⟨rfl, hb⟩
          replace R_g := Lib.hid (R_g.out.below hb)
          replace R_a := Lib.hid (R_a.out.below hb)
          replace R_b := Lib.hid (R_b.out.below hb)
          replace BT := Lib.hid (BT.out.trans (hb.mono BT.out.size))
          replace HBe := Lib.hid (HBe.out.trans (hb.mono HBe.out.size))
          clear hb
          go_wp2_with fail
          refine (HSa.out _ _ R_a.out).mono ?_
          rintro e w32 ⟨rfl, hb⟩
          replace R_g := Lib.hid (R_g.out.below hb)
          replace R_a := Lib.hid (R_a.out.below hb)
          replace R_b := Lib.hid (R_b.out.below hb)
          replace BT := Lib.hid (BT.out.trans (hb.mono BT.out.size))
          replace HBe := Lib.hid (HBe.out.trans (hb.mono HBe.out.size))
          clear hb
          go_wp2_with fail
          refine (HSb.out _ _ R_b.out).mono ?_
          rintro e w33 ⟨rfl, hb⟩
          replace R_g := Lib.hid (R_g.out.below hb)
          replace R_a := Lib.hid (R_a.out.below hb)
          replace R_b := Lib.hid (R_b.out.below hb)
          replace BT := Lib.hid (BT.out.trans (hb.mono BT.out.size))
          replace HBe := Lib.hid (HBe.out.trans (hb.mono HBe.out.size))
          clear hb
          go_wp2
          go_ret
          exact ⟨rfl, BT.out⟩

end Go.Proofs.Ytjpcbegndnbeeaa
