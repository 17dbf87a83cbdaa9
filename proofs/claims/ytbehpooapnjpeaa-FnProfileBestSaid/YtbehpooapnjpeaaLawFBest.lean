/- Walk of the law FnProfileBest: the best point sees most. -/
import Derived.Test.YtbehpooapnjpeaaDProf2
import Derived.Test.YtbehpooapnjpeaaSeen
import Derived.Test.YtbehpooapnjpeaaBest
import Derived.Test.YtbehpooapnjpeaaIWatch
import Derived.Test.YtbehpooapnjpeaaPlainQ
namespace Go.Proofs.Ytbehpooapnjpeaa
open Go.RowKit

set_option maxRecDepth 100000 in
set_option maxHeartbeats 4000000 in
theorem fnProfileBest_walk (w : World) (v0 : Value) (z0 : List Int) (hr0 : RowB w v0 z0) (_hm0 : z0.length ≤ maxLen) (hf0 : ∀ n ∈ z0, (Lit.int .u8 n).wf = true) :
    Calls Try.prog 12 #[v0] w fun e w' => e = .returned (.bool true) ∧ Below w.heap.size w w' := by
  have HDr := Lib.hid (dProfileBest_any v0 z0 w hr0 hf0)
  obtain ⟨a0, cap0, rfl, -, -, -⟩ := hr0
  clear _hm0 hf0
  by_cases hbig : 1048576 < z0.length
  · go_enter Try.func12, Try.ntmps12
    go_wp2
    go_ret
    exact ⟨rfl, Below.refl _ _⟩
  go_enter Try.func12, Try.ntmps12
  have BT := Lib.hid (Below.refl w.heap.size w)
  skip
  go_wp2_with fail
  refine HDr.out.mono ?_
  rintro e w1 ⟨p, a_p, c_p, rfl, hlp, ho, hb⟩
  have R_p := Lib.hid ho.row
  replace BT := Lib.hid (BT.out.trans (hb.mono BT.out.size))
  clear ho hb HDr
  go_wp2_with fail
  refine (ibest_any _ p _ R_p.out (by omega)).mono ?_
  rintro e w2 ⟨rfl, hb⟩
  replace R_p := Lib.hid (R_p.out.below hb)
  replace BT := Lib.hid (BT.out.trans (hb.mono BT.out.size))
  clear hb
  go_wp2_with fail
  refine (sbest_any _ p _ R_p.out (by omega)).mono ?_
  rintro e w3 ⟨rfl, hb⟩
  replace R_p := Lib.hid (R_p.out.below hb)
  replace BT := Lib.hid (BT.out.trans (hb.mono BT.out.size))
  clear hb
  cases hT : validB p
  · rw [bestV_no hT]
    clear hT
    go_wp2
    go_ret
    exact ⟨rfl, BT.out⟩
  · have HV := Lib.hid hT
    have hl := valid_len hT
    obtain ⟨l1, l2⟩ := hl
    rw [bestV_yes hT]
    have HM := Lib.hid (best_max p p.length)
    have hb := bestS_lt p p.length (by omega)
    have HP := Lib.hid (fun i hi => seeN_pos hT (i := i) hi)
    have HL := Lib.hid (seeN_le p)
    have HW1 := Lib.hid (fun h => watch_one hT h)
    have HW2 := Lib.hid (fun h => watch_no2 (p := p) h)
    have HSe := Lib.hid (show ∀ i : Nat, (seenL p (i : Int)).length = seeN p i from fun _ => rfl)
    clear hT
    obtain ⟨B, hB⟩ : ∃ B, B = bestS p p.length := ⟨_, rfl⟩
    rw [← hB] at HM hb HW1 ⊢
    clear hB
    have HMl := HL.out B
    have HMp := HP.out B hb
    have HI := Lib.hid (iseen_any _ p (B : Int) _ R_p.out (by omega))
    unfold GivesRow at HI
    rw [HSe.out B] at HI
    obtain ⟨M, hM⟩ : ∃ M, M = seeN p B := ⟨_, rfl⟩
    rw [← hM] at HI HM HW1 HMl HMp
    have HMe := Lib.hid hM
    clear hM
    have hbn := hb
    clear hb
    go_wp2_with fail
    refine (HI.out).mono ?_
    rintro e w4 ⟨a_s, c_s, rfl, ho, hb⟩
    replace R_p := Lib.hid (R_p.out.below hb)
    replace BT := Lib.hid (BT.out.trans (hb.mono BT.out.size))
    clear ho HI
    clear hb
    go_wp2
    go_loopw [9] (fun i wr => ∃ j : Nat, j ≤ p.length ∧ i = .int .i64 j ∧ Below w4.heap.size w4 wr) (fun  i _ => p.length - (intOf i).toNat)
    case atStart => exact ⟨0, by omega, rfl, Below.refl _ _⟩
    case round =>
      obtain ⟨j, hj, rfl, hb⟩ := hrel
      have HBe := Lib.hid hb
      clear hb
      replace R_p := Lib.hid (R_p.out.below HBe.out)
      replace BT := Lib.hid (BT.out.trans ((HBe.out).mono BT.out.size))
      by_cases hlt : j < p.length
      · have hx := HM.out j hlt
        obtain ⟨hx1, hx2⟩ := hx
        have hx3 := HL.out j
        have HI := Lib.hid (iseen_any _ p (j : Int) _ R_p.out (by omega))
        unfold GivesRow at HI
        rw [HSe.out j] at HI
        obtain ⟨X, hX⟩ : ∃ X, X = seeN p j := ⟨_, rfl⟩
        rw [← hX] at HI hx1 hx2 hx3
        clear hX
        go_wp2_with fail
        refine (HI.out).mono ?_
        rintro e w5 ⟨a_s, c_s, rfl, ho, hb⟩
        replace R_p := Lib.hid (R_p.out.below hb)
        replace BT := Lib.hid (BT.out.trans (hb.mono BT.out.size))
        replace HBe := Lib.hid (HBe.out.trans (hb.mono HBe.out.size))
        clear ho HI
        clear hb
        have e1 : decide ((M : Int) < (X : Int)) = false := by simp; omega
        have e1b : decide (M < X) = false := by simp; omega
        have e1c : ¬ M < X := by omega
        by_cases he : X = M
        · have e2 : ((X : Int) == (M : Int)) = true := by simp; omega
          have e3 : decide ((j : Int) < (B : Int)) = false := by simp; omega
          have e3b : decide (j < B) = false := by simp; omega
          have e3c : ¬ j < B := by omega
          clear he
          go_wp2
          go_roundw
          case rel => exact ⟨j + 1, by omega, by go_num, HBe.out⟩
          case measure => simp [intOf]; omega
        · have e2 : ((X : Int) == (M : Int)) = false := by simp; omega
          clear he
          go_wp2
          go_roundw
          case rel => exact ⟨j + 1, by omega, by go_num, HBe.out⟩
          case measure => simp [intOf]; omega
      · have hge : p.length ≤ j := by omega
        go_wp2_with fail
        refine (iwatch_any _ p _ R_p.out (by omega)).mono ?_
        rintro e w6 ⟨rfl, hb⟩
        replace R_p := Lib.hid (R_p.out.below hb)
        replace BT := Lib.hid (BT.out.trans (hb.mono BT.out.size))
        replace HBe := Lib.hid (HBe.out.trans (hb.mono HBe.out.size))
        clear hb
        by_cases h12 : p.length ≤ 12
        · have hw := HW1.out h12
          obtain ⟨w1, w2, w3⟩ := hw
          obtain ⟨W, hW⟩ : ∃ W, W = watchV p := ⟨_, rfl⟩
          rw [← hW] at w1 w2 w3 ⊢
          clear hW
          have e1 : (W == -1) = false := by simp; omega
          by_cases h1 : W = 1
          · have e2 : (W == 1) = true := by simp; omega
            have hM2 := w3.1 h1
            have e3 : ((M : Int) == (p.length : Int)) = true := by simp; omega
            clear h1 hM2 w3 HMl
            go_wp2
            go_ret
            exact ⟨rfl, BT.out⟩
          · have e2 : (W == 1) = false := by simp; omega
            have hM2 : M ≠ p.length := fun h => h1 (w3.2 h)
            have e3 : ((M : Int) == (p.length : Int)) = false := by simp; omega
            clear h1 hM2 w3 HMl
            go_wp2
            go_ret
            exact ⟨rfl, BT.out⟩
        · have e0 := HW2.out (by omega)
          rw [e0]
          have hgt : (12 : Int) < (p.length : Int) := by omega
          clear e0
          go_wp2
          go_ret
          exact ⟨rfl, BT.out⟩

end Go.Proofs.Ytbehpooapnjpeaa
