/- Walk of the law FnWatch: few points watch all. -/
import Derived.Test.YtbehpooapnjpeaaDProf2
import Derived.Test.YtbehpooapnjpeaaSeen
import Derived.Test.YtbehpooapnjpeaaBest
import Derived.Test.YtbehpooapnjpeaaBack
import Derived.Test.YtbehpooapnjpeaaIWatch
import Derived.Test.YtbehpooapnjpeaaPlainQ
namespace Go.Proofs.Ytbehpooapnjpeaa
open Go.RowKit

set_option maxRecDepth 100000 in
set_option maxHeartbeats 4000000 in
theorem fnWatch_walk (w : World) (v0 : Value) (z0 : List Int) (hr0 : RowB w v0 z0) (_hm0 : z0.length ≤ maxLen) (hf0 : ∀ n ∈ z0, (Lit.int .u8 n).wf = true) :
    Calls Try.prog 13 #[v0] w fun e w' => e = .returned (.bool true) ∧ Below w.heap.size w w' := by
  have HDr := Lib.hid (dProfileWatch_any v0 z0 w hr0 hf0)
  obtain ⟨a0, cap0, rfl, -, -, -⟩ := hr0
  clear _hm0 hf0
  by_cases hbig : 1048576 < z0.length
  · go_enter Try.func13, Try.ntmps13
    go_wp2
    go_ret
    exact ⟨rfl, Below.refl _ _⟩
  go_enter Try.func13, Try.ntmps13
  have BT := Lib.hid (Below.refl w.heap.size w)
  go_wp2_with fail
  refine HDr.out.mono ?_
  rintro e w1 ⟨p, a_p, c_p, rfl, hlp, ho, hb⟩
  have R_p := Lib.hid ho.row
  replace BT := Lib.hid (BT.out.trans (hb.mono BT.out.size))
  clear ho hb HDr
  go_wp2_with fail
  refine (iwatch_any _ p _ R_p.out (by omega)).mono ?_
  rintro e w2 ⟨rfl, hb⟩
  replace R_p := Lib.hid (R_p.out.below hb)
  replace BT := Lib.hid (BT.out.trans (hb.mono BT.out.size))
  clear hb
  go_wp2_with fail
  refine (swatch_any _ p _ R_p.out (by omega)).mono ?_
  rintro e w3 ⟨rfl, hb⟩
  replace R_p := Lib.hid (R_p.out.below hb)
  replace BT := Lib.hid (BT.out.trans (hb.mono BT.out.size))
  clear hb
  cases hT : validB p
  · rw [watch_no1 hT]
    clear hT
    go_wp2
    go_ret
    exact ⟨rfl, BT.out⟩
  · have HV := Lib.hid hT
    have hl := valid_len hT
    obtain ⟨l1, l2⟩ := hl
    by_cases h12 : 12 < p.length
    · rw [watch_no2 h12]
      clear hT
      go_wp2
      go_ret
      exact ⟨rfl, BT.out⟩
    · have h12b : p.length ≤ 12 := by omega
      have hw := watch_one hT h12b
      obtain ⟨fw1, fw2, -⟩ := hw
      have fw3 := watch_third hT h12b
      have fw4 := Lib.hid (watch_back hT h12b)
      have fw5 := watch_most hT h12b
      have hbl := bestS_lt p p.length (by omega)
      have hlB : (backL p).length ≤ 1099511627776 := by have := backL_len p (by omega); omega
      have HK := Lib.hid (fun wx h => iback_any (.slice a_p p.length c_p) p wx h (by omega))
      rw [hT] at HK
      have HB := Lib.hid (fun wx h => ibest_any (.slice a_p p.length c_p) p wx h (by omega))
      rw [hT, bestV_yes hT] at HB
      have HS := Lib.hid (fun wx h => iseen_any (.slice a_p p.length c_p) p (bestS p p.length : Nat) wx h (by omega))
      unfold GivesRow at HS
      have hsl := seeN_le p (bestS p p.length)
      rw [show (seenL p ((bestS p p.length : Nat) : Int)).length = seeN p (bestS p p.length) from rfl] at HS
      clear hT
      obtain ⟨W, hW⟩ : ∃ W, W = watchV p := ⟨_, rfl⟩
      rw [← hW] at fw1 fw2 fw3 fw4 fw5 ⊢
      obtain ⟨B, hB⟩ : ∃ B, B = bestS p p.length := ⟨_, rfl⟩
      rw [← hB] at fw5 hbl HB HS hsl
      obtain ⟨M, hM⟩ : ∃ M, M = seeN p B := ⟨_, rfl⟩
      rw [← hM] at fw5 HS hsl
      clear hW hB hM
      have e0 : decide (W < 0) = false := by simp; omega
      have HKp := Lib.hid (HK.out _ R_p.out)
      go_wp2_with fail
      refine (HKp.out).mono ?_
      rintro e w4 ⟨a_k, c_k, rfl, ho, hb⟩
      replace R_p := Lib.hid (R_p.out.below hb)
      replace BT := Lib.hid (BT.out.trans (hb.mono BT.out.size))
      have R_k := Lib.hid ho.row
      clear ho
      clear HKp HK
      clear hb
      go_wp2_with fail
      refine (HB.out _ R_p.out).mono ?_
      rintro e w5 ⟨rfl, hb⟩
      replace R_p := Lib.hid (R_p.out.below hb)
      replace R_k := Lib.hid (R_k.out.below hb)
      replace BT := Lib.hid (BT.out.trans (hb.mono BT.out.size))
      clear HB
      clear hb
      have e1 : decide (1 ≤ W) = true := by simp; omega
      have e2 : decide (W ≤ ((p.length : Int) + 2) / 3) = true := by simp; omega
      have e3 : (W == W) = true := by simp
      have HWb := Lib.hid (iwatch_any _ (backL p) _ R_k.out hlB)
      rw [fw4.out] at HWb
      go_wp2_with fail
      refine (HWb.out).mono ?_
      rintro e w6 ⟨rfl, hb⟩
      replace R_p := Lib.hid (R_p.out.below hb)
      replace R_k := Lib.hid (R_k.out.below hb)
      replace BT := Lib.hid (BT.out.trans (hb.mono BT.out.size))
      clear HWb
      clear hb
      go_wp2_with fail
      refine (HS.out _ R_p.out).mono ?_
      rintro e w7 ⟨a_s, c_s, rfl, ho, hb⟩
      replace R_p := Lib.hid (R_p.out.below hb)
      replace R_k := Lib.hid (R_k.out.below hb)
      replace BT := Lib.hid (BT.out.trans (hb.mono BT.out.size))
      clear ho HS
      clear hb
      have u1 : 0 ≤ W * (M : Int) := Int.mul_nonneg (by omega) (by omega)
      have u2 : W * (M : Int) ≤ 12 * 20 := Int.mul_le_mul (by omega) (by omega) (by omega) (by omega)
      have e4 : decide ((p.length : Int) ≤ W * (M : Int)) = true := by rw [decide_eq_true_iff]; exact fw5
      clear fw5
      go_wp2
      go_ret
      exact ⟨rfl, BT.out⟩

end Go.Proofs.Ytbehpooapnjpeaa
