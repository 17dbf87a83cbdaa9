/- Walk of the law FnPairs: pairs are seen from both sides. -/
import Derived.Test.YtbehpooapnjpeaaDProf2
import Derived.Test.YtbehpooapnjpeaaSame
import Derived.Test.YtbehpooapnjpeaaSeen
import Derived.Test.YtbehpooapnjpeaaPairs
import Derived.Test.YtbehpooapnjpeaaBack
import Derived.Test.YtbehpooapnjpeaaPlainV
namespace Go.Proofs.Ytbehpooapnjpeaa
open Go.RowKit

set_option maxRecDepth 100000 in
set_option maxHeartbeats 4000000 in
theorem fnPairs_walk (w : World) (v0 : Value) (z0 : List Int) (hr0 : RowB w v0 z0) (_hm0 : z0.length ≤ maxLen) (hf0 : ∀ n ∈ z0, (Lit.int .u8 n).wf = true) :
    Calls Try.prog 7 #[v0] w fun e w' => e = .returned (.bool true) ∧ Below w.heap.size w w' := by
  have HDr := Lib.hid (dProfilePairs_any v0 z0 w hr0 hf0)
  obtain ⟨a0, cap0, rfl, -, -, -⟩ := hr0
  clear _hm0 hf0
  by_cases hbig : 1048576 < z0.length
  · go_enter Try.func7, Try.ntmps7
    go_wp2
    go_ret
    exact ⟨rfl, Below.refl _ _⟩
  go_enter Try.func7, Try.ntmps7
  have BT := Lib.hid (Below.refl w.heap.size w)
  go_wp2_with fail
  refine HDr.out.mono ?_
  rintro e w1 ⟨p, a_p, c_p, rfl, hlp, ho, hb⟩
  have R_p := Lib.hid ho.row
  replace BT := Lib.hid (BT.out.trans (hb.mono BT.out.size))
  clear ho hb HDr
  go_wp2_with fail
  refine (ipairs_any _ p _ R_p.out (by omega)).mono ?_
  rintro e w2 ⟨rfl, hb⟩
  replace R_p := Lib.hid (R_p.out.below hb)
  replace BT := Lib.hid (BT.out.trans (hb.mono BT.out.size))
  clear hb
  go_wp2_with fail
  refine (spairs_any _ p _ R_p.out (by omega)).mono ?_
  rintro e w3 ⟨rfl, hb⟩
  replace R_p := Lib.hid (R_p.out.below hb)
  replace BT := Lib.hid (BT.out.trans (hb.mono BT.out.size))
  clear hb
  cases hT : validB p
  · have hE : pairsV p = -1 := by simp [pairsV, hT]
    rw [hE]
    clear hE hT
    go_wp2
    go_ret
    exact ⟨rfl, BT.out⟩
  · have HT := Lib.hid hT
    have hl := valid_len hT
    obtain ⟨l1, l2⟩ := hl
    have HS := Lib.hid (seeS_all hT)
    have HR := Lib.hid (pairs_rev hT)
    have hG := pairs_ge p p.length
    have hE : pairsV p = pairsS p p.length := by simp [pairsV, hT]
    have hBd := pairsS_bd p p.length l2
    rw [← hE] at hG hBd
    obtain ⟨P, hP⟩ : ∃ P, P = pairsV p := ⟨_, rfl⟩
    rw [← hP] at HS HR hG hBd ⊢
    obtain ⟨P0, P1⟩ := hBd
    clear hE hP
    have b0 : decide (P < 0) = false := by simp; omega
    have HSb := Lib.hid (show ∀ m : Nat, m ≤ p.length → -(m : Int) ≤ seeS p m ∧ seeS p m ≤ 20 * m from fun m hm => by
      induction m with
      | zero => simp [seeS, sumB]
      | succ m ih =>
        have h := ih (by omega)
        have e : seeS p (m + 1) = seeS p m + (((seenL p (m : Int)).length : Int) - 1) := rfl
        have h2 := seenL_len p (m : Int)
        omega)
    go_wp2
    go_loopw [6, 7] (fun s i wr => ∃ k : Nat, k ≤ p.length ∧ s = .int .i64 (seeS p k) ∧ i = .int .i64 k ∧ Below w3.heap.size w3 wr) (fun _ i _ => p.length - (intOf i).toNat)
    case atStart => exact ⟨0, by omega, rfl, rfl, Below.refl _ _⟩
    case round =>
      obtain ⟨k, hk, rfl, rfl, hb⟩ := hrel
      have hsb := HSb.out k hk
      obtain ⟨S, hS⟩ : ∃ S, S = seeS p k := ⟨_, rfl⟩
      rw [← hS] at hsb ⊢
      have HSk := Lib.hid hS
      clear hS
      obtain ⟨s1, s2⟩ := hsb
      have HBe := Lib.hid hb
      clear hb
      replace R_p := Lib.hid (R_p.out.below HBe.out)
      replace BT := Lib.hid (BT.out.trans ((HBe.out).mono BT.out.size))
      by_cases hlt : k < p.length
      · have hn := seenL_len p (k : Int)
        have HSt := Lib.hid (show seeS p (k + 1) = S + (((seenL p (k : Int)).length : Int) - 1) by rw [HSk.out]; rfl)
        have HI := Lib.hid (iseen_any _ p (k : Int) _ R_p.out (by omega))
        obtain ⟨N, hN⟩ : ∃ N, N = (seenL p (k : Int)).length := ⟨_, rfl⟩
        go_wp2_with fail
        refine (HI.out).mono ?_
        rintro e w4 ⟨a_s, c_s, rfl, ho, hb⟩
        replace R_p := Lib.hid (R_p.out.below hb)
        replace BT := Lib.hid (BT.out.trans (hb.mono BT.out.size))
        replace HBe := Lib.hid (HBe.out.trans (hb.mono HBe.out.size))
        clear ho HI
        clear hb
        rw [← hN] at hn HSt ⊢
        clear hN
        go_wp2
        go_roundw
        case rel => exact ⟨k + 1, by omega, by rw [HSt.out]; go_num, by go_num, HBe.out⟩
        case measure => simp [intOf]; omega
      · have hke : k = p.length := by omega
        subst hke
        have hS2 := HSk.out
        rw [HS.out] at hS2
        subst hS2
        clear hlt s1 s2
        have hlB : (backL p).length ≤ 1099511627776 := by have := backL_len p (by omega); omega
        have HK := Lib.hid (iback_any _ p _ R_p.out (by omega))
        rw [HT.out] at HK
        go_wp2_with fail
        refine (HK.out).mono ?_
        rintro e w5 ⟨a_k, c_k, rfl, ho, hb⟩
        replace R_p := Lib.hid (R_p.out.below hb)
        replace BT := Lib.hid (BT.out.trans (hb.mono BT.out.size))
        replace HBe := Lib.hid (HBe.out.trans (hb.mono HBe.out.size))
        have R_k := Lib.hid ho.row
        clear ho
        clear HK
        clear hb
        have b1 : (2 * P == 2 * P) = true := by simp
        have b2 : (P == P) = true := by simp
        have b3 : decide ((p.length : Int) - 1 ≤ P) = true := by simp; omega
        have HP := Lib.hid (ipairs_any _ (backL p) _ R_k.out hlB)
        rw [HR.out] at HP
        go_wp2_with fail
        refine (HP.out).mono ?_
        rintro e w6 ⟨rfl, hb⟩
        replace R_p := Lib.hid (R_p.out.below hb)
        replace R_k := Lib.hid (R_k.out.below hb)
        replace BT := Lib.hid (BT.out.trans (hb.mono BT.out.size))
        replace HBe := Lib.hid (HBe.out.trans (hb.mono HBe.out.size))
        clear hb
        go_wp2
        go_ret
        exact ⟨rfl, BT.out⟩

end Go.Proofs.Ytbehpooapnjpeaa
