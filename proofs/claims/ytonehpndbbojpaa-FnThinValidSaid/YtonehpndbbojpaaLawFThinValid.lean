/- Walk of the law FnThinValid: all points are a thinned profile, too. -/
import Derived.Test.YtonehpndbbojpaaDDraw
import Derived.Test.YtonehpndbbojpaaThinV
import Derived.Test.YtonehpndbbojpaaTErr
import Derived.Test.YtonehpndbbojpaaPlainU
namespace Go.Proofs.Ytonehpndbbojpaa
open Go.RowKit

set_option maxRecDepth 100000 in
set_option maxHeartbeats 4000000 in
theorem fnThinValid_walk (w : World) (v0 : Value) (z0 : List Int) (hr0 : RowB w v0 z0) (_hm0 : z0.length ≤ maxLen) (hf0 : ∀ n ∈ z0, (Lit.int .u8 n).wf = true) :
    Calls Try.prog 4 #[v0] w fun e w' => e = .returned (.bool true) ∧ Below w.heap.size w w' := by
  have HDr := Lib.hid (dThinValid_any v0 z0 w hr0 hf0)
  obtain ⟨a0, cap0, rfl, -, -, -⟩ := hr0
  clear _hm0 hf0
  by_cases hbig : 1048576 < z0.length
  · go_enter Try.func4, Try.ntmps4
    go_wp2
    go_ret
    exact ⟨rfl, Below.refl _ _⟩
  go_enter Try.func4, Try.ntmps4
  have BT := Lib.hid (Below.refl w.heap.size w)
  go_wp2_with fail
  refine HDr.out.mono ?_
  rintro e w1 ⟨p, l, a_p, c_p, a_l, c_l, rfl, hlp, hll, hR_p, hR_l, hI, hb⟩
  have R_p := Lib.hid hR_p
  have R_l := Lib.hid hR_l
  replace BT := Lib.hid (BT.out.trans (hb.mono BT.out.size))
  clear hR_p hR_l hb HDr
  clear hI
  go_wp2_with fail
  refine (calls_below (ithinv_any _ _ p l _ R_p.out (by omega) R_l.out (by omega))).mono ?_
  rintro e w2 ⟨rfl, hb⟩
  replace R_p := Lib.hid (R_p.out.below hb)
  replace R_l := Lib.hid (R_l.out.below hb)
  replace BT := Lib.hid (BT.out.trans (hb.mono BT.out.size))
  clear hb
  go_wp2_with fail
  refine (calls_below (sthinv_any _ _ p l _ R_p.out (by omega) R_l.out (by omega))).mono ?_
  rintro e w3 ⟨rfl, hb⟩
  replace R_p := Lib.hid (R_p.out.below hb)
  replace R_l := Lib.hid (R_l.out.below hb)
  replace BT := Lib.hid (BT.out.trans (hb.mono BT.out.size))
  clear hb
  cases hT : thinB p l
  · clear hT
    go_wp2
    go_ret
    exact ⟨rfl, BT.out⟩
  · have HT := Lib.hid (thinB_iff.1 hT)
    clear hT
    have HA := Lib.hid (all_err HT.out.1)
    have hl := valid_len HT.out.1
    obtain ⟨hl1, hl2⟩ := hl
    have HO := Lib.hid (Own.emptyLit w3 _ (Nat.le_refl w3.heap.size))
    have hsz0 : w3.heap.size ≤ (w3.alloc (.cells #[] 3)).heap.size := by simp
    go_wp2
    go_loopw [7, 8] (fun out i wr => ∃ k : Nat, k ≤ p.length ∧ i = .int .i64 k ∧ Own wr w3.heap.size out (allL k) ∧ Below w3.heap.size w3 wr) (fun _ i _ => p.length - (intOf i).toNat)
    case atStart => exact ⟨0, by omega, rfl, HO.out, Below.alloc (Below.refl _ _) (Nat.le_refl _) _⟩
    case round =>
      clear HO
      obtain ⟨k, hk, rfl, ho, hb⟩ := hrel
      have hsz := hb.size
      have hlen : (allL k).length ≤ 1099511627776 := by rw [allL_len]; omega
      have HO := Lib.hid ho
      have HB := Lib.hid hb
      clear ho hb
      by_cases hlt : k < p.length
      · go_wp2_with (first | (at_builtin; refine append1 (by rfl) _ _ (by rfl) (w3.heap.size) _ (allL k) ((k : Int)) (by rfl) (by rfl) (HO.out) (hsz) (hlen) ?_; intro v5 w5 ho5 hg5; (have HO5 := Lib.hid ho5); (have HB5 := Lib.hid (HB.out.trans (below_of_grown hg5 hsz (fun g e => (HO.out.lt g e).1)))); clear ho5 hg5))
        go_roundw
        case rel => exact ⟨k + 1, by omega, by go_num, by rw [allL_succ]; exact HO5.out, HB5.out⟩
        case measure => simp [intOf]; omega
      · have hke : k = p.length := by omega
        subst hke
        replace R_p := Lib.hid (R_p.out.below HB.out)
        replace R_l := Lib.hid (R_l.out.below HB.out)
        replace BT := Lib.hid (BT.out.trans ((HB.out).mono BT.out.size))
        have R_all := Lib.hid HO.out.row
        clear HO HB
        by_cases hn1 : p.length = 1
        · have b1 : ((p.length : Int) == 1) = true := by simp; omega
          replace R_p := Lib.hid (R_p.out.below (Below.alloc (Below.refl _ _) (Nat.le_refl _) (.cells #[.int .i64 0, .int .i64 ((p.length : Int) - 1)] 3)))
          replace R_l := Lib.hid (R_l.out.below (Below.alloc (Below.refl _ _) (Nat.le_refl _) (.cells #[.int .i64 0, .int .i64 ((p.length : Int) - 1)] 3)))
          replace R_all := Lib.hid (R_all.out.below (Below.alloc (Below.refl _ _) (Nat.le_refl _) (.cells #[.int .i64 0, .int .i64 ((p.length : Int) - 1)] 3)))
          replace BT := Lib.hid (BT.out.trans ((Below.alloc (Below.refl _ _) (Nat.le_refl _) (.cells #[.int .i64 0, .int .i64 ((p.length : Int) - 1)] 3)).mono BT.out.size))
          have R_ends := Lib.hid (Own.lit1 (wr.alloc (.cells #[.int .i64 0, .int .i64 ((p.length : Int) - 1)] 3)) _ 0 (Nat.le_refl _)).row
          replace R_p := Lib.hid (R_p.out.below (Below.alloc (Below.refl _ _) (Nat.le_refl _) (.cells #[.int .i64 0] 3)))
          replace R_l := Lib.hid (R_l.out.below (Below.alloc (Below.refl _ _) (Nat.le_refl _) (.cells #[.int .i64 0] 3)))
          replace R_all := Lib.hid (R_all.out.below (Below.alloc (Below.refl _ _) (Nat.le_refl _) (.cells #[.int .i64 0] 3)))
          replace BT := Lib.hid (BT.out.trans ((Below.alloc (Below.refl _ _) (Nat.le_refl _) (.cells #[.int .i64 0] 3)).mono BT.out.size))
          rw [show (wr.alloc (.cells #[.int .i64 0, .int .i64 ((p.length : Int) - 1)] 3)).heap.size = wr.heap.size + 1 by simp] at R_ends
          have hE : thinB p [0] = true := thinB_iff.2 (ends_thin1 HT.out.1 hn1)
          have HI := Lib.hid (iterr_any _ _ p (allL p.length) _ R_p.out (by omega) R_all.out hlen)
          rw [HA.out] at HI
          clear hn1
          go_wp2_with fail
          refine (HI.out).mono ?_
          rintro e w4 ⟨rfl, hb⟩
          replace R_p := Lib.hid (R_p.out.below hb)
          replace R_l := Lib.hid (R_l.out.below hb)
          replace R_all := Lib.hid (R_all.out.below hb)
          replace R_ends := Lib.hid (R_ends.out.below hb)
          replace BT := Lib.hid (BT.out.trans (hb.mono BT.out.size))
          clear hb
          have HI2 := Lib.hid (calls_below (ithinv_any _ _ p [0] _ R_p.out (by omega) R_ends.out (by simp)))
          rw [hE] at HI2
          clear hE
          go_wp2_with fail
          refine (HI2.out).mono ?_
          rintro e w5 ⟨rfl, hb⟩
          replace R_p := Lib.hid (R_p.out.below hb)
          replace R_l := Lib.hid (R_l.out.below hb)
          replace R_all := Lib.hid (R_all.out.below hb)
          replace R_ends := Lib.hid (R_ends.out.below hb)
          replace BT := Lib.hid (BT.out.trans (hb.mono BT.out.size))
          clear hb
          go_wp2_with fail
          refine (iterr_any _ _ p l _ R_p.out (by omega) R_l.out (by omega)).mono ?_
          rintro e w6 ⟨rfl, hb⟩
          replace R_p := Lib.hid (R_p.out.below hb)
          replace R_l := Lib.hid (R_l.out.below hb)
          replace R_all := Lib.hid (R_all.out.below hb)
          replace R_ends := Lib.hid (R_ends.out.below hb)
          replace BT := Lib.hid (BT.out.trans (hb.mono BT.out.size))
          clear hb
          have HK := Lib.hid (ikeep_any _ _ p l (thinE p l) _ R_p.out (by omega) R_l.out (by omega))
          rw [keep_self HT.out] at HK
          go_wp2_with fail
          refine (HK.out).mono ?_
          rintro e w7 ⟨rfl, hb⟩
          replace R_p := Lib.hid (R_p.out.below hb)
          replace R_l := Lib.hid (R_l.out.below hb)
          replace R_all := Lib.hid (R_all.out.below hb)
          replace R_ends := Lib.hid (R_ends.out.below hb)
          replace BT := Lib.hid (BT.out.trans (hb.mono BT.out.size))
          clear hb
          go_wp2
          go_ret
          exact ⟨rfl, BT.out⟩
        · have b1 : ((p.length : Int) == 1) = false := by simp; omega
          have R_ends := Lib.hid (Own.lit2 wr _ 0 ((p.length : Int) - 1) (Nat.le_refl _)).row
          replace R_p := Lib.hid (R_p.out.below (Below.alloc (Below.refl _ _) (Nat.le_refl _) (.cells #[.int .i64 0, .int .i64 ((p.length : Int) - 1)] 3)))
          replace R_l := Lib.hid (R_l.out.below (Below.alloc (Below.refl _ _) (Nat.le_refl _) (.cells #[.int .i64 0, .int .i64 ((p.length : Int) - 1)] 3)))
          replace R_all := Lib.hid (R_all.out.below (Below.alloc (Below.refl _ _) (Nat.le_refl _) (.cells #[.int .i64 0, .int .i64 ((p.length : Int) - 1)] 3)))
          replace BT := Lib.hid (BT.out.trans ((Below.alloc (Below.refl _ _) (Nat.le_refl _) (.cells #[.int .i64 0, .int .i64 ((p.length : Int) - 1)] 3)).mono BT.out.size))
          have hE : thinB p [0, (p.length : Int) - 1] = true := thinB_iff.2 (ends_thin2 HT.out.1 hn1)
          have HI := Lib.hid (iterr_any _ _ p (allL p.length) _ R_p.out (by omega) R_all.out hlen)
          rw [HA.out] at HI
          clear hn1
          go_wp2_with fail
          refine (HI.out).mono ?_
          rintro e w8 ⟨rfl, hb⟩
          replace R_p := Lib.hid (R_p.out.below hb)
          replace R_l := Lib.hid (R_l.out.below hb)
          replace R_all := Lib.hid (R_all.out.below hb)
          replace R_ends := Lib.hid (R_ends.out.below hb)
          replace BT := Lib.hid (BT.out.trans (hb.mono BT.out.size))
          clear hb
          have HI2 := Lib.hid (calls_below (ithinv_any _ _ p [0, (p.length : Int) - 1] _ R_p.out (by omega) R_ends.out (by simp)))
          rw [hE] at HI2
          clear hE
          go_wp2_with fail
          refine (HI2.out).mono ?_
          rintro e w9 ⟨rfl, hb⟩
          replace R_p := Lib.hid (R_p.out.below hb)
          replace R_l := Lib.hid (R_l.out.below hb)
          replace R_all := Lib.hid (R_all.out.below hb)
          replace R_ends := Lib.hid (R_ends.out.below hb)
          replace BT := Lib.hid (BT.out.trans (hb.mono BT.out.size))
          clear hb
          go_wp2_with fail
          refine (iterr_any _ _ p l _ R_p.out (by omega) R_l.out (by omega)).mono ?_
          rintro e w10 ⟨rfl, hb⟩
          replace R_p := Lib.hid (R_p.out.below hb)
          replace R_l := Lib.hid (R_l.out.below hb)
          replace R_all := Lib.hid (R_all.out.below hb)
          replace R_ends := Lib.hid (R_ends.out.below hb)
          replace BT := Lib.hid (BT.out.trans (hb.mono BT.out.size))
          clear hb
          have HK := Lib.hid (ikeep_any _ _ p l (thinE p l) _ R_p.out (by omega) R_l.out (by omega))
          rw [keep_self HT.out] at HK
          go_wp2_with fail
          refine (HK.out).mono ?_
          rintro e w11 ⟨rfl, hb⟩
          replace R_p := Lib.hid (R_p.out.below hb)
          replace R_l := Lib.hid (R_l.out.below hb)
          replace R_all := Lib.hid (R_all.out.below hb)
          replace R_ends := Lib.hid (R_ends.out.below hb)
          replace BT := Lib.hid (BT.out.trans (hb.mono BT.out.size))
          clear hb
          go_wp2
          go_ret
          exact ⟨rfl, BT.out⟩

end Go.Proofs.Ytonehpndbbojpaa
