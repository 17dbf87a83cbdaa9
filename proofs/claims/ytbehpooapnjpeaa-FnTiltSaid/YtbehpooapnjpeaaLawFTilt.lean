/- Walk of the law FnTilt: tilted ground is seen alike. -/
import Derived.Test.YtbehpooapnjpeaaDProf2
import Derived.Test.YtbehpooapnjpeaaSame
import Derived.Test.YtbehpooapnjpeaaTilt
import Derived.Test.YtbehpooapnjpeaaHull
import Derived.Test.YtbehpooapnjpeaaPairs
import Derived.Test.YtbehpooapnjpeaaPlainK
namespace Go.Proofs.Ytbehpooapnjpeaa
open Go.RowKit

set_option maxRecDepth 100000 in
set_option maxHeartbeats 4000000 in
theorem fnTilt_walk (w : World) (v0 : Value) (z0 : List Int) (hr0 : RowB w v0 z0) (_hm0 : z0.length ≤ maxLen) (hf0 : ∀ n ∈ z0, (Lit.int .u8 n).wf = true) :
    Calls Try.prog 11 #[v0] w fun e w' => e = .returned (.bool true) ∧ Below w.heap.size w w' := by
  have HDr := Lib.hid (dProfileTilt_any v0 z0 w hr0 hf0)
  obtain ⟨a0, cap0, rfl, -, -, -⟩ := hr0
  clear _hm0 hf0
  by_cases hbig : 1048576 < z0.length
  · go_enter Try.func11, Try.ntmps11
    go_wp2
    go_ret
    exact ⟨rfl, Below.refl _ _⟩
  go_enter Try.func11, Try.ntmps11
  have BT := Lib.hid (Below.refl w.heap.size w)
  go_wp2_with fail
  refine HDr.out.mono ?_
  rintro e w1 ⟨p, a_p, c_p, x, rfl, hlp, hR_p, hx0, hx1, hb⟩
  have R_p := Lib.hid hR_p
  replace BT := Lib.hid (BT.out.trans (hb.mono BT.out.size))
  clear hR_p hb HDr
  go_wp2_with fail
  refine (itilt_any _ p x _ R_p.out (by omega)).mono ?_
  rintro e w2 ⟨a_o, c_o, rfl, ho, hb⟩
  replace R_p := Lib.hid (R_p.out.below hb)
  replace BT := Lib.hid (BT.out.trans (hb.mono BT.out.size))
  have R_o := Lib.hid ho.row
  clear ho
  clear hb
  go_wp2_with fail
  refine (stilt_any _ p x _ R_p.out (by omega)).mono ?_
  rintro e w3 ⟨a_t, c_t, rfl, ho, hb⟩
  replace R_p := Lib.hid (R_p.out.below hb)
  replace R_o := Lib.hid (R_o.out.below hb)
  replace BT := Lib.hid (BT.out.trans (hb.mono BT.out.size))
  have R_t := Lib.hid ho.row
  clear ho
  clear hb
  have hlo : (tiltL p x).length ≤ 1099511627776 := by have := tiltL_len p x (by omega); omega
  have x1 : decide ((tiltL p x) = (tiltL p x)) = true := by simp
  cases hT : tiltB p x
  · clear hT
    go_wp2_with fail
    refine (calls_below (same_any _ _ (tiltL p x) (tiltL p x) _ R_o.out R_t.out hlo hlo)).mono ?_
    rintro e w4 ⟨rfl, hb⟩
    replace R_p := Lib.hid (R_p.out.below hb)
    replace R_o := Lib.hid (R_o.out.below hb)
    replace R_t := Lib.hid (R_t.out.below hb)
    replace BT := Lib.hid (BT.out.trans (hb.mono BT.out.size))
    clear hb
    go_wp2_with fail
    refine (calls_below (same_any _ _ (tiltL p x) (tiltL p x) _ R_o.out R_t.out hlo hlo)).mono ?_
    rintro e w5 ⟨rfl, hb⟩
    replace R_p := Lib.hid (R_p.out.below hb)
    replace R_o := Lib.hid (R_o.out.below hb)
    replace R_t := Lib.hid (R_t.out.below hb)
    replace BT := Lib.hid (BT.out.trans (hb.mono BT.out.size))
    clear hb
    go_wp2
    go_ret
    exact ⟨rfl, BT.out⟩
  · have HL := Lib.hid (tilt_laws hT)
    clear hT
    go_wp2_with fail
    refine (calls_below (same_any _ _ (tiltL p x) (tiltL p x) _ R_o.out R_t.out hlo hlo)).mono ?_
    rintro e w6 ⟨rfl, hb⟩
    replace R_p := Lib.hid (R_p.out.below hb)
    replace R_o := Lib.hid (R_o.out.below hb)
    replace R_t := Lib.hid (R_t.out.below hb)
    replace BT := Lib.hid (BT.out.trans (hb.mono BT.out.size))
    clear hb
    clear R_t
    obtain ⟨e1, e2, e3, e4, e5, e6, e7, e8⟩ := HL.out
    have H1 := Lib.hid (itilt_any _ (tiltL p x) (0 - x) _ R_o.out hlo)
    rw [e1, e2, Int.zero_sub] at H1
    have H2 := Lib.hid (fun wx h => ihull_any (.slice a_p p.length c_p) p wx h (by omega))
    rw [e5] at H2
    have H3 := Lib.hid (fun wx h => ihull_any (.slice a_o (tiltL p x).length c_o) (tiltL p x) wx h hlo)
    rw [e3, e6] at H3
    have H4 := Lib.hid (fun wx h => ipairs_any (.slice a_o (tiltL p x).length c_o) (tiltL p x) wx h hlo)
    rw [e4] at H4
    have hlh : (hullL p).length ≤ 1099511627776 := by have := hullL_len p (by omega); omega
    clear x1 e1 e2 e3 e4 e5 e6 HL
    go_wp2_with fail
    refine (H1.out).mono ?_
    rintro e w7 ⟨a_b, c_b, rfl, ho, hb⟩
    replace R_p := Lib.hid (R_p.out.below hb)
    replace R_o := Lib.hid (R_o.out.below hb)
    replace BT := Lib.hid (BT.out.trans (hb.mono BT.out.size))
    have R_b := Lib.hid ho.row
    clear ho
    clear H1
    clear hb
    go_wp2_with fail
    refine (H2.out _ R_p.out).mono ?_
    rintro e w8 ⟨a_h, c_h, rfl, ho, hb⟩
    replace R_p := Lib.hid (R_p.out.below hb)
    replace R_o := Lib.hid (R_o.out.below hb)
    replace R_b := Lib.hid (R_b.out.below hb)
    replace BT := Lib.hid (BT.out.trans (hb.mono BT.out.size))
    have R_h := Lib.hid ho.row
    clear ho
    clear H2
    clear hb
    go_wp2_with fail
    refine (H3.out _ R_o.out).mono ?_
    rintro e w9 ⟨a_g, c_g, rfl, ho, hb⟩
    replace R_p := Lib.hid (R_p.out.below hb)
    replace R_o := Lib.hid (R_o.out.below hb)
    replace R_b := Lib.hid (R_b.out.below hb)
    replace R_h := Lib.hid (R_h.out.below hb)
    replace BT := Lib.hid (BT.out.trans (hb.mono BT.out.size))
    have R_g := Lib.hid ho.row
    clear ho
    clear H3
    clear hb
    have x2 : decide (p = p) = true := by simp
    have x3 : decide (hullL p = hullL p) = true := by simp
    go_wp2_with fail
    refine (calls_below (same_any _ _ p p _ R_b.out R_p.out (by omega) (by omega))).mono ?_
    rintro e w10 ⟨rfl, hb⟩
    replace R_p := Lib.hid (R_p.out.below hb)
    replace R_o := Lib.hid (R_o.out.below hb)
    replace R_b := Lib.hid (R_b.out.below hb)
    replace R_h := Lib.hid (R_h.out.below hb)
    replace R_g := Lib.hid (R_g.out.below hb)
    replace BT := Lib.hid (BT.out.trans (hb.mono BT.out.size))
    clear hb
    go_wp2_with fail
    refine (calls_below (same_any _ _ (hullL p) (hullL p) _ R_h.out R_g.out hlh hlh)).mono ?_
    rintro e w11 ⟨rfl, hb⟩
    replace R_p := Lib.hid (R_p.out.below hb)
    replace R_o := Lib.hid (R_o.out.below hb)
    replace R_b := Lib.hid (R_b.out.below hb)
    replace R_h := Lib.hid (R_h.out.below hb)
    replace R_g := Lib.hid (R_g.out.below hb)
    replace BT := Lib.hid (BT.out.trans (hb.mono BT.out.size))
    clear hb
    go_wp2_with fail
    refine (H4.out _ R_o.out).mono ?_
    rintro e w12 ⟨rfl, hb⟩
    replace R_p := Lib.hid (R_p.out.below hb)
    replace R_o := Lib.hid (R_o.out.below hb)
    replace R_b := Lib.hid (R_b.out.below hb)
    replace R_h := Lib.hid (R_h.out.below hb)
    replace R_g := Lib.hid (R_g.out.below hb)
    replace BT := Lib.hid (BT.out.trans (hb.mono BT.out.size))
    clear hb
    go_wp2_with fail
    refine (ipairs_any _ p _ R_p.out (by omega)).mono ?_
    rintro e w13 ⟨rfl, hb⟩
    replace R_p := Lib.hid (R_p.out.below hb)
    replace R_o := Lib.hid (R_o.out.below hb)
    replace R_b := Lib.hid (R_b.out.below hb)
    replace R_h := Lib.hid (R_h.out.below hb)
    replace R_g := Lib.hid (R_g.out.below hb)
    replace BT := Lib.hid (BT.out.trans (hb.mono BT.out.size))
    clear hb
    obtain ⟨P, hP⟩ : ∃ P, P = pairsV p := ⟨_, rfl⟩
    rw [← hP]
    have x4 : (P == P) = true := by simp
    clear hP
    go_wp2
    go_ret
    exact ⟨rfl, BT.out⟩

end Go.Proofs.Ytbehpooapnjpeaa
