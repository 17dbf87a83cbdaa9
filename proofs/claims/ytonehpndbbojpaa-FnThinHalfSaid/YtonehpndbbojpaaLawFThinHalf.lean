/- Walk of the law FnThinHalf: half of the points are left. -/
import Derived.Test.YtonehpndbbojpaaDProf
import Derived.Test.YtonehpndbbojpaaSame
import Derived.Test.YtonehpndbbojpaaHalf
import Derived.Test.YtonehpndbbojpaaThinV
import Derived.Test.YtonehpndbbojpaaPlainH
namespace Go.Proofs.Ytonehpndbbojpaa
open Go.RowKit

set_option maxRecDepth 100000 in
set_option maxHeartbeats 4000000 in
theorem fnThinHalf_walk (w : World) (v0 : Value) (z0 : List Int) (hr0 : RowB w v0 z0) (_hm0 : z0.length ≤ maxLen) (hf0 : ∀ n ∈ z0, (Lit.int .u8 n).wf = true) :
    Calls Try.prog 3 #[v0] w fun e w' => e = .returned (.bool true) ∧ Below w.heap.size w w' := by
  have HDr := Lib.hid (dThinHalf_any v0 z0 w hr0 hf0)
  obtain ⟨a0, cap0, rfl, -, -, -⟩ := hr0
  clear _hm0 hf0
  by_cases hbig : 1048576 < z0.length
  · go_enter Try.func3, Try.ntmps3
    go_wp2
    go_ret
    exact ⟨rfl, Below.refl _ _⟩
  go_enter Try.func3, Try.ntmps3
  have BT := Lib.hid (Below.refl w.heap.size w)
  go_wp2_with fail
  refine (HDr.out).mono ?_
  rintro e w1 ⟨p, a_p, c_p, rfl, hl, ho, hb⟩
  replace BT := Lib.hid (BT.out.trans (hb.mono BT.out.size))
  have R_p := Lib.hid ho.row
  clear ho HDr
  clear hb
  go_wp2_with fail
  refine (ihalf_any _ p _ R_p.out (by omega)).mono ?_
  rintro e w2 ⟨a_o, c_o, rfl, ho, hb⟩
  replace R_p := Lib.hid (R_p.out.below hb)
  replace BT := Lib.hid (BT.out.trans (hb.mono BT.out.size))
  have R_o := Lib.hid ho.row
  clear ho
  clear hb
  go_wp2_with fail
  refine (shalf_any _ p _ R_p.out (by omega)).mono ?_
  rintro e w3 ⟨a_t, c_t, rfl, ho, hb⟩
  replace R_p := Lib.hid (R_p.out.below hb)
  replace R_o := Lib.hid (R_o.out.below hb)
  replace BT := Lib.hid (BT.out.trans (hb.mono BT.out.size))
  have R_t := Lib.hid ho.row
  clear ho
  clear hb
  have hlo : (halfL p).length ≤ 1099511627776 := by have := halfL_len p (by omega); omega
  have x1 : decide (halfL p = halfL p) = true := by simp
  cases hv : validB p
  · clear hv
    go_wp2_with fail
    refine (calls_below (same_any _ _ (halfL p) (halfL p) _ R_o.out R_t.out hlo hlo)).mono ?_
    rintro e w4 ⟨rfl, hb⟩
    replace R_p := Lib.hid (R_p.out.below hb)
    replace R_o := Lib.hid (R_o.out.below hb)
    replace R_t := Lib.hid (R_t.out.below hb)
    replace BT := Lib.hid (BT.out.trans (hb.mono BT.out.size))
    clear hb
    go_wp2_with fail
    refine (calls_below (same_any _ _ (halfL p) (halfL p) _ R_o.out R_t.out hlo hlo)).mono ?_
    rintro e w5 ⟨rfl, hb⟩
    replace R_p := Lib.hid (R_p.out.below hb)
    replace R_o := Lib.hid (R_o.out.below hb)
    replace R_t := Lib.hid (R_t.out.below hb)
    replace BT := Lib.hid (BT.out.trans (hb.mono BT.out.size))
    clear hb
    go_wp2
    go_ret
    exact ⟨rfl, BT.out⟩
  · have PB := Lib.hid (half_laws hv)
    clear hv
    go_wp2_with fail
    refine (calls_below (same_any _ _ (halfL p) (halfL p) _ R_o.out R_t.out hlo hlo)).mono ?_
    rintro e w6 ⟨rfl, hb⟩
    replace R_p := Lib.hid (R_p.out.below hb)
    replace R_o := Lib.hid (R_o.out.below hb)
    replace R_t := Lib.hid (R_t.out.below hb)
    replace BT := Lib.hid (BT.out.trans (hb.mono BT.out.size))
    clear hb
    have hT := thinB_iff.2 PB.out.1
    have hT2 := PB.out.2
    obtain ⟨N, hN⟩ : ∃ N, N = (halfL p).length := ⟨_, rfl⟩
    have HI := Lib.hid (calls_below (ithinv_any _ _ p (halfL p) _ R_p.out (by omega) R_o.out hlo))
    rw [hT] at HI
    rw [← hN] at hT2 HI ⊢
    have x3 : ((N : Int) == (p.length : Int) / 2 + 1) = true := by simp; omega
    clear hT hT2 hN hlo x1
    go_wp2_with fail
    refine (HI.out).mono ?_
    rintro e w7 ⟨rfl, hb⟩
    replace R_p := Lib.hid (R_p.out.below hb)
    replace R_o := Lib.hid (R_o.out.below hb)
    replace R_t := Lib.hid (R_t.out.below hb)
    replace BT := Lib.hid (BT.out.trans (hb.mono BT.out.size))
    clear hb
    go_wp2
    go_ret
    exact ⟨rfl, BT.out⟩

end Go.Proofs.Ytonehpndbbojpaa
