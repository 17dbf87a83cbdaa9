/- Walk of the law FnThinKeeps: a greater error is kept, too. -/
import Derived.Test.YtonehpndbbojpaaDDraw
import Derived.Test.YtonehpndbbojpaaThinV
import Derived.Test.YtonehpndbbojpaaTErr
import Derived.Test.YtonehpndbbojpaaTFew
import Derived.Test.YtonehpndbbojpaaPlainU
namespace Go.Proofs.Ytonehpndbbojpaa
open Go.RowKit

set_option maxRecDepth 100000 in
set_option maxHeartbeats 4000000 in
theorem fnThinKeeps_walk (w : World) (v0 : Value) (z0 : List Int) (hr0 : RowB w v0 z0) (_hm0 : z0.length ≤ maxLen) (hf0 : ∀ n ∈ z0, (Lit.int .u8 n).wf = true) :
    Calls Try.prog 11 #[v0] w fun e w' => e = .returned (.bool true) ∧ Below w.heap.size w w' := by
  have HDr := Lib.hid (dThinKeeps_any v0 z0 w hr0 hf0)
  obtain ⟨a0, cap0, rfl, -, -, -⟩ := hr0
  clear _hm0 hf0
  by_cases hbig : 1048576 < z0.length
  · go_enter Try.func11, Try.ntmps11
    go_wp2
    go_ret
    exact ⟨rfl, Below.refl _ _⟩
  go_enter Try.func11, Try.ntmps11
  have BT := Lib.hid (Below.refl w.heap.size w)
  go_wp2_with fail
  refine HDr.out.mono ?_
  rintro e w1 ⟨p, l, a_p, c_p, a_l, c_l, x, rfl, hlp, hll, hR_p, hR_l, hI, hx0, hx1, hb⟩
  have R_p := Lib.hid hR_p
  have R_l := Lib.hid hR_l
  replace BT := Lib.hid (BT.out.trans (hb.mono BT.out.size))
  clear hR_p hR_l hb HDr
  clear hI
  go_wp2_with fail
  refine (ikeep_any _ _ p l x _ R_p.out (by omega) R_l.out (by omega)).mono ?_
  rintro e w2 ⟨rfl, hb⟩
  replace R_p := Lib.hid (R_p.out.below hb)
  replace R_l := Lib.hid (R_l.out.below hb)
  replace BT := Lib.hid (BT.out.trans (hb.mono BT.out.size))
  clear hb
  go_wp2_with fail
  refine (skeep_any _ _ p l x _ R_p.out (by omega) R_l.out (by omega)).mono ?_
  rintro e w3 ⟨rfl, hb⟩
  replace R_p := Lib.hid (R_p.out.below hb)
  replace R_l := Lib.hid (R_l.out.below hb)
  replace BT := Lib.hid (BT.out.trans (hb.mono BT.out.size))
  clear hb
  cases hK : keepB p l x
  · clear hK
    go_wp2
    go_ret
    exact ⟨rfl, BT.out⟩
  · have HT := Lib.hid (keepB_iff.1 hK)
    clear hK
    have hF1 : fewV p x ≤ (l.length : Int) := by rw [fewV_yes (fewB_iff.2 ⟨HT.out.1.1, HT.out.2.1, HT.out.2.2.1⟩)]; have := few_le HT.out.1 HT.out.2.2.2; omega
    have HK := fun h : x + 1 ≤ 99 => keepB_iff.2 ⟨HT.out.1, (by have := HT.out.2.1; omega), h, (by have := HT.out.2.2.2; omega)⟩
    have hx9 := HT.out.2.2.1
    by_cases hx : x = 99
    · have b1 : (x == 99) = true := by simp; omega
      clear hx HK hx9
      have HI := Lib.hid (itfew_any _ p x _ R_p.out (by omega))
      obtain ⟨F, hF⟩ : ∃ F, F = fewV p x := ⟨_, rfl⟩
      rw [← hF] at HI hF1
      have b2 : decide (F ≤ (l.length : Int)) = true := by simp; omega
      clear hF
      go_wp2_with fail
      refine (HI.out).mono ?_
      rintro e w4 ⟨rfl, hb⟩
      replace R_p := Lib.hid (R_p.out.below hb)
      replace R_l := Lib.hid (R_l.out.below hb)
      replace BT := Lib.hid (BT.out.trans (hb.mono BT.out.size))
      clear hb
      go_wp2
      go_ret
      exact ⟨rfl, BT.out⟩
    · have b1 : (x == 99) = false := by simp; omega
      have HJ := Lib.hid (ikeep_any _ _ p l (x + 1) _ R_p.out (by omega) R_l.out (by omega))
      rw [HK (by omega)] at HJ
      clear hx HK hx9
      go_wp2_with fail
      refine (HJ.out).mono ?_
      rintro e w5 ⟨rfl, hb⟩
      replace R_p := Lib.hid (R_p.out.below hb)
      replace R_l := Lib.hid (R_l.out.below hb)
      replace BT := Lib.hid (BT.out.trans (hb.mono BT.out.size))
      clear hb
      have HI := Lib.hid (itfew_any _ p x _ R_p.out (by omega))
      obtain ⟨F, hF⟩ : ∃ F, F = fewV p x := ⟨_, rfl⟩
      rw [← hF] at HI hF1
      have b2 : decide (F ≤ (l.length : Int)) = true := by simp; omega
      clear hF
      go_wp2_with fail
      refine (HI.out).mono ?_
      rintro e w6 ⟨rfl, hb⟩
      replace R_p := Lib.hid (R_p.out.below hb)
      replace R_l := Lib.hid (R_l.out.below hb)
      replace BT := Lib.hid (BT.out.trans (hb.mono BT.out.size))
      clear hb
      go_wp2
      go_ret
      exact ⟨rfl, BT.out⟩

end Go.Proofs.Ytonehpndbbojpaa
