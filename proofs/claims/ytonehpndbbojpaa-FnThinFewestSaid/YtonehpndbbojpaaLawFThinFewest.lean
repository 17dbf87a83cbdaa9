/- Walk of the law FnThinFewest: more error needs fewer points. -/
import Derived.Test.YtonehpndbbojpaaDDraw
import Derived.Test.YtonehpndbbojpaaTFew
import Derived.Test.YtonehpndbbojpaaBack
import Derived.Test.YtonehpndbbojpaaPlainU
namespace Go.Proofs.Ytonehpndbbojpaa
open Go.RowKit

set_option maxRecDepth 100000 in
set_option maxHeartbeats 4000000 in
theorem fnThinFewest_walk (w : World) (v0 : Value) (z0 : List Int) (hr0 : RowB w v0 z0) (_hm0 : z0.length ≤ maxLen) (hf0 : ∀ n ∈ z0, (Lit.int .u8 n).wf = true) :
    Calls Try.prog 9 #[v0] w fun e w' => e = .returned (.bool true) ∧ Below w.heap.size w w' := by
  have HDr := Lib.hid (dThinFewest_any v0 z0 w hr0 hf0)
  obtain ⟨a0, cap0, rfl, -, -, -⟩ := hr0
  clear _hm0 hf0
  by_cases hbig : 1048576 < z0.length
  · go_enter Try.func9, Try.ntmps9
    go_wp2
    go_ret
    exact ⟨rfl, Below.refl _ _⟩
  go_enter Try.func9, Try.ntmps9
  have BT := Lib.hid (Below.refl w.heap.size w)
  go_wp2_with fail
  refine HDr.out.mono ?_
  rintro e w1 ⟨p, a_p, c_p, x, rfl, hlp, hR_p, hx0, hx1, hb⟩
  have R_p := Lib.hid hR_p
  replace BT := Lib.hid (BT.out.trans (hb.mono BT.out.size))
  clear hR_p hb HDr
  go_wp2_with fail
  refine (itfew_any _ p x _ R_p.out (by omega)).mono ?_
  rintro e w2 ⟨rfl, hb⟩
  replace R_p := Lib.hid (R_p.out.below hb)
  replace BT := Lib.hid (BT.out.trans (hb.mono BT.out.size))
  clear hb
  go_wp2_with fail
  refine (stfew_any _ p x _ R_p.out (by omega)).mono ?_
  rintro e w3 ⟨rfl, hb⟩
  replace R_p := Lib.hid (R_p.out.below hb)
  replace BT := Lib.hid (BT.out.trans (hb.mono BT.out.size))
  clear hb
  cases hB : fewB p x
  · rw [fewV_no hB]
    clear hB
    go_wp2
    go_ret
    exact ⟨rfl, BT.out⟩
  · have HB := Lib.hid (fewB_iff.1 hB)
    rw [fewV_yes hB]
    have hg := few_ge HB.out.1 HB.out.2.1
    obtain ⟨hg1, hg2⟩ := hg
    have hx9 := HB.out.2.2
    have hx8 := HB.out.2.1
    have E5 := Lib.hid (show backL p = p.reverse by simp [backL, HB.out.1])
    have E2 := Lib.hid (show (fewL (backL p) x).length = (fewL p x).length by rw [E5.out]; exact few_rev HB.out.1 HB.out.2.1)
    have E3 := fun h : x + 1 ≤ 99 => few_mono (e := x) (e' := x + 1) HB.out.1 HB.out.2.1 (by omega)
    have hlB : (backL p).length ≤ 1099511627776 := by have := backL_len p (by omega); omega
    have hl := valid_len HB.out.1
    obtain ⟨hl1, hl2⟩ := hl
    have E4 := Lib.hid (show ∀ e, 0 ≤ e → e ≤ 99 → fewB (backL p) e = true from fun e h1 h2 => fewB_iff.2 ⟨by simp [backL, HB.out.1, rev_valid HB.out.1], h1, h2⟩)
    have hV := HB.out.1
    obtain ⟨F, hF⟩ : ∃ F, F = (fewL p x).length := ⟨_, rfl⟩
    rw [← hF] at hg1 hg2 E2 E3 ⊢
    clear hF hB
    have HJ := Lib.hid (iback_any _ p _ R_p.out (by omega))
    rw [hV] at HJ
    clear hV
    go_wp2_with fail
    refine (HJ.out).mono ?_
    rintro e w4 ⟨a_k, c_k, rfl, ho, hb⟩
    replace R_p := Lib.hid (R_p.out.below hb)
    replace BT := Lib.hid (BT.out.trans (hb.mono BT.out.size))
    have R_k := Lib.hid ho.row
    clear ho
    clear hb
    have b0 : decide ((F : Int) ≤ (p.length : Int)) = true := by simp; omega
    have b8 : decide ((F : Int) < 0) = false := by simp
    have hmin : (2 ≤ p.length ∧ 2 ≤ F) ∨ (p.length = 1 ∧ F = 1) := by omega
    rcases hmin with ⟨hm1, hm2⟩ | ⟨hm1, hm2⟩
    · clear hg1
      by_cases hx : x = 99
      · have b1 : (x == 99) = true := by simp; omega
        clear hx E3
        have HI := Lib.hid (itfew_any _ (backL p) x _ R_k.out hlB)
        rw [fewV_yes (E4.out x hx8 hx9)] at HI
        rw [E2.out] at HI
        have b6 : ((F : Int) == (F : Int)) = true := by simp
        clear hlB
        go_wp2_with fail
        refine (HI.out).mono ?_
        rintro e w5 ⟨rfl, hb⟩
        replace R_p := Lib.hid (R_p.out.below hb)
        replace R_k := Lib.hid (R_k.out.below hb)
        replace BT := Lib.hid (BT.out.trans (hb.mono BT.out.size))
        clear hb
        go_wp2
        go_ret
        exact ⟨rfl, BT.out⟩
      · have b1 : (x == 99) = false := by simp; omega
        have hm := E3 (by omega)
        have HM := Lib.hid (itfew_any _ p (x + 1) _ R_p.out (by omega))
        rw [fewV_yes (fewB_iff.2 ⟨HB.out.1, (by omega), (by omega)⟩)] at HM
        obtain ⟨G, hG⟩ : ∃ G, G = (fewL p (x + 1)).length := ⟨_, rfl⟩
        rw [← hG] at HM hm
        have b7 : decide ((G : Int) ≤ (F : Int)) = true := by simp; omega
        clear hG hx E3
        go_wp2_with fail
        refine (HM.out).mono ?_
        rintro e w6 ⟨rfl, hb⟩
        replace R_p := Lib.hid (R_p.out.below hb)
        replace R_k := Lib.hid (R_k.out.below hb)
        replace BT := Lib.hid (BT.out.trans (hb.mono BT.out.size))
        clear hb
        have HI := Lib.hid (itfew_any _ (backL p) x _ R_k.out hlB)
        rw [fewV_yes (E4.out x hx8 hx9)] at HI
        rw [E2.out] at HI
        have b6 : ((F : Int) == (F : Int)) = true := by simp
        clear hlB
        go_wp2_with fail
        refine (HI.out).mono ?_
        rintro e w7 ⟨rfl, hb⟩
        replace R_p := Lib.hid (R_p.out.below hb)
        replace R_k := Lib.hid (R_k.out.below hb)
        replace BT := Lib.hid (BT.out.trans (hb.mono BT.out.size))
        clear hb
        go_wp2
        go_ret
        exact ⟨rfl, BT.out⟩
    · have hm3 : ¬ (2 : Int) ≤ (p.length : Int) := by omega
      have hm4 : (1 : Int) ≤ (F : Int) := by omega
      have hm5 : (p.length : Int) < 2 := by omega
      have hm6 : (p.length : Int) ≤ 1 := by omega
      clear hm1 hm2 hg1
      by_cases hx : x = 99
      · have b1 : (x == 99) = true := by simp; omega
        clear hx E3
        have HI := Lib.hid (itfew_any _ (backL p) x _ R_k.out hlB)
        rw [fewV_yes (E4.out x hx8 hx9)] at HI
        rw [E2.out] at HI
        have b6 : ((F : Int) == (F : Int)) = true := by simp
        clear hlB
        go_wp2_with fail
        refine (HI.out).mono ?_
        rintro e w8 ⟨rfl, hb⟩
        replace R_p := Lib.hid (R_p.out.below hb)
        replace R_k := Lib.hid (R_k.out.below hb)
        replace BT := Lib.hid (BT.out.trans (hb.mono BT.out.size))
        clear hb
        go_wp2
        go_ret
        exact ⟨rfl, BT.out⟩
      · have b1 : (x == 99) = false := by simp; omega
        have hm := E3 (by omega)
        have HM := Lib.hid (itfew_any _ p (x + 1) _ R_p.out (by omega))
        rw [fewV_yes (fewB_iff.2 ⟨HB.out.1, (by omega), (by omega)⟩)] at HM
        obtain ⟨G, hG⟩ : ∃ G, G = (fewL p (x + 1)).length := ⟨_, rfl⟩
        rw [← hG] at HM hm
        have b7 : decide ((G : Int) ≤ (F : Int)) = true := by simp; omega
        clear hG hx E3
        go_wp2_with fail
        refine (HM.out).mono ?_
        rintro e w9 ⟨rfl, hb⟩
        replace R_p := Lib.hid (R_p.out.below hb)
        replace R_k := Lib.hid (R_k.out.below hb)
        replace BT := Lib.hid (BT.out.trans (hb.mono BT.out.size))
        clear hb
        have HI := Lib.hid (itfew_any _ (backL p) x _ R_k.out hlB)
        rw [fewV_yes (E4.out x hx8 hx9)] at HI
        rw [E2.out] at HI
        have b6 : ((F : Int) == (F : Int)) = true := by simp
        clear hlB
        go_wp2_with fail
        refine (HI.out).mono ?_
        rintro e w10 ⟨rfl, hb⟩
        replace R_p := Lib.hid (R_p.out.below hb)
        replace R_k := Lib.hid (R_k.out.below hb)
        replace BT := Lib.hid (BT.out.trans (hb.mono BT.out.size))
        clear hb
        go_wp2
        go_ret
        exact ⟨rfl, BT.out⟩

end Go.Proofs.Ytonehpndbbojpaa
