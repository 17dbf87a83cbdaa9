/- Walk of the law FnThinBest: the fewest points keep the error. -/
import Derived.Test.YtonehpndbbojpaaDDraw
import Derived.Test.YtonehpndbbojpaaSame
import Derived.Test.YtonehpndbbojpaaTBest
import Derived.Test.YtonehpndbbojpaaTErr
import Derived.Test.YtonehpndbbojpaaTDrop
import Derived.Test.YtonehpndbbojpaaPlainX
namespace Go.Proofs.Ytonehpndbbojpaa
open Go.RowKit

set_option maxRecDepth 100000 in
set_option maxHeartbeats 4000000 in
theorem fnThinBest_walk (w : World) (v0 : Value) (z0 : List Int) (hr0 : RowB w v0 z0) (_hm0 : z0.length ≤ maxLen) (hf0 : ∀ n ∈ z0, (Lit.int .u8 n).wf = true) :
    Calls Try.prog 13 #[v0] w fun e w' => e = .returned (.bool true) ∧ Below w.heap.size w w' := by
  have HDr := Lib.hid (dThinBest_any v0 z0 w hr0 hf0)
  obtain ⟨a0, cap0, rfl, -, -, -⟩ := hr0
  clear _hm0 hf0
  by_cases hbig : 1048576 < z0.length
  · go_enter Try.func13, Try.ntmps13
    go_wp2
    go_ret
    exact ⟨rfl, Below.refl _ _⟩
  go_enter Try.func13, Try.ntmps13
  have BT := Lib.hid (Below.refl w.heap.size w)
  go_wp2_with fail
  refine HDr.out.mono ?_
  rintro e w1 ⟨p, a_p, c_p, x, rfl, hlp, hR_p, hx0, hx1, hb⟩
  have R_p := Lib.hid hR_p
  replace BT := Lib.hid (BT.out.trans (hb.mono BT.out.size))
  clear hR_p hb HDr
  go_wp2_with fail
  refine (itbest_any _ p x _ R_p.out (by omega)).mono ?_
  rintro e w2 ⟨a_o, c_o, rfl, ho, hb⟩
  replace R_p := Lib.hid (R_p.out.below hb)
  replace BT := Lib.hid (BT.out.trans (hb.mono BT.out.size))
  have R_o := Lib.hid ho.row
  clear ho
  clear hb
  go_wp2_with fail
  refine (stbest_any _ p x _ R_p.out (by omega)).mono ?_
  rintro e w3 ⟨a_t, c_t, rfl, ho, hb⟩
  replace R_p := Lib.hid (R_p.out.below hb)
  replace R_o := Lib.hid (R_o.out.below hb)
  replace BT := Lib.hid (BT.out.trans (hb.mono BT.out.size))
  have R_t := Lib.hid ho.row
  clear ho
  clear hb
  have hlo : (tbestL p x).length ≤ 1099511627776 := by have := tbestL_len p x (by omega); omega
  have x1 : decide (tbestL p x = tbestL p x) = true := by simp
  cases hv : fewB p x
  · clear hv
    go_wp2_with fail
    refine (calls_below (same_any _ _ (tbestL p x) (tbestL p x) _ R_o.out R_t.out hlo hlo)).mono ?_
    rintro e w4 ⟨rfl, hb⟩
    replace R_p := Lib.hid (R_p.out.below hb)
    replace R_o := Lib.hid (R_o.out.below hb)
    replace R_t := Lib.hid (R_t.out.below hb)
    replace BT := Lib.hid (BT.out.trans (hb.mono BT.out.size))
    clear hb
    go_wp2_with fail
    refine (calls_below (same_any _ _ (tbestL p x) (tbestL p x) _ R_o.out R_t.out hlo hlo)).mono ?_
    rintro e w5 ⟨rfl, hb⟩
    replace R_p := Lib.hid (R_p.out.below hb)
    replace R_o := Lib.hid (R_o.out.below hb)
    replace R_t := Lib.hid (R_t.out.below hb)
    replace BT := Lib.hid (BT.out.trans (hb.mono BT.out.size))
    clear hb
    go_wp2
    go_ret
    exact ⟨rfl, BT.out⟩
  · have HB := Lib.hid (fewB_iff.1 hv)
    have HE := Lib.hid (tbestL_yes hv)
    have HV := Lib.hid (fewV_yes hv)
    clear hv
    go_wp2_with fail
    refine (calls_below (same_any _ _ (tbestL p x) (tbestL p x) _ R_o.out R_t.out hlo hlo)).mono ?_
    rintro e w6 ⟨rfl, hb⟩
    replace R_p := Lib.hid (R_p.out.below hb)
    replace R_o := Lib.hid (R_o.out.below hb)
    replace R_t := Lib.hid (R_t.out.below hb)
    replace BT := Lib.hid (BT.out.trans (hb.mono BT.out.size))
    clear hb
    clear R_t
    rw [HE.out] at R_o hlo ⊢
    clear x1
    have hN9 := (few_ge HB.out.1 HB.out.2.1).2
    obtain ⟨N, hN⟩ : ∃ N, N = (fewL p x).length := ⟨_, rfl⟩
    rw [← hN] at R_o hlo HV hN9 ⊢
    have HN := Lib.hid hN
    clear hN
    go_wp2
    go_loopw [9] (fun i wr => ∃ k : Nat, 1 ≤ k ∧ k ≤ N + 1 ∧ i = .int .i64 k ∧ Below w6.heap.size w6 wr) (fun i _ => N + 1 - (intOf i).toNat)
    case atStart => exact ⟨1, by omega, by omega, rfl, Below.refl _ _⟩
    case round =>
      obtain ⟨k, hk0, hk1, rfl, hb⟩ := hrel
      have HBe := Lib.hid hb
      clear hb
      replace R_p := Lib.hid (R_p.out.below HBe.out)
      replace R_o := Lib.hid (R_o.out.below HBe.out)
      replace BT := Lib.hid (BT.out.trans ((HBe.out).mono BT.out.size))
      by_cases hlt : k + 1 < N
      · have HJ := Lib.hid (itdrop_any _ _ p (fewL p x) (k : Int) wr R_p.out (by omega) R_o.out (by rw [← HN.out]; omega))
        have hD : tdropB p (fewL p x) (k : Int) = true := by have h := (few_thin HB.out.1 HB.out.2.1).1; have := HN.out; simp only [tdropB, Bool.and_eq_true, inB_iff]; exact ⟨thinB_iff.2 h, by omega, by omega⟩
        have hC : tdropL p (fewL p x) (k : Int) = cutL (fewL p x) k := by rw [tdropL_yes hD]; simp [cutL]
        have hC2 := cutL_len (fewL p x) k (by have := HN.out; omega)
        have hC3 := best_drop (p := p) (e := x) (k := k) hk0 (by have := HN.out; omega)
        rw [hD, hC] at HJ
        rw [← HN.out] at hC2
        obtain ⟨C, hCC⟩ : ∃ C, C = cutL (fewL p x) k := ⟨_, rfl⟩
        rw [← hCC] at HJ hC2 hC3
        clear hD hC hCC
        go_wp2_with fail
        refine (HJ.out).mono ?_
        rintro e w7 ⟨a_c, c_c, rfl, ho, hb⟩
        replace R_p := Lib.hid (R_p.out.below hb)
        replace R_o := Lib.hid (R_o.out.below hb)
        replace BT := Lib.hid (BT.out.trans (hb.mono BT.out.size))
        replace HBe := Lib.hid (HBe.out.trans (hb.mono HBe.out.size))
        have R_c := Lib.hid ho.row
        clear ho
        clear hb
        have HK := Lib.hid (ikeep_any _ _ p C x _ R_p.out (by omega) R_c.out (by omega))
        rw [hC3] at HK
        clear hC3 hC2
        go_wp2_with fail
        refine (HK.out).mono ?_
        rintro e w8 ⟨rfl, hb⟩
        replace R_p := Lib.hid (R_p.out.below hb)
        replace R_o := Lib.hid (R_o.out.below hb)
        replace R_c := Lib.hid (R_c.out.below hb)
        replace BT := Lib.hid (BT.out.trans (hb.mono BT.out.size))
        replace HBe := Lib.hid (HBe.out.trans (hb.mono HBe.out.size))
        clear hb
        go_wp2
        go_roundw
        case rel => exact ⟨k + 1, by omega, by omega, by go_num, HBe.out⟩
        case measure => simp [intOf]; omega
      · have HK := Lib.hid (ikeep_any _ _ p (fewL p x) x _ R_p.out (by omega) R_o.out (by rw [← HN.out]; omega))
        rw [best_keep HB.out.1 HB.out.2.1 HB.out.2.2] at HK
        have b5 : ((N : Int) == (N : Int)) = true := by simp
        go_wp2_with fail
        refine (HK.out).mono ?_
        rintro e w9 ⟨rfl, hb⟩
        replace R_p := Lib.hid (R_p.out.below hb)
        replace R_o := Lib.hid (R_o.out.below hb)
        replace BT := Lib.hid (BT.out.trans (hb.mono BT.out.size))
        replace HBe := Lib.hid (HBe.out.trans (hb.mono HBe.out.size))
        clear hb
        have HF := Lib.hid (itfew_any _ p x _ R_p.out (by omega))
        rw [HV.out] at HF
        go_wp2_with fail
        refine (HF.out).mono ?_
        rintro e w10 ⟨rfl, hb⟩
        replace R_p := Lib.hid (R_p.out.below hb)
        replace R_o := Lib.hid (R_o.out.below hb)
        replace BT := Lib.hid (BT.out.trans (hb.mono BT.out.size))
        replace HBe := Lib.hid (HBe.out.trans (hb.mono HBe.out.size))
        clear hb
        go_wp2
        go_ret
        exact ⟨rfl, BT.out⟩

end Go.Proofs.Ytonehpndbbojpaa
