/- Walk of the law FnThinDrop: a dropped point has an error. -/
import Derived.Test.YtonehpndbbojpaaDDraw
import Derived.Test.YtonehpndbbojpaaSame
import Derived.Test.YtonehpndbbojpaaClimb
import Derived.Test.YtonehpndbbojpaaTProf
import Derived.Test.YtonehpndbbojpaaTErr
import Derived.Test.YtonehpndbbojpaaTDrop
import Derived.Test.YtonehpndbbojpaaTDropNo
import Derived.Test.YtonehpndbbojpaaPlainW
namespace Go.Proofs.Ytonehpndbbojpaa
open Go.RowKit

set_option maxRecDepth 100000 in
set_option maxHeartbeats 4000000 in
theorem fnThinDrop_walk (w : World) (v0 : Value) (z0 : List Int) (hr0 : RowB w v0 z0) (_hm0 : z0.length ≤ maxLen) (hf0 : ∀ n ∈ z0, (Lit.int .u8 n).wf = true) :
    Calls Try.prog 8 #[v0] w fun e w' => e = .returned (.bool true) ∧ Below w.heap.size w w' := by
  have HDr := Lib.hid (dThinDrop_any v0 z0 w hr0 hf0)
  obtain ⟨a0, cap0, rfl, -, -, -⟩ := hr0
  clear _hm0 hf0
  by_cases hbig : 1048576 < z0.length
  · go_enter Try.func8, Try.ntmps8
    go_wp2
    go_ret
    exact ⟨rfl, Below.refl _ _⟩
  go_enter Try.func8, Try.ntmps8
  have BT := Lib.hid (Below.refl w.heap.size w)
  go_wp2_with fail
  refine HDr.out.mono ?_
  rintro e w1 ⟨p, l, a_p, c_p, a_l, c_l, x, rfl, hlp, hll, hR_p, hR_l, hI, hx0, hx1, hb⟩
  have R_p := Lib.hid hR_p
  have R_l := Lib.hid hR_l
  replace BT := Lib.hid (BT.out.trans (hb.mono BT.out.size))
  clear hR_p hR_l hb HDr
  go_wp2_with fail
  refine (itdrop_any _ _ p l x _ R_p.out (by omega) R_l.out (by omega)).mono ?_
  rintro e w2 ⟨a_o, c_o, rfl, ho, hb⟩
  replace R_p := Lib.hid (R_p.out.below hb)
  replace R_l := Lib.hid (R_l.out.below hb)
  replace BT := Lib.hid (BT.out.trans (hb.mono BT.out.size))
  have R_o := Lib.hid ho.row
  clear ho
  have HBo := Lib.hid hb
  clear hb
  have hlo : (tdropL p l x).length ≤ 1099511627776 := by have := tdropL_len p l x (by omega); omega
  have x1 : decide (tdropL p l x = tdropL p l x) = true := by simp
  have HS := Lib.hid (show Calls Try.prog 35 #[.slice a_p p.length c_p, .slice a_l l.length c_l, .int .i64 x] w2 (GivesRowB (tdropL p l x) (tdropB p l x) w2) from by
    cases h : thinB p l
    · exact stdrop_no _ _ p l x w2 R_p.out (by omega) R_l.out (by omega) h
    · exact stdrop_any _ _ p l x _ w2 R_p.out (by omega) ((hI h).below HBo.out) (by omega))
  clear hI HBo
  go_wp2_with fail
  refine (HS.out).mono ?_
  rintro e w3 ⟨a_t, c_t, rfl, ho, hb⟩
  replace R_p := Lib.hid (R_p.out.below hb)
  replace R_l := Lib.hid (R_l.out.below hb)
  replace R_o := Lib.hid (R_o.out.below hb)
  replace BT := Lib.hid (BT.out.trans (hb.mono BT.out.size))
  have R_t := Lib.hid ho.row
  clear ho
  clear HS
  clear hb
  cases hT : tdropB p l x
  · clear hT
    go_wp2_with fail
    refine (calls_below (same_any _ _ (tdropL p l x) (tdropL p l x) _ R_o.out R_t.out hlo hlo)).mono ?_
    rintro e w4 ⟨rfl, hb⟩
    replace R_p := Lib.hid (R_p.out.below hb)
    replace R_l := Lib.hid (R_l.out.below hb)
    replace R_o := Lib.hid (R_o.out.below hb)
    replace R_t := Lib.hid (R_t.out.below hb)
    replace BT := Lib.hid (BT.out.trans (hb.mono BT.out.size))
    clear hb
    go_wp2_with fail
    refine (calls_below (same_any _ _ (tdropL p l x) (tdropL p l x) _ R_o.out R_t.out hlo hlo)).mono ?_
    rintro e w5 ⟨rfl, hb⟩
    replace R_p := Lib.hid (R_p.out.below hb)
    replace R_l := Lib.hid (R_l.out.below hb)
    replace R_o := Lib.hid (R_o.out.below hb)
    replace R_t := Lib.hid (R_t.out.below hb)
    replace BT := Lib.hid (BT.out.trans (hb.mono BT.out.size))
    clear hb
    go_wp2
    go_ret
    exact ⟨rfl, BT.out⟩
  · have hT2 := hT
    simp only [tdropB, Bool.and_eq_true, thinB_iff, inB_iff] at hT2
    obtain ⟨hT3, hk1, hk2⟩ := hT2
    have HT := Lib.hid hT3
    obtain ⟨k, hk⟩ : ∃ k : Nat, x = k := ⟨x.toNat, by omega⟩
    have HE := Lib.hid (show tdropL p l x = cutL l k by rw [tdropL_yes hT, hk]; simp [cutL])
    have h1 : 1 ≤ k := by omega
    have h2 : k + 1 < l.length := by omega
    clear hT hT3 hk1 hk2 hk
    go_wp2_with fail
    refine (calls_below (same_any _ _ (tdropL p l x) (tdropL p l x) _ R_o.out R_t.out hlo hlo)).mono ?_
    rintro e w6 ⟨rfl, hb⟩
    replace R_p := Lib.hid (R_p.out.below hb)
    replace R_l := Lib.hid (R_l.out.below hb)
    replace R_o := Lib.hid (R_o.out.below hb)
    replace R_t := Lib.hid (R_t.out.below hb)
    replace BT := Lib.hid (BT.out.trans (hb.mono BT.out.size))
    clear hb
    clear R_t
    rw [HE.out] at R_o hlo ⊢
    clear x1 HE
    have L1 := drop_laws HT.out h1 h2
    have L2 := cut_thin HT.out h1 h2
    have L3 := Lib.hid (cutL_len l k (by omega))
    have L4 := thinB_iff.2 L2
    have L5 := thinE_bd L2
    have L6 := thinB_iff.2 HT.out
    have L7 := tp_valid HT.out
    have L8 := tp_valid L2
    have L9 := Lib.hid (tpL_len p l)
    have L10 := Lib.hid (tpL_len p (cutL l k))
    have E1 := tprofL_yes L6
    have E2 := tprofL_yes L4
    have H1 := Lib.hid (itprof_any _ _ p l _ R_p.out (by omega) R_l.out (by omega))
    rw [L6, E1] at H1
    rw [show l.map (fun x => p.getD x.toNat 0) = tpL p l from rfl] at H1
    clear E1
    obtain ⟨C, hC⟩ : ∃ C, C = cutL l k := ⟨_, rfl⟩
    rw [← hC] at R_o hlo L1 L2 L3 L4 L5 L8 L10 E2 ⊢
    obtain ⟨A, hA⟩ : ∃ A, A = tpL p l := ⟨_, rfl⟩
    obtain ⟨B, hB⟩ : ∃ B, B = tpL p C := ⟨_, rfl⟩
    rw [show C.map (fun x => p.getD x.toNat 0) = tpL p C from rfl] at E2
    rw [← hA] at H1 L1 L7 L9
    rw [← hB] at L1 L8 L10 E2
    clear hC hA hB L6 L2
    have L1 := Lib.hid L1
    go_wp2_with fail
    refine (H1.out).mono ?_
    rintro e w7 ⟨a_a, c_a, rfl, ho, hb⟩
    replace R_p := Lib.hid (R_p.out.below hb)
    replace R_l := Lib.hid (R_l.out.below hb)
    replace R_o := Lib.hid (R_o.out.below hb)
    replace BT := Lib.hid (BT.out.trans (hb.mono BT.out.size))
    have R_a := Lib.hid ho.row
    clear ho
    clear H1
    clear hb
    have H2 := Lib.hid (itprof_any _ _ p C _ R_p.out (by omega) R_o.out hlo)
    rw [L4, E2] at H2
    clear E2
    go_wp2_with fail
    refine (H2.out).mono ?_
    rintro e w8 ⟨a_b, c_b, rfl, ho, hb⟩
    replace R_p := Lib.hid (R_p.out.below hb)
    replace R_l := Lib.hid (R_l.out.below hb)
    replace R_o := Lib.hid (R_o.out.below hb)
    replace R_a := Lib.hid (R_a.out.below hb)
    replace BT := Lib.hid (BT.out.trans (hb.mono BT.out.size))
    have R_b := Lib.hid ho.row
    clear ho
    clear H2
    clear hb
    have H3 := Lib.hid (iclimb_any _ A _ R_a.out (by have := L9.out; omega))
    rw [L7] at H3
    clear L7
    go_wp2_with fail
    refine (calls_below H3.out).mono ?_
    rintro e w9 ⟨rfl, hb⟩
    replace R_p := Lib.hid (R_p.out.below hb)
    replace R_l := Lib.hid (R_l.out.below hb)
    replace R_o := Lib.hid (R_o.out.below hb)
    replace R_a := Lib.hid (R_a.out.below hb)
    replace R_b := Lib.hid (R_b.out.below hb)
    replace BT := Lib.hid (BT.out.trans (hb.mono BT.out.size))
    clear H3
    clear hb
    have H4 := Lib.hid (iclimb_any _ B _ R_b.out (by have := L10.out; have := L3.out; omega))
    rw [L8] at H4
    clear L8
    go_wp2_with fail
    refine (calls_below H4.out).mono ?_
    rintro e w10 ⟨rfl, hb⟩
    replace R_p := Lib.hid (R_p.out.below hb)
    replace R_l := Lib.hid (R_l.out.below hb)
    replace R_o := Lib.hid (R_o.out.below hb)
    replace R_a := Lib.hid (R_a.out.below hb)
    replace R_b := Lib.hid (R_b.out.below hb)
    replace BT := Lib.hid (BT.out.trans (hb.mono BT.out.size))
    clear H4
    clear hb
    go_wp2_with fail
    refine (iterr_any _ _ p C _ R_p.out (by omega) R_o.out hlo).mono ?_
    rintro e w11 ⟨rfl, hb⟩
    replace R_p := Lib.hid (R_p.out.below hb)
    replace R_l := Lib.hid (R_l.out.below hb)
    replace R_o := Lib.hid (R_o.out.below hb)
    replace R_a := Lib.hid (R_a.out.below hb)
    replace R_b := Lib.hid (R_b.out.below hb)
    replace BT := Lib.hid (BT.out.trans (hb.mono BT.out.size))
    clear hb
    have H5 := Lib.hid (ithinv_any _ _ p C _ R_p.out (by omega) R_o.out hlo)
    rw [L4] at H5
    clear L4
    obtain ⟨l5a, l5b⟩ := L5
    obtain ⟨U, hU⟩ : ∃ U, U = upV A := ⟨_, rfl⟩
    obtain ⟨D, hD⟩ : ∃ D, D = dnV A := ⟨_, rfl⟩
    obtain ⟨X, hX⟩ : ∃ X, X = upV B := ⟨_, rfl⟩
    obtain ⟨Y, hY⟩ : ∃ Y, Y = dnV B := ⟨_, rfl⟩
    obtain ⟨E, hE⟩ : ∃ E, E = thinE p C := ⟨_, rfl⟩
    rw [← hU, ← hD, ← hX, ← hY, ← hE] at L1
    rw [← hU, ← hD, ← hX, ← hY, ← hE]
    clear hU hD hX hY hE l5a l5b
    have c1 : decide (X ≤ U) = true := by simp; exact L1.out.1
    have c2 : decide (Y ≤ D) = true := by simp; exact L1.out.2.1
    have c3 : ((C.length : Int) == (l.length : Int) - 1) = true := by have := L3.out; simp; omega
    by_cases h0 : E = 0
    · have b0 : (E == 0) = true := by simp; omega
      have c4 : (X == U) = true := by simp; exact (L1.out.2.2 h0).1
      have c5 : (Y == D) = true := by simp; exact (L1.out.2.2 h0).2
      clear h0 L3 L9 L10
      go_wp2_with fail
      refine (calls_below H5.out).mono ?_
      rintro e w12 ⟨rfl, hb⟩
      replace R_p := Lib.hid (R_p.out.below hb)
      replace R_l := Lib.hid (R_l.out.below hb)
      replace R_o := Lib.hid (R_o.out.below hb)
      replace R_a := Lib.hid (R_a.out.below hb)
      replace R_b := Lib.hid (R_b.out.below hb)
      replace BT := Lib.hid (BT.out.trans (hb.mono BT.out.size))
      clear hb
      go_wp2
      go_ret
      exact ⟨rfl, BT.out⟩
    · have b0 : (E == 0) = false := by simp; omega
      clear h0 L3 L9 L10
      go_wp2_with fail
      refine (calls_below H5.out).mono ?_
      rintro e w13 ⟨rfl, hb⟩
      replace R_p := Lib.hid (R_p.out.below hb)
      replace R_l := Lib.hid (R_l.out.below hb)
      replace R_o := Lib.hid (R_o.out.below hb)
      replace R_a := Lib.hid (R_a.out.below hb)
      replace R_b := Lib.hid (R_b.out.below hb)
      replace BT := Lib.hid (BT.out.trans (hb.mono BT.out.size))
      clear hb
      go_wp2
      go_ret
      exact ⟨rfl, BT.out⟩

end Go.Proofs.Ytonehpndbbojpaa
