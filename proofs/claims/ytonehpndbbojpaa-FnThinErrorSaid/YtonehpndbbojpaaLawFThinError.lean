/- Walk of the law FnThinError: errors are the least that are kept. -/
import Derived.Test.YtonehpndbbojpaaDDraw
import Derived.Test.YtonehpndbbojpaaTErr
import Derived.Test.YtonehpndbbojpaaBack
import Derived.Test.YtonehpndbbojpaaPlainU
namespace Go.Proofs.Ytonehpndbbojpaa
open Go.RowKit

set_option maxRecDepth 100000 in
set_option maxHeartbeats 4000000 in
theorem fnThinError_walk (w : World) (v0 : Value) (z0 : List Int) (hr0 : RowB w v0 z0) (_hm0 : z0.length ≤ maxLen) (hf0 : ∀ n ∈ z0, (Lit.int .u8 n).wf = true) :
    Calls Try.prog 6 #[v0] w fun e w' => e = .returned (.bool true) ∧ Below w.heap.size w w' := by
  have HDr := Lib.hid (dThinError_any v0 z0 w hr0 hf0)
  obtain ⟨a0, cap0, rfl, -, -, -⟩ := hr0
  clear _hm0 hf0
  by_cases hbig : 1048576 < z0.length
  · go_enter Try.func6, Try.ntmps6
    go_wp2
    go_ret
    exact ⟨rfl, Below.refl _ _⟩
  go_enter Try.func6, Try.ntmps6
  have BT := Lib.hid (Below.refl w.heap.size w)
  go_wp2_with fail
  refine HDr.out.mono ?_
  rintro e w1 ⟨p, l, a_p, c_p, a_l, c_l, rfl, hlp, hll, hR_p, hR_l, hI, hb⟩
  have R_p := Lib.hid hR_p
  have R_l := Lib.hid hR_l
  replace BT := Lib.hid (BT.out.trans (hb.mono BT.out.size))
  clear hR_p hR_l hb HDr
  clear hI
  go_wp2_with fail
  refine (iterr_any _ _ p l _ R_p.out (by omega) R_l.out (by omega)).mono ?_
  rintro e w2 ⟨rfl, hb⟩
  replace R_p := Lib.hid (R_p.out.below hb)
  replace R_l := Lib.hid (R_l.out.below hb)
  replace BT := Lib.hid (BT.out.trans (hb.mono BT.out.size))
  clear hb
  go_wp2_with fail
  refine (sterr_any _ _ p l _ R_p.out (by omega) R_l.out (by omega)).mono ?_
  rintro e w3 ⟨rfl, hb⟩
  replace R_p := Lib.hid (R_p.out.below hb)
  replace R_l := Lib.hid (R_l.out.below hb)
  replace BT := Lib.hid (BT.out.trans (hb.mono BT.out.size))
  clear hb
  cases hT : thinB p l
  · rw [thinE_no hT]
    clear hT
    go_wp2
    go_ret
    exact ⟨rfl, BT.out⟩
  · have HT := Lib.hid (thinB_iff.1 hT)
    clear hT
    have hb := thinE_bd HT.out
    obtain ⟨hb0, hb1⟩ := hb
    have K1 := keep_self HT.out
    have K2 : keepB p l (thinE p l - 1) = false := by cases h : keepB p l (thinE p l - 1) with | false => rfl | true => (have := (keepB_iff.1 h).2.2.2; omega)
    have K3 := turn_err HT.out
    have hBL : backL p = p.reverse := by simp [backL, HT.out.1]
    rw [← hBL] at K3
    have hV := HT.out.1
    have hlB : (backL p).length ≤ 1099511627776 := by have := backL_len p (by omega); omega
    have HJ := Lib.hid (iback_any _ p _ R_p.out (by omega))
    rw [hV] at HJ
    clear hV hBL
    have HK1 := Lib.hid (fun wr hb => ikeep_any _ _ p l (thinE p l) wr (R_p.out.below hb) (by omega) (R_l.out.below hb) (by omega))
    have HK2 := Lib.hid (fun wr hb => ikeep_any _ _ p l (thinE p l - 1) wr (R_p.out.below hb) (by omega) (R_l.out.below hb) (by omega))
    rw [K1] at HK1
    rw [K2] at HK2
    obtain ⟨E, hE⟩ : ∃ E, E = thinE p l := ⟨_, rfl⟩
    rw [← hE] at HK1 HK2 K3 hb0 hb1 ⊢
    have K3 := Lib.hid K3
    clear hE K1 K2
    go_wp2_with fail
    refine (HJ.out).mono ?_
    rintro e w4 ⟨a_k, c_k, rfl, ho, hb⟩
    replace R_p := Lib.hid (R_p.out.below hb)
    replace R_l := Lib.hid (R_l.out.below hb)
    replace BT := Lib.hid (BT.out.trans (hb.mono BT.out.size))
    have R_k := Lib.hid ho.row
    clear ho
    have HBk := Lib.hid hb
    clear hb
    have HO := Lib.hid (Own.emptyLit w4 _ (Nat.le_refl w4.heap.size))
    go_wp2
    go_loopw [9, 10] (fun out i wr => ∃ j : Nat, j ≤ l.length ∧ i = .int .i64 ((l.length : Int) - 1 - j) ∧ Own wr w4.heap.size out ((turnL p.length l).take j) ∧ Below w4.heap.size w4 wr) (fun _ i _ => (intOf i + 1).toNat)
    case atStart => exact ⟨0, by omega, by go_num, HO.out, Below.alloc (Below.refl _ _) (Nat.le_refl _) _⟩
    case round =>
      clear HO
      obtain ⟨j, hj, rfl, ho, hb⟩ := hrel
      have hsz := hb.size
      have hlen : ((turnL p.length l).take j).length ≤ 1099511627776 := by rw [List.length_take, turnL_len]; omega
      have HO := Lib.hid ho
      have HB := Lib.hid hb
      clear ho hb
      by_cases hlt : j < l.length
      · have R_l2 := Lib.hid (R_l.out.below HB.out)
        obtain ⟨-, hc⟩ := R_l2.out.cells
        obtain ⟨b, off, rfl, hcell⟩ := hc (l.length - 1 - j) (by omega)
        have ht := HT.out.bd (l.length - 1 - j) (by omega)
        obtain ⟨y, hy⟩ : ∃ y, y = l.getD (l.length - 1 - j) 0 := ⟨_, rfl⟩
        rw [← hy] at hcell ht
        have HS := Lib.hid (show (turnL p.length l).take (j + 1) = (turnL p.length l).take j ++ [(p.length : Int) - 1 - y] by rw [List.take_succ_eq_append_getElem (by rw [turnL_len]; exact hlt)]; have h := turnL_at p.length l j hlt; rw [← hy] at h; rw [← h]; simp [turnL_len, hlt])
        clear hy hc R_l2
        go_wp2_with (first | (at_builtin; refine append1 (by rfl) _ _ (by rfl) (w4.heap.size) _ ((turnL p.length l).take j) (((p.length : Int) - 1 - y)) (by rfl) (by rfl) (HO.out) (hsz) (hlen) ?_; intro v5 w5 ho5 hg5; (have HO5 := Lib.hid ho5); (have HB5 := Lib.hid (HB.out.trans (below_of_grown hg5 hsz (fun g e => (HO.out.lt g e).1)))); clear ho5 hg5))
        go_roundw
        case rel => exact ⟨j + 1, by omega, by go_num, by rw [HS.out]; exact HO5.out, HB5.out⟩
        case measure => simp [intOf]; omega
      · have hje : j = l.length := by omega
        subst hje
        clear hlt hlen
        replace R_p := Lib.hid (R_p.out.below HB.out)
        replace R_l := Lib.hid (R_l.out.below HB.out)
        replace R_k := Lib.hid (R_k.out.below HB.out)
        replace BT := Lib.hid (BT.out.trans ((HB.out).mono BT.out.size))
        have hTL : (turnL p.length l).length ≤ 1099511627776 := by rw [turnL_len]; omega
        have HO2 := Lib.hid HO.out
        rw [List.take_of_length_le (by rw [turnL_len]; exact Nat.le_refl _)] at HO2
        have R_u := Lib.hid HO2.out.row
        have HB0 := Lib.hid HB.out
        have b1 : decide (E ≤ 99) = true := by simp; omega
        have b2 : (E == E) = true := by simp
        replace HK1 := Lib.hid (fun w' hb => HK1.out w' hb)
        clear HO HO2 HB
        have hbk : Below w3.heap.size w3 wr := Below.trans HBk.out (HB0.out.mono HBk.out.size)
        go_wp2_with fail
        refine (HK1.out _ hbk).mono ?_
        rintro e w5 ⟨rfl, hb⟩
        replace R_p := Lib.hid (R_p.out.below hb)
        replace R_l := Lib.hid (R_l.out.below hb)
        replace R_k := Lib.hid (R_k.out.below hb)
        replace R_u := Lib.hid (R_u.out.below hb)
        replace BT := Lib.hid (BT.out.trans (hb.mono BT.out.size))
        replace HB0 := Lib.hid (HB0.out.trans (hb.mono HB0.out.size))
        have hbk2 := hbk.trans (hb.mono hbk.size)
        clear hb
        go_wp2_with fail
        refine (HK2.out _ hbk2).mono ?_
        rintro e w6 ⟨rfl, hb⟩
        replace R_p := Lib.hid (R_p.out.below hb)
        replace R_l := Lib.hid (R_l.out.below hb)
        replace R_k := Lib.hid (R_k.out.below hb)
        replace R_u := Lib.hid (R_u.out.below hb)
        replace BT := Lib.hid (BT.out.trans (hb.mono BT.out.size))
        replace HB0 := Lib.hid (HB0.out.trans (hb.mono HB0.out.size))
        clear hb
        have HE := Lib.hid (iterr_any _ _ (backL p) (turnL p.length l) _ R_k.out hlB R_u.out hTL)
        rw [K3.out] at HE
        go_wp2_with fail
        refine (HE.out).mono ?_
        rintro e w7 ⟨rfl, hb⟩
        replace R_p := Lib.hid (R_p.out.below hb)
        replace R_l := Lib.hid (R_l.out.below hb)
        replace R_k := Lib.hid (R_k.out.below hb)
        replace R_u := Lib.hid (R_u.out.below hb)
        replace BT := Lib.hid (BT.out.trans (hb.mono BT.out.size))
        replace HB0 := Lib.hid (HB0.out.trans (hb.mono HB0.out.size))
        clear hb
        go_wp2
        go_ret
        exact ⟨rfl, BT.out⟩

end Go.Proofs.Ytonehpndbbojpaa
