/- Walk of the law FnThinProfile: a thinned profile climbs no more. -/
import Derived.Test.YtonehpndbbojpaaDDraw
import Derived.Test.YtonehpndbbojpaaSame
import Derived.Test.YtonehpndbbojpaaClimb
import Derived.Test.YtonehpndbbojpaaTProf
import Derived.Test.YtonehpndbbojpaaPlainW
namespace Go.Proofs.Ytonehpndbbojpaa
open Go.RowKit

set_option maxRecDepth 100000 in
set_option maxHeartbeats 4000000 in
theorem fnThinProfile_walk (w : World) (v0 : Value) (z0 : List Int) (hr0 : RowB w v0 z0) (_hm0 : z0.length ≤ maxLen) (hf0 : ∀ n ∈ z0, (Lit.int .u8 n).wf = true) :
    Calls Try.prog 5 #[v0] w fun e w' => e = .returned (.bool true) ∧ Below w.heap.size w w' := by
  have HDr := Lib.hid (dThinProfile_any v0 z0 w hr0 hf0)
  obtain ⟨a0, cap0, rfl, -, -, -⟩ := hr0
  clear _hm0 hf0
  by_cases hbig : 1048576 < z0.length
  · go_enter Try.func5, Try.ntmps5
    go_wp2
    go_ret
    exact ⟨rfl, Below.refl _ _⟩
  go_enter Try.func5, Try.ntmps5
  have BT := Lib.hid (Below.refl w.heap.size w)
  go_wp2_with fail
  refine HDr.out.mono ?_
  rintro e w1 ⟨p, l, a_p, c_p, a_l, c_l, rfl, hlp, hll, hR_p, hR_l, hI, hb⟩
  have R_p := Lib.hid hR_p
  have R_l := Lib.hid hR_l
  replace BT := Lib.hid (BT.out.trans (hb.mono BT.out.size))
  clear hR_p hR_l hb HDr
  clear hI
  go_wp2_with fail
  refine (itprof_any _ _ p l _ R_p.out (by omega) R_l.out (by omega)).mono ?_
  rintro e w2 ⟨a_o, c_o, rfl, ho, hb⟩
  replace R_p := Lib.hid (R_p.out.below hb)
  replace R_l := Lib.hid (R_l.out.below hb)
  replace BT := Lib.hid (BT.out.trans (hb.mono BT.out.size))
  have R_o := Lib.hid ho.row
  clear ho
  clear hb
  go_wp2_with fail
  refine (stprof_any _ _ p l _ R_p.out (by omega) R_l.out (by omega)).mono ?_
  rintro e w3 ⟨a_t, c_t, rfl, ho, hb⟩
  replace R_p := Lib.hid (R_p.out.below hb)
  replace R_l := Lib.hid (R_l.out.below hb)
  replace R_o := Lib.hid (R_o.out.below hb)
  replace BT := Lib.hid (BT.out.trans (hb.mono BT.out.size))
  have R_t := Lib.hid ho.row
  clear ho
  clear hb
  have hlo : (tprofL p l).length ≤ 1099511627776 := by have := tprofL_len p l (by omega); omega
  have x1 : decide (tprofL p l = tprofL p l) = true := by simp
  cases hT : thinB p l
  · clear hT
    go_wp2_with fail
    refine (calls_below (same_any _ _ (tprofL p l) (tprofL p l) _ R_o.out R_t.out hlo hlo)).mono ?_
    rintro e w4 ⟨rfl, hb⟩
    replace R_p := Lib.hid (R_p.out.below hb)
    replace R_l := Lib.hid (R_l.out.below hb)
    replace R_o := Lib.hid (R_o.out.below hb)
    replace R_t := Lib.hid (R_t.out.below hb)
    replace BT := Lib.hid (BT.out.trans (hb.mono BT.out.size))
    clear hb
    go_wp2_with fail
    refine (calls_below (same_any _ _ (tprofL p l) (tprofL p l) _ R_o.out R_t.out hlo hlo)).mono ?_
    rintro e w5 ⟨rfl, hb⟩
    replace R_p := Lib.hid (R_p.out.below hb)
    replace R_l := Lib.hid (R_l.out.below hb)
    replace R_o := Lib.hid (R_o.out.below hb)
    replace R_t := Lib.hid (R_t.out.below hb)
    replace BT := Lib.hid (BT.out.trans (hb.mono BT.out.size))
    clear hb
    go_wp2
    go_ret
    exact ⟨rfl, BT.out⟩
  · have HT := Lib.hid (thinB_iff.1 hT)
    have HE := Lib.hid (show tprofL p l = tpL p l from tprofL_yes hT)
    clear hT
    go_wp2_with fail
    refine (calls_below (same_any _ _ (tprofL p l) (tprofL p l) _ R_o.out R_t.out hlo hlo)).mono ?_
    rintro e w6 ⟨rfl, hb⟩
    replace R_p := Lib.hid (R_p.out.below hb)
    replace R_l := Lib.hid (R_l.out.below hb)
    replace R_o := Lib.hid (R_o.out.below hb)
    replace R_t := Lib.hid (R_t.out.below hb)
    replace BT := Lib.hid (BT.out.trans (hb.mono BT.out.size))
    clear hb
    clear R_t
    rw [HE.out] at R_o hlo ⊢
    clear x1
    have hTl := Lib.hid (tpL_len p l)
    have HA := Lib.hid (fun j => tpL_at p l j)
    have hC := tp_climb HT.out
    obtain ⟨hC1, hC2⟩ := hC
    have HI1 := Lib.hid (iclimb_any _ p _ R_p.out (by omega))
    have HI2 := Lib.hid (fun wr hb => iclimb_any _ (tpL p l) wr (R_o.out.below hb) hlo)
    rw [tp_valid HT.out] at HI2
    rw [HT.out.1] at HI1
    obtain ⟨U, hU⟩ : ∃ U, U = upV p := ⟨_, rfl⟩
    obtain ⟨D, hD⟩ : ∃ D, D = dnV p := ⟨_, rfl⟩
    obtain ⟨X, hX⟩ : ∃ X, X = upV (tpL p l) := ⟨_, rfl⟩
    obtain ⟨Y, hY⟩ : ∃ Y, Y = dnV (tpL p l) := ⟨_, rfl⟩
    rw [← hU] at HI1 hC1
    rw [← hD] at HI1 hC2
    rw [← hX] at HI2 hC1
    rw [← hY] at HI2 hC2
    clear hU hD hX hY
    have b1 : decide (X ≤ U) = true := by simp; omega
    have b2 : decide (Y ≤ D) = true := by simp; omega
    have hb0 := Below.refl w6.heap.size w6
    obtain ⟨N, hN⟩ : ∃ N, N = (tpL p l).length := ⟨_, rfl⟩
    obtain ⟨O, hO⟩ : ∃ O, O = tpL p l := ⟨_, rfl⟩
    rw [← hN] at R_o hTl HI2 ⊢
    rw [← hO] at HA R_o
    clear hN hO HE hlo
    go_wp2_with fail
    refine (calls_below HI1.out).mono ?_
    rintro e w7 ⟨rfl, hb⟩
    replace R_p := Lib.hid (R_p.out.below hb)
    replace R_l := Lib.hid (R_l.out.below hb)
    replace R_o := Lib.hid (R_o.out.below hb)
    replace BT := Lib.hid (BT.out.trans (hb.mono BT.out.size))
    have HB1 := Lib.hid hb
    clear hb
    go_wp2_with fail
    refine (calls_below (HI2.out _ HB1.out)).mono ?_
    rintro e w8 ⟨rfl, hb⟩
    replace R_p := Lib.hid (R_p.out.below hb)
    replace R_l := Lib.hid (R_l.out.below hb)
    replace R_o := Lib.hid (R_o.out.below hb)
    replace BT := Lib.hid (BT.out.trans (hb.mono BT.out.size))
    clear HB1 HI1 HI2
    clear hb
    go_wp2
    go_loopw [15] (fun i wr => ∃ j : Nat, j ≤ N ∧ i = .int .i64 j ∧ Below w8.heap.size w8 wr) (fun i _ => N - (intOf i).toNat)
    case atStart => exact ⟨0, by omega, rfl, Below.refl _ _⟩
    case round =>
      obtain ⟨j, hj, rfl, hb⟩ := hrel
      have HB := Lib.hid hb
      clear hb
      replace R_p := Lib.hid (R_p.out.below HB.out)
      replace R_l := Lib.hid (R_l.out.below HB.out)
      replace R_o := Lib.hid (R_o.out.below HB.out)
      replace BT := Lib.hid (BT.out.trans ((HB.out).mono BT.out.size))
      by_cases hlt : j < N
      · have hjl : j < l.length := by have := hTl.out; omega
        obtain ⟨-, hco⟩ := R_o.out.cells
        obtain ⟨bo, oo, rfl, ho⟩ := hco j hlt
        obtain ⟨-, hcl⟩ := R_l.out.cells
        obtain ⟨bl, ol, rfl, hl⟩ := hcl j hjl
        obtain ⟨i, hi, hip⟩ := HT.out.nat hjl
        obtain ⟨-, hcp⟩ := R_p.out.cells
        obtain ⟨bp, op, rfl, hp⟩ := hcp i hip
        have ha := HA.out j hjl
        rw [hi, Int.toNat_natCast] at ha
        rw [ha] at ho
        rw [hi] at hl
        obtain ⟨x, hx⟩ : ∃ x, x = p.getD i 0 := ⟨_, rfl⟩
        rw [← hx] at ho hp
        clear hx ha hi hco hcl hcp
        have b3 : (x != x) = false := by simp
        have b4 : ((N : Int) != (l.length : Int)) = false := by have := hTl.out; simp; omega
        have q1 : (0 : Int) ≤ (j : Int) := by omega
        have q2 : (j : Int) < (N : Int) := by omega
        have q3 : (j : Int) < (l.length : Int) := by omega
        have q4 : (0 : Int) ≤ (i : Int) := by omega
        have q5 : (i : Int) < (p.length : Int) := by omega
        go_wp2
        go_quiet (fail)
        go_wp2
        go_roundw
        case rel => exact ⟨j + 1, by omega, by go_num, below_drewN HB.out _⟩
        case measure => simp [intOf]; omega
      · have hje : N ≤ j := by omega
        go_wp2
        go_ret
        exact ⟨rfl, BT.out⟩

end Go.Proofs.Ytonehpndbbojpaa
