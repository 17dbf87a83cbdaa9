/- Walk of the law FnHullSees: a point above the hull sees along it. -/
import Derived.Deep.QuietTactic
import Derived.BigQuiet
import Derived.IntWalk
import Derived.Deep.Cut
import Derived.Test.YtbehpooapnjpeaaDProf2
import Derived.Test.YtbehpooapnjpeaaSame
import Derived.Test.YtbehpooapnjpeaaApp
import Derived.Test.YtbehpooapnjpeaaHull
import Derived.Test.YtbehpooapnjpeaaBack
import Derived.Test.YtbehpooapnjpeaaPlainK
namespace Go.Proofs.Ytbehpooapnjpeaa
open Go.RowKit

set_option maxRecDepth 100000 in
set_option maxHeartbeats 4000000 in
theorem fnHullSees_walk (w : World) (v0 : Value) (z0 : List Int) (hr0 : RowB w v0 z0) (_hm0 : z0.length ≤ maxLen) (hf0 : ∀ n ∈ z0, (Lit.int .u8 n).wf = true) (v1 : Value) (z1 : List Int) (hr1 : RowB w v1 z1) (_hm1 : z1.length ≤ maxLen) (_hf1 : ∀ n ∈ z1, (Lit.int .u8 n).wf = true) :
    Calls Try.prog 9 #[v0, v1] w fun e w' => e = .returned (.bool true) ∧ Below w.heap.size w w' := by
  have HDr := Lib.hid (dProfileHull_any v0 z0 w hr0 hf0)
  obtain ⟨a0, cap0, rfl, -, -, -⟩ := hr0
  obtain ⟨a1, cap1, rfl, -, -, -⟩ := hr1
  clear _hm0 hf0 _hm1 _hf1
  by_cases hbig0 : 1048576 < z0.length
  · go_enter Try.func9, Try.ntmps9
    go_wp2
    go_ret
    exact ⟨rfl, Below.refl _ _⟩
  by_cases hbig1 : 1048576 < z1.length
  · go_enter Try.func9, Try.ntmps9
    go_wp2
    go_ret
    exact ⟨rfl, Below.refl _ _⟩
  go_enter Try.func9, Try.ntmps9
  have BT := Lib.hid (Below.refl w.heap.size w)
  go_wp2_with fail
  refine HDr.out.mono ?_
  rintro e w1 ⟨p, a_p, c_p, rfl, hlp, ho, hb⟩
  have R_p := Lib.hid ho.row
  replace BT := Lib.hid (BT.out.trans (hb.mono BT.out.size))
  clear ho hb HDr
  go_wp2_with fail
  refine (ihull_any _ p _ R_p.out (by omega)).mono ?_
  rintro e w2 ⟨a_o, c_o, rfl, ho, hb⟩
  replace R_p := Lib.hid (R_p.out.below hb)
  replace BT := Lib.hid (BT.out.trans (hb.mono BT.out.size))
  have R_o := Lib.hid ho.row
  clear ho
  clear hb
  go_wp2_with fail
  refine (shull_any _ p _ R_p.out (by omega)).mono ?_
  rintro e w3 ⟨a_t, c_t, rfl, ho, hb⟩
  replace R_p := Lib.hid (R_p.out.below hb)
  replace R_o := Lib.hid (R_o.out.below hb)
  replace BT := Lib.hid (BT.out.trans (hb.mono BT.out.size))
  have R_t := Lib.hid ho.row
  clear ho
  clear hb
  have hlo : (hullL p).length ≤ 1099511627776 := by have := hullL_len p (by omega); omega
  have x1 : decide ((hullL p) = (hullL p)) = true := by simp
  cases hT : validB p
  · clear hT
    go_wp2_with fail
    refine (calls_below (same_any _ _ (hullL p) (hullL p) _ R_o.out R_t.out hlo hlo)).mono ?_
    rintro e w4 ⟨rfl, hb⟩
    replace R_p := Lib.hid (R_p.out.below hb)
    replace R_o := Lib.hid (R_o.out.below hb)
    replace R_t := Lib.hid (R_t.out.below hb)
    replace BT := Lib.hid (BT.out.trans (hb.mono BT.out.size))
    clear hb
    go_wp2_with fail
    refine (calls_below (same_any _ _ (hullL p) (hullL p) _ R_o.out R_t.out hlo hlo)).mono ?_
    rintro e w5 ⟨rfl, hb⟩
    replace R_p := Lib.hid (R_p.out.below hb)
    replace R_o := Lib.hid (R_o.out.below hb)
    replace R_t := Lib.hid (R_t.out.below hb)
    replace BT := Lib.hid (BT.out.trans (hb.mono BT.out.size))
    clear hb
    go_wp2
    go_ret
    exact ⟨rfl, BT.out⟩
  · have HV := Lib.hid hT
    have HN := Lib.hid (hull_thin hT)
    have HB := Lib.hid (hull_back hT)
    have HP := Lib.hid (fun m h => hull_pt hT (m := m) h)
    have HH := Lib.hid (valid_ht' hT)
    have hl := valid_len hT
    obtain ⟨l1, l2⟩ := hl
    have hV2 : validB (backL p) = true := by rw [backL_valid hT]; exact rev_valid hT
    have hlB : (backL p).length ≤ 1099511627776 := by have := backL_len p (by omega); omega
    have HL := Lib.hid (fun j h1 h2 h3 => hull_lowL hT (j := j) h1 h2 h3)
    have HK := Lib.hid (fun wx h => iback_any (.slice a_p p.length c_p) p wx h (by omega))
    rw [hT] at HK
    clear hT
    go_wp2_with fail
    refine (calls_below (same_any _ _ (hullL p) (hullL p) _ R_o.out R_t.out hlo hlo)).mono ?_
    rintro e w6 ⟨rfl, hb⟩
    replace R_p := Lib.hid (R_p.out.below hb)
    replace R_o := Lib.hid (R_o.out.below hb)
    replace R_t := Lib.hid (R_t.out.below hb)
    replace BT := Lib.hid (BT.out.trans (hb.mono BT.out.size))
    clear hb
    clear R_t
    go_wp2_with fail
    refine (HK.out _ R_p.out).mono ?_
    rintro e w7 ⟨a_k, c_k, rfl, ho, hb⟩
    replace R_p := Lib.hid (R_p.out.below hb)
    replace R_o := Lib.hid (R_o.out.below hb)
    replace BT := Lib.hid (BT.out.trans (hb.mono BT.out.size))
    have R_k := Lib.hid ho.row
    clear ho
    clear HK
    clear hb
    have HQ := Lib.hid (ihull_any _ (backL p) _ R_k.out hlB)
    rw [hV2] at HQ
    clear hV2
    go_wp2_with fail
    refine (HQ.out).mono ?_
    rintro e w8 ⟨a_q, c_q, rfl, ho, hb⟩
    replace R_p := Lib.hid (R_p.out.below hb)
    replace R_o := Lib.hid (R_o.out.below hb)
    replace R_k := Lib.hid (R_k.out.below hb)
    replace BT := Lib.hid (BT.out.trans (hb.mono BT.out.size))
    have R_q := Lib.hid ho.row
    clear ho
    clear HQ
    clear hb
    clear R_k
    have n1 := HN.out.2.1
    have n2 := HN.out.len
    have hqe := HB.out.1
    rw [hqe] at R_q ⊢
    clear hqe x1
    obtain ⟨-, hcc⟩ := R_p.out.cells
    obtain ⟨b1, o1, rfl, hc0⟩ := hcc 0 (by omega)
    have lt_p := World.block_lt_of_cell? _ _ hc0
    have CP := Lib.hid (show ∀ j, j < p.length → w8.cell? ⟨b1, o1 + j, none⟩ = some (.int .i64 (p.getD j 0)) from fun j hj => by
      obtain ⟨b', o', e, h⟩ := hcc j hj
      simp only [Option.some.injEq, Addr.mk.injEq, and_true] at e
      obtain ⟨rfl, rfl⟩ := e
      exact h)
    clear hcc hc0
    have hlo2 := Lib.hid hlo
    obtain ⟨N, hNe⟩ : ∃ N, N = (hullL p).length := ⟨_, rfl⟩
    have HBe2 := Lib.hid HB.out.2
    rw [← hNe] at R_o R_q HBe2 HP hlo n1 n2 ⊢
    clear hNe HB HN
    go_wp2
    go_loopw [15] (fun i wr => ∃ m : Nat, m ≤ N ∧ i = .int .i64 m ∧ Below w8.heap.size w8 wr) (fun  i _ => N - (intOf i).toNat)
    case atStart => exact ⟨0, by omega, rfl, Below.refl _ _⟩
    case round =>
      obtain ⟨m, hm, rfl, hb⟩ := hrel
      have HBe := Lib.hid hb
      clear hb
      replace R_p := Lib.hid (R_p.out.below HBe.out)
      replace R_o := Lib.hid (R_o.out.below HBe.out)
      replace R_q := Lib.hid (R_q.out.below HBe.out)
      replace BT := Lib.hid (BT.out.trans ((HBe.out).mono BT.out.size))
      by_cases hlt : m < N
      · obtain ⟨-, hco⟩ := R_o.out.cells
        obtain ⟨b2, o2, rfl, ko⟩ := hco m hlt
        obtain ⟨-, hcq⟩ := R_q.out.cells
        obtain ⟨b3, o3, rfl, kq⟩ := hcq (N - 1 - m) (by omega)
        rw [HBe2.out m hlt] at kq
        obtain ⟨a, ha1, -, ha2⟩ := HP.out m hlt
        rw [ha2] at ko kq
        clear ha2 hco hcq
        have c0 : ((N : Int) != (N : Int)) = false := by simp
        have c1 : ((p.length : Int) - 1 - (a : Int) != (p.length : Int) - 1 - (a : Int)) = false := by simp
        have w1 : IntKind.i64.wrap ((N : Int) - 1) = (N : Int) - 1 := IntWalk.i64_in _ (by omega)
        have w2 : IntKind.i64.wrap ((N : Int) - 1 - (m : Int)) = (N : Int) - 1 - (m : Int) := IntWalk.i64_in _ (by omega)
        have w3 : IntKind.i64.wrap ((p.length : Int) - 1) = (p.length : Int) - 1 := IntWalk.i64_in _ (by omega)
        have w4 : IntKind.i64.wrap ((p.length : Int) - 1 - (a : Int)) = (p.length : Int) - 1 - (a : Int) := IntWalk.i64_in _ (by omega)
        have w5 : ((N : Int) - 1 - (m : Int)).toNat = N - 1 - m := by omega
        have r1 : (0 : Int) ≤ (N : Int) - 1 - (m : Int) := by omega
        have r2 : (N : Int) - 1 - (m : Int) < (N : Int) := by omega
        have r3 : (0 : Int) ≤ (m : Int) := by omega
        have r4 : (m : Int) < (N : Int) := by omega
        go_wp2
        go_quiet (fail)
        clear w1 w2 w3 w4 w5
        go_wp2
        go_roundw
        case rel => exact ⟨m + 1, by omega, by go_num, below_drewN HBe.out _⟩
        case measure => simp [intOf]; omega
      · have hge : N ≤ m := by omega
        obtain ⟨J, hJ, hJ2⟩ : ∃ J : Nat, (J : Int) = (z1.length : Int) % (p.length : Int) ∧ J < p.length := ⟨z1.length % p.length, by omega, Nat.mod_lt _ (by omega)⟩
        have q0 : (1 : Int) ≤ (p.length : Int) := by omega
        go_upto_region 17 with (fail)
        rw [← hJ]
        clear hJ hge hlt
        have hX := HH.out J
        obtain ⟨X, hXe⟩ : ∃ X, X = p.getD J 0 := ⟨_, rfl⟩
        rw [← hXe] at hX
        obtain ⟨hX0, hX1⟩ := hX
        have HX := Lib.hid hXe
        have HS := Lib.hid (HL.out J hJ2)
        rw [← hXe] at HS
        clear hXe HL
        have q1 : (0 : Int) ≤ (J : Int) := by omega
        have q2 : (J : Int) < (p.length : Int) := by omega
        have OA9 := Lib.hid (Own.emptyLit wr _ (Nat.le_refl wr.heap.size))
        have BA9 := Lib.hid (Below.alloc (Below.refl wr.heap.size wr) (Nat.le_refl _) (.cells #[] 3))
        have hs9 := BA9.out.size
        have CA9 := Lib.hid (show ∀ j, j < p.length → (wr.alloc (.cells #[] 3)).cell? ⟨b1, o1 + j, none⟩ = some (.int .i64 (p.getD j 0)) from fun j hj => (((HBe.out).trans (BA9.out.mono (HBe.out).size)).cell (p := ⟨b1, o1 + j, none⟩) lt_p).trans (CP.out j hj))
        have tok9 : True := trivial
        go_upto_region 19 with (first | (have _t := tok9; at_builtin; refine appN (by rfl) _ _ (by rfl) wr.heap.size _ [] p b1 o1 p.length c_p (by rfl) (by rfl) rfl CA9.out OA9.out hs9 (by simp; omega) ?_; intro v v9w ho hg; (have HO9 := Lib.hid (show Own v9w wr.heap.size v p from ho)); (have B59 := Lib.hid (below_own BA9.out OA9.out hs9 hg)); clear ho hg; obtain ⟨g_u, c_u, rfl, hg19, hg29, -, -⟩ := HO9.out.form (by omega); (have k59 := HO9.out.cellAt J hJ2); (have f59 := HO9.out.frozenAt J); rw [← HX.out] at k59; clear tok9))
        obtain ⟨w9, hW⟩ : ∃ W2, W2 = v9w.setCell ⟨g_u, J, none⟩ (.int .i64 (X - 1)) := ⟨_, rfl⟩
        rw [← hW]
        have hsz : w9.heap.size = v9w.heap.size := by rw [hW]; simp
        try rw [← hsz]
        have R_u := Lib.hid (show Row w9 (.slice (some ⟨g_u, 0, none⟩) p.length c_u) (p.set J (X - 1)) by rw [hW]; exact (HO9.out.store J (X - 1)).1.row)
        have hb := (show Below wr.heap.size wr w9 by rw [hW]; exact B59.out.setCell (p := ⟨g_u, J, none⟩) hg19 _)
        clear hW hsz OA9 BA9 CA9 HO9 B59 hs9 hg19 hg29 k59 f59
        replace R_p := Lib.hid (R_p.out.below hb)
        replace R_o := Lib.hid (R_o.out.below hb)
        replace R_q := Lib.hid (R_q.out.below hb)
        replace BT := Lib.hid (BT.out.trans (hb.mono BT.out.size))
        replace HBe := Lib.hid (HBe.out.trans (hb.mono HBe.out.size))
        have hlu : (p.set J (X - 1)).length ≤ 1099511627776 := by rw [set_len]; omega
        have hlu2 : (hullL (p.set J (X - 1))).length ≤ 1099511627776 := by have := hullL_len (p.set J (X - 1)) (by rw [set_len]; omega); omega
        have HU := Lib.hid (ihull_any _ (p.set J (X - 1)) _ R_u.out hlu)
        go_wp2_with fail
        refine (HU.out).mono ?_
        rintro e w10 ⟨a_g, c_g, rfl, ho, hb⟩
        replace R_p := Lib.hid (R_p.out.below hb)
        replace R_o := Lib.hid (R_o.out.below hb)
        replace R_q := Lib.hid (R_q.out.below hb)
        replace R_u := Lib.hid (R_u.out.below hb)
        replace BT := Lib.hid (BT.out.trans (hb.mono BT.out.size))
        replace HBe := Lib.hid (HBe.out.trans (hb.mono HBe.out.size))
        have R_g := Lib.hid ho.row
        clear ho
        clear HU
        clear hb
        have HA := Lib.hid (has_any _ (hullL p) (J : Int) _ R_o.out hlo2.out)
        by_cases hmem : (J : Int) ∈ hullL p
        · rw [decide_eq_true hmem] at HA
          clear hmem
          go_wp2_with fail
          refine (calls_same HA.out).mono ?_
          rintro e w11 ⟨rfl, hb⟩
          replace R_p := Lib.hid (R_p.out.below hb)
          replace R_o := Lib.hid (R_o.out.below hb)
          replace R_q := Lib.hid (R_q.out.below hb)
          replace R_u := Lib.hid (R_u.out.below hb)
          replace R_g := Lib.hid (R_g.out.below hb)
          replace BT := Lib.hid (BT.out.trans (hb.mono BT.out.size))
          replace HBe := Lib.hid (HBe.out.trans (hb.mono HBe.out.size))
          clear hb
          go_wp2
          go_ret
          exact ⟨rfl, BT.out⟩
        · have HM := Lib.hid hmem
          rw [decide_eq_false hmem] at HA
          clear hmem
          go_wp2_with fail
          refine (calls_same HA.out).mono ?_
          rintro e w12 ⟨rfl, hb⟩
          replace R_p := Lib.hid (R_p.out.below hb)
          replace R_o := Lib.hid (R_o.out.below hb)
          replace R_q := Lib.hid (R_q.out.below hb)
          replace R_u := Lib.hid (R_u.out.below hb)
          replace R_g := Lib.hid (R_g.out.below hb)
          replace BT := Lib.hid (BT.out.trans (hb.mono BT.out.size))
          replace HBe := Lib.hid (HBe.out.trans (hb.mono HBe.out.size))
          clear hb
          cases hVx : validB (p.set J (X - 1))
          · clear hVx
            go_wp2
            go_ret
            exact ⟨rfl, BT.out⟩
          · have hE := HS.out HM.out hVx
            clear hVx
            have x2 : decide (hullL (p.set J (X - 1)) = hullL p) = true := by rw [decide_eq_true_iff]; exact hE
            have HZ := Lib.hid (same_any _ _ (hullL (p.set J (X - 1))) (hullL p) _ R_g.out R_o.out hlu2 hlo2.out)
            rw [x2] at HZ
            clear hE x2
            go_wp2_with fail
            refine (calls_below HZ.out).mono ?_
            rintro e w13 ⟨rfl, hb⟩
            replace R_p := Lib.hid (R_p.out.below hb)
            replace R_o := Lib.hid (R_o.out.below hb)
            replace R_q := Lib.hid (R_q.out.below hb)
            replace R_u := Lib.hid (R_u.out.below hb)
            replace R_g := Lib.hid (R_g.out.below hb)
            replace BT := Lib.hid (BT.out.trans (hb.mono BT.out.size))
            replace HBe := Lib.hid (HBe.out.trans (hb.mono HBe.out.size))
            clear hb
            go_wp2
            go_ret
            exact ⟨rfl, BT.out⟩

end Go.Proofs.Ytbehpooapnjpeaa
