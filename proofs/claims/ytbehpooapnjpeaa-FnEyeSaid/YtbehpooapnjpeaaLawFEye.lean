/- Walk of the law FnEye: a high eye sees more. -/
import Derived.Deep.Cut
import Derived.Test.YtbehpooapnjpeaaDProf2
import Derived.Test.YtbehpooapnjpeaaApp
import Derived.Test.YtbehpooapnjpeaaSees
import Derived.Test.YtbehpooapnjpeaaEye
import Derived.Test.YtbehpooapnjpeaaPlainV
namespace Go.Proofs.Ytbehpooapnjpeaa
open Go.RowKit

set_option maxRecDepth 100000 in
set_option maxHeartbeats 4000000 in
theorem fnEye_walk (w : World) (v0 : Value) (z0 : List Int) (hr0 : RowB w v0 z0) (_hm0 : z0.length ≤ maxLen) (hf0 : ∀ n ∈ z0, (Lit.int .u8 n).wf = true) :
    Calls Try.prog 6 #[v0] w fun e w' => e = .returned (.bool true) ∧ Below w.heap.size w w' := by
  have HDr := Lib.hid (dProfileEye_any v0 z0 w hr0 hf0)
  obtain ⟨a0, cap0, rfl, -, -, -⟩ := hr0
  clear _hm0 hf0
  by_cases hbig : 1048576 < z0.length
  · go_enter Try.func6, Try.ntmps6
    go_wp2
    go_ret
    exact ⟨rfl, Below.refl _ _⟩
  go_enter Try.func6, Try.ntmps6
  have BT := Lib.hid (Below.refl w.heap.size w)
  go_wp2_with fail
  refine HDr.out.mono ?_
  rintro e w1 ⟨p, a_p, c_p, x, y, rfl, hlp, hR_p, hx0, hx1, hy0, hy1, hb⟩
  have R_p := Lib.hid hR_p
  replace BT := Lib.hid (BT.out.trans (hb.mono BT.out.size))
  clear hR_p hb HDr
  go_wp2_with fail
  refine (ieye_any _ p x y _ R_p.out (by omega)).mono ?_
  rintro e w2 ⟨rfl, hb⟩
  replace R_p := Lib.hid (R_p.out.below hb)
  replace BT := Lib.hid (BT.out.trans (hb.mono BT.out.size))
  clear hb
  go_wp2_with fail
  refine (seye_any _ p x y _ R_p.out (by omega)).mono ?_
  rintro e w3 ⟨rfl, hb⟩
  replace R_p := Lib.hid (R_p.out.below hb)
  replace BT := Lib.hid (BT.out.trans (hb.mono BT.out.size))
  clear hb
  by_cases hneg : eyeV p x y < 0
  · have b0 : decide (eyeV p x y < 0) = true := by simp; exact hneg
    obtain ⟨E, hE⟩ : ∃ E, E = eyeV p x y := ⟨_, rfl⟩
    rw [← hE] at hneg b0 ⊢
    clear hE
    go_wp2
    go_ret
    exact ⟨rfl, BT.out⟩
  · have hpos : 0 ≤ eyeV p x y := by omega
    have HZ := Lib.hid (eye_zero hpos)
    have HS := Lib.hid (show x = y → eyeV p x y = 0 from fun h => by subst h; exact eye_self hpos)
    have HU := Lib.hid (fun h => eye_up (p := p) (i := x) (k := y) hpos h)
    have HD := Lib.hid (fun h => eye_down (p := p) (i := x) (k := y) hpos h)
    obtain ⟨I, K, rfl, rfl, hI, hK, hv, hE50, -, -⟩ := eye_laws hpos
    have hX := valid_ht' hv I
    simp only [Int.toNat_natCast] at HU HD
    obtain ⟨X, hXe⟩ : ∃ X, X = p.getD I 0 := ⟨_, rfl⟩
    rw [← hXe] at hX HU HD
    have HX := Lib.hid hXe
    obtain ⟨hX0, hX1⟩ := hX
    obtain ⟨E, hE⟩ : ∃ E, E = eyeV p (I : Int) (K : Int) := ⟨_, rfl⟩
    rw [← hE] at hpos hE50 HZ HS HU HD ⊢
    clear hE hXe hv hneg
    have b0 : decide (E < 0) = false := by simp; omega
    have q1 : (0 : Int) ≤ (I : Int) := by omega
    have q2 : (I : Int) < (p.length : Int) := by omega
    obtain ⟨-, hcc⟩ := R_p.out.cells
    obtain ⟨b1, o1, rfl, hc0⟩ := hcc 0 (by omega)
    have lt_p := World.block_lt_of_cell? _ _ hc0
    have CP := Lib.hid (show ∀ j, j < p.length → w3.cell? ⟨b1, o1 + j, none⟩ = some (.int .i64 (p.getD j 0)) from fun j hj => by
      obtain ⟨b', o', e, h⟩ := hcc j hj
      simp only [Option.some.injEq, Addr.mk.injEq, and_true] at e
      obtain ⟨rfl, rfl⟩ := e
      exact h)
    clear hcc hc0
    have B0 := Lib.hid (Below.refl w3.heap.size w3)
    have OA4 := Lib.hid (Own.emptyLit w3 _ (Nat.le_refl w3.heap.size))
    have BA4 := Lib.hid (Below.alloc (Below.refl w3.heap.size w3) (Nat.le_refl _) (.cells #[] 3))
    have hs4 := BA4.out.size
    have CA4 := Lib.hid (show ∀ j, j < p.length → (w3.alloc (.cells #[] 3)).cell? ⟨b1, o1 + j, none⟩ = some (.int .i64 (p.getD j 0)) from fun j hj => (((B0.out).trans (BA4.out.mono (B0.out).size)).cell (p := ⟨b1, o1 + j, none⟩) lt_p).trans (CP.out j hj))
    have tok4 : True := trivial
    go_upto_region 10 with (first | (have _t := tok4; at_builtin; refine appN (by rfl) _ _ (by rfl) w3.heap.size _ [] p b1 o1 p.length c_p (by rfl) (by rfl) rfl CA4.out OA4.out hs4 (by simp; omega) ?_; intro v v4w ho hg; (have HO4 := Lib.hid (show Own v4w w3.heap.size v p from ho)); (have B54 := Lib.hid (below_own BA4.out OA4.out hs4 hg)); clear ho hg; obtain ⟨g_u, c_u, rfl, hg14, hg24, -, -⟩ := HO4.out.form (by omega); (have k54 := HO4.out.cellAt I hI); (have f54 := HO4.out.frozenAt I); rw [← HX.out] at k54; clear tok4))
    obtain ⟨w4, hW⟩ : ∃ W2, W2 = v4w.setCell ⟨g_u, I, none⟩ (.int .i64 (X + E)) := ⟨_, rfl⟩
    rw [← hW]
    have hsz : w4.heap.size = v4w.heap.size := by rw [hW]; simp
    try rw [← hsz]
    have R_u := Lib.hid (show Row w4 (.slice (some ⟨g_u, 0, none⟩) p.length c_u) (p.set I (X + E)) by rw [hW]; exact (HO4.out.store I (X + E)).1.row)
    have hb := (show Below w3.heap.size w3 w4 by rw [hW]; exact B54.out.setCell (p := ⟨g_u, I, none⟩) hg14 _)
    clear hW hsz OA4 BA4 CA4 HO4 B54 hs4 hg14 hg24 k54 f54
    replace R_p := Lib.hid (R_p.out.below hb)
    replace BT := Lib.hid (BT.out.trans (hb.mono BT.out.size))
    replace B0 := Lib.hid (B0.out.trans (hb.mono B0.out.size))
    have OA5 := Lib.hid (Own.emptyLit w4 _ (Nat.le_refl w4.heap.size))
    have BA5 := Lib.hid (Below.alloc (Below.refl w4.heap.size w4) (Nat.le_refl _) (.cells #[] 3))
    have hs5 := BA5.out.size
    have CA5 := Lib.hid (show ∀ j, j < p.length → (w4.alloc (.cells #[] 3)).cell? ⟨b1, o1 + j, none⟩ = some (.int .i64 (p.getD j 0)) from fun j hj => (((B0.out).trans (BA5.out.mono (B0.out).size)).cell (p := ⟨b1, o1 + j, none⟩) lt_p).trans (CP.out j hj))
    have tok5 : True := trivial
    go_upto_region 12 with (first | (have _t := tok5; at_builtin; refine appN (by rfl) _ _ (by rfl) w4.heap.size _ [] p b1 o1 p.length c_p (by rfl) (by rfl) rfl CA5.out OA5.out hs5 (by simp; omega) ?_; intro v v5w ho hg; (have HO5 := Lib.hid (show Own v5w w4.heap.size v p from ho)); (have B55 := Lib.hid (below_own BA5.out OA5.out hs5 hg)); clear ho hg; obtain ⟨g_v, c_v, rfl, hg15, hg25, -, -⟩ := HO5.out.form (by omega); (have k55 := HO5.out.cellAt I hI); (have f55 := HO5.out.frozenAt I); rw [← HX.out] at k55; clear tok5))
    obtain ⟨w5, hW⟩ : ∃ W2, W2 = v5w.setCell ⟨g_v, I, none⟩ (.int .i64 (X + E - 1)) := ⟨_, rfl⟩
    rw [← hW]
    have hsz : w5.heap.size = v5w.heap.size := by rw [hW]; simp
    try rw [← hsz]
    have R_v := Lib.hid (show Row w5 (.slice (some ⟨g_v, 0, none⟩) p.length c_v) (p.set I (X + E - 1)) by rw [hW]; exact (HO5.out.store I (X + E - 1)).1.row)
    have hb := (show Below w4.heap.size w4 w5 by rw [hW]; exact B55.out.setCell (p := ⟨g_v, I, none⟩) hg15 _)
    clear hW hsz OA5 BA5 CA5 HO5 B55 hs5 hg15 hg25 k55 f55
    replace R_p := Lib.hid (R_p.out.below hb)
    replace R_u := Lib.hid (R_u.out.below hb)
    replace BT := Lib.hid (BT.out.trans (hb.mono BT.out.size))
    replace B0 := Lib.hid (B0.out.trans (hb.mono B0.out.size))
    by_cases hik : (I : Int) = (K : Int)
    · have e0 := HS.out hik
      have e1 : ((I : Int) == (K : Int)) = true := by simp; omega
      have e2 : (E == 0) = true := by simp; omega
      clear hik e0 hE50 hpos
      go_wp2
      go_ret
      exact ⟨rfl, BT.out⟩
    · have e1 : ((I : Int) == (K : Int)) = false := by simp; omega
      have hlu : (p.set I (X + E)).length ≤ 1099511627776 := by rw [set_len]; omega
      have hlv : (p.set I (X + E - 1)).length ≤ 1099511627776 := by rw [set_len]; omega
      skip
      have HJ := Lib.hid (isees3_any _ p (I : Int) (K : Int) _ R_p.out (by omega))
      rw [← HZ.out] at HJ
      have HVu := Lib.hid (fun wx (h : Row wx (.slice (some ⟨g_u, 0, none⟩) p.length c_u) (p.set I (X + E))) => ivalid_any _ (p.set I (X + E)) wx h hlu)
      have HSu := Lib.hid (fun wx (h : Row wx (.slice (some ⟨g_u, 0, none⟩) p.length c_u) (p.set I (X + E))) => isees3_any _ (p.set I (X + E)) (I : Int) (K : Int) wx h hlu)
      have HSv := Lib.hid (fun wx (h : Row wx (.slice (some ⟨g_v, 0, none⟩) p.length c_v) (p.set I (X + E - 1))) => isees3_any _ (p.set I (X + E - 1)) (I : Int) (K : Int) wx h hlv)
      have HU2 := Lib.hid (HU.out hik)
      clear HU
      by_cases h0 : E = 0
      · have e2 : (E == 0) = true := by simp; omega
        have e3 : decide (E = 0) = true := by simp; omega
        rw [e3] at HJ
        clear e3 h0
        go_wp2_with fail
        refine (HJ.out).mono ?_
        rintro e w6 ⟨rfl, hb⟩
        replace R_p := Lib.hid (R_p.out.below hb)
        replace R_u := Lib.hid (R_u.out.below hb)
        replace R_v := Lib.hid (R_v.out.below hb)
        replace BT := Lib.hid (BT.out.trans (hb.mono BT.out.size))
        replace B0 := Lib.hid (B0.out.trans (hb.mono B0.out.size))
        clear hb
        cases hV : validB (p.set I (X + E))
        · have HV2 := Lib.hid (HVu.out _ R_u.out)
          rw [hV] at HV2
          clear hV
          go_wp2_with fail
          refine (calls_same HV2.out).mono ?_
          rintro e w7 ⟨rfl, hb⟩
          replace R_p := Lib.hid (R_p.out.below hb)
          replace R_u := Lib.hid (R_u.out.below hb)
          replace R_v := Lib.hid (R_v.out.below hb)
          replace BT := Lib.hid (BT.out.trans (hb.mono BT.out.size))
          replace B0 := Lib.hid (B0.out.trans (hb.mono B0.out.size))
          clear hb
          go_wp2
          go_ret
          exact ⟨rfl, BT.out⟩
        · have HV2 := Lib.hid (HVu.out _ R_u.out)
          rw [hV] at HV2
          have hS := HU2.out hV
          clear hV
          go_wp2_with fail
          refine (calls_same HV2.out).mono ?_
          rintro e w8 ⟨rfl, hb⟩
          replace R_p := Lib.hid (R_p.out.below hb)
          replace R_u := Lib.hid (R_u.out.below hb)
          replace R_v := Lib.hid (R_v.out.below hb)
          replace BT := Lib.hid (BT.out.trans (hb.mono BT.out.size))
          replace B0 := Lib.hid (B0.out.trans (hb.mono B0.out.size))
          clear hb
          have HW := Lib.hid (HSu.out _ R_u.out)
          rw [hS] at HW
          clear hS
          go_wp2_with fail
          refine (HW.out).mono ?_
          rintro e w9 ⟨rfl, hb⟩
          replace R_p := Lib.hid (R_p.out.below hb)
          replace R_u := Lib.hid (R_u.out.below hb)
          replace R_v := Lib.hid (R_v.out.below hb)
          replace BT := Lib.hid (BT.out.trans (hb.mono BT.out.size))
          replace B0 := Lib.hid (B0.out.trans (hb.mono B0.out.size))
          clear hb
          go_wp2
          go_ret
          exact ⟨rfl, BT.out⟩
      · have e2 : (E == 0) = false := by simp; omega
        have e3 : decide (E = 0) = false := by simp; omega
        rw [e3] at HJ
        have HD2 := Lib.hid (HD.out hik h0)
        clear e3 h0
        go_wp2_with fail
        refine (HJ.out).mono ?_
        rintro e w10 ⟨rfl, hb⟩
        replace R_p := Lib.hid (R_p.out.below hb)
        replace R_u := Lib.hid (R_u.out.below hb)
        replace R_v := Lib.hid (R_v.out.below hb)
        replace BT := Lib.hid (BT.out.trans (hb.mono BT.out.size))
        replace B0 := Lib.hid (B0.out.trans (hb.mono B0.out.size))
        clear hb
        cases hV : validB (p.set I (X + E))
        · have HV2 := Lib.hid (HVu.out _ R_u.out)
          rw [hV] at HV2
          clear hV
          go_wp2_with fail
          refine (calls_same HV2.out).mono ?_
          rintro e w11 ⟨rfl, hb⟩
          replace R_p := Lib.hid (R_p.out.below hb)
          replace R_u := Lib.hid (R_u.out.below hb)
          replace R_v := Lib.hid (R_v.out.below hb)
          replace BT := Lib.hid (BT.out.trans (hb.mono BT.out.size))
          replace B0 := Lib.hid (B0.out.trans (hb.mono B0.out.size))
          clear hb
          have HY := Lib.hid (HSv.out _ R_v.out)
          rw [HD2.out] at HY
          go_wp2_with fail
          refine (HY.out).mono ?_
          rintro e w12 ⟨rfl, hb⟩
          replace R_p := Lib.hid (R_p.out.below hb)
          replace R_u := Lib.hid (R_u.out.below hb)
          replace R_v := Lib.hid (R_v.out.below hb)
          replace BT := Lib.hid (BT.out.trans (hb.mono BT.out.size))
          replace B0 := Lib.hid (B0.out.trans (hb.mono B0.out.size))
          clear hb
          go_wp2
          go_ret
          exact ⟨rfl, BT.out⟩
        · have HV2 := Lib.hid (HVu.out _ R_u.out)
          rw [hV] at HV2
          have hS := HU2.out hV
          clear hV
          go_wp2_with fail
          refine (calls_same HV2.out).mono ?_
          rintro e w13 ⟨rfl, hb⟩
          replace R_p := Lib.hid (R_p.out.below hb)
          replace R_u := Lib.hid (R_u.out.below hb)
          replace R_v := Lib.hid (R_v.out.below hb)
          replace BT := Lib.hid (BT.out.trans (hb.mono BT.out.size))
          replace B0 := Lib.hid (B0.out.trans (hb.mono B0.out.size))
          clear hb
          have HW := Lib.hid (HSu.out _ R_u.out)
          rw [hS] at HW
          clear hS
          go_wp2_with fail
          refine (HW.out).mono ?_
          rintro e w14 ⟨rfl, hb⟩
          replace R_p := Lib.hid (R_p.out.below hb)
          replace R_u := Lib.hid (R_u.out.below hb)
          replace R_v := Lib.hid (R_v.out.below hb)
          replace BT := Lib.hid (BT.out.trans (hb.mono BT.out.size))
          replace B0 := Lib.hid (B0.out.trans (hb.mono B0.out.size))
          clear hb
          have HY := Lib.hid (HSv.out _ R_v.out)
          rw [HD2.out] at HY
          go_wp2_with fail
          refine (HY.out).mono ?_
          rintro e w15 ⟨rfl, hb⟩
          replace R_p := Lib.hid (R_p.out.below hb)
          replace R_u := Lib.hid (R_u.out.below hb)
          replace R_v := Lib.hid (R_v.out.below hb)
          replace BT := Lib.hid (BT.out.trans (hb.mono BT.out.size))
          replace B0 := Lib.hid (B0.out.trans (hb.mono B0.out.size))
          clear hb
          go_wp2
          go_ret
          exact ⟨rfl, BT.out⟩

end Go.Proofs.Ytbehpooapnjpeaa
