/- Walk of the law FnSees: who is seen sees. -/
import Derived.Deep.Cut
import Derived.Test.YtbehpooapnjpeaaDProf2
import Derived.Test.YtbehpooapnjpeaaApp
import Derived.Test.YtbehpooapnjpeaaSees
import Derived.Test.YtbehpooapnjpeaaBack
import Derived.Test.YtbehpooapnjpeaaPlainV
namespace Go.Proofs.Ytbehpooapnjpeaa
open Go.RowKit

set_option maxRecDepth 100000 in
set_option maxHeartbeats 4000000 in
theorem fnSees_walk (w : World) (v0 : Value) (z0 : List Int) (hr0 : RowB w v0 z0) (_hm0 : z0.length ≤ maxLen) (hf0 : ∀ n ∈ z0, (Lit.int .u8 n).wf = true) :
    Calls Try.prog 5 #[v0] w fun e w' => e = .returned (.bool true) ∧ Below w.heap.size w w' := by
  have HDr := Lib.hid (dProfileSees_any v0 z0 w hr0 hf0)
  obtain ⟨a0, cap0, rfl, -, -, -⟩ := hr0
  clear _hm0 hf0
  by_cases hbig : 1048576 < z0.length
  · go_enter Try.func5, Try.ntmps5
    go_wp2
    go_ret
    exact ⟨rfl, Below.refl _ _⟩
  go_enter Try.func5, Try.ntmps5
  have BT := Lib.hid (Below.refl w.heap.size w)
  go_wp2_with fail
  refine HDr.out.mono ?_
  rintro e w1 ⟨p, a_p, c_p, x, y, rfl, hlp, hR_p, hx0, hx1, hy0, hy1, hb⟩
  have R_p := Lib.hid hR_p
  replace BT := Lib.hid (BT.out.trans (hb.mono BT.out.size))
  clear hR_p hb HDr
  go_wp2_with fail
  refine (isees3_any _ p x y _ R_p.out (by omega)).mono ?_
  rintro e w2 ⟨rfl, hb⟩
  replace R_p := Lib.hid (R_p.out.below hb)
  replace BT := Lib.hid (BT.out.trans (hb.mono BT.out.size))
  clear hb
  go_wp2_with fail
  refine (ssees3_any _ p x y _ R_p.out (by omega)).mono ?_
  rintro e w3 ⟨rfl, hb⟩
  replace R_p := Lib.hid (R_p.out.below hb)
  replace BT := Lib.hid (BT.out.trans (hb.mono BT.out.size))
  clear hb
  cases hT : sees3B p x y
  · clear hT
    go_wp2
    go_ret
    exact ⟨rfl, BT.out⟩
  · have HT := Lib.hid hT
    have hf := sees3_iff.1 hT
    obtain ⟨hv, x0, x1, y0, y1, -⟩ := hf
    have hb2 := sees_back hT
    obtain ⟨s1, s2⟩ := hb2
    have HL := Lib.hid (fun j h1 h2 h0 => sees_low hT (j := j) h1 h2 h0)
    have HH := Lib.hid (valid_ht' hv)
    have hlB : (backL p).length ≤ 1099511627776 := by have := backL_len p (by omega); omega
    have HK := Lib.hid (iback_any _ p _ R_p.out (by omega))
    rw [hv] at HK
    clear hv hT
    go_wp2_with fail
    refine (HK.out).mono ?_
    rintro e w4 ⟨a_k, c_k, rfl, ho, hb⟩
    replace R_p := Lib.hid (R_p.out.below hb)
    replace BT := Lib.hid (BT.out.trans (hb.mono BT.out.size))
    have R_k := Lib.hid ho.row
    clear ho
    clear HK
    clear hb
    have H1 := Lib.hid (isees3_any _ p y x _ R_p.out (by omega))
    rw [s1] at H1
    clear s1
    go_wp2_with fail
    refine (H1.out).mono ?_
    rintro e w5 ⟨rfl, hb⟩
    replace R_p := Lib.hid (R_p.out.below hb)
    replace R_k := Lib.hid (R_k.out.below hb)
    replace BT := Lib.hid (BT.out.trans (hb.mono BT.out.size))
    clear H1
    clear hb
    have H2 := Lib.hid (isees3_any _ (backL p) ((p.length : Int) - 1 - x) ((p.length : Int) - 1 - y) _ R_k.out hlB)
    rw [s2] at H2
    clear s2
    go_wp2_with fail
    refine (H2.out).mono ?_
    rintro e w6 ⟨rfl, hb⟩
    replace R_p := Lib.hid (R_p.out.below hb)
    replace R_k := Lib.hid (R_k.out.below hb)
    replace BT := Lib.hid (BT.out.trans (hb.mono BT.out.size))
    clear H2
    clear hb
    clear R_k
    obtain ⟨-, hcc⟩ := R_p.out.cells
    obtain ⟨b1, o1, rfl, hc0⟩ := hcc 0 (by omega)
    have lt_p := World.block_lt_of_cell? _ _ hc0
    have CP := Lib.hid (show ∀ j, j < p.length → w6.cell? ⟨b1, o1 + j, none⟩ = some (.int .i64 (p.getD j 0)) from fun j hj => by
      obtain ⟨b', o', e, h⟩ := hcc j hj
      simp only [Option.some.injEq, Addr.mk.injEq, and_true] at e
      obtain ⟨rfl, rfl⟩ := e
      exact h)
    clear hcc hc0
    by_cases hxy : x ≤ y
    · have hmin : min x y = x := by omega
      have hmax : max x y = y := by omega
      clear hmin hmax
      go_wp2
      go_loopw [11] (fun i wr => ∃ j : Nat, x + 1 ≤ (j : Int) ∧ (j : Int) ≤ 20 ∧ i = .int .i64 j ∧ Below w6.heap.size w6 wr) (fun  i _ => (y - intOf i).toNat)
      case atStart => exact ⟨(x + 1).toNat, by omega, by omega, by rw [Int.toNat_of_nonneg (by omega)], Below.refl _ _⟩
      case round =>
        obtain ⟨j, hj0, hj1, rfl, hb⟩ := hrel
        have HBe := Lib.hid hb
        clear hb
        replace R_p := Lib.hid (R_p.out.below HBe.out)
        replace BT := Lib.hid (BT.out.trans ((HBe.out).mono BT.out.size))
        by_cases hlt : (j : Int) < y
        · have hjn : j < p.length := by omega
          have hX := HH.out j
          obtain ⟨X, hXe⟩ : ∃ X, X = p.getD j 0 := ⟨_, rfl⟩
          rw [← hXe] at hX
          obtain ⟨hX0, hX1⟩ := hX
          have HX := Lib.hid hXe
          have HS := Lib.hid (HL.out j (by omega) (by omega))
          rw [← hXe] at HS
          clear hXe
          have q1 : (0 : Int) ≤ (j : Int) := by omega
          have q2 : (j : Int) < (p.length : Int) := by omega
          have OA7 := Lib.hid (Own.emptyLit wr _ (Nat.le_refl wr.heap.size))
          have BA7 := Lib.hid (Below.alloc (Below.refl wr.heap.size wr) (Nat.le_refl _) (.cells #[] 3))
          have hs7 := BA7.out.size
          have CA7 := Lib.hid (show ∀ j, j < p.length → (wr.alloc (.cells #[] 3)).cell? ⟨b1, o1 + j, none⟩ = some (.int .i64 (p.getD j 0)) from fun j hj => (((HBe.out).trans (BA7.out.mono (HBe.out).size)).cell (p := ⟨b1, o1 + j, none⟩) lt_p).trans (CP.out j hj))
          have tok7 : True := trivial
          go_upto_region 17 with (first | (have _t := tok7; at_builtin; refine appN (by rfl) _ _ (by rfl) wr.heap.size _ [] p b1 o1 p.length c_p (by rfl) (by rfl) rfl CA7.out OA7.out hs7 (by simp; omega) ?_; intro v v7w ho hg; (have HO7 := Lib.hid (show Own v7w wr.heap.size v p from ho)); (have B57 := Lib.hid (below_own BA7.out OA7.out hs7 hg)); clear ho hg; obtain ⟨g_u, c_u, rfl, hg17, hg27, -, -⟩ := HO7.out.form (by omega); (have k57 := HO7.out.cellAt j hjn); (have f57 := HO7.out.frozenAt j); rw [← HX.out] at k57; clear tok7))
          obtain ⟨w7, hW⟩ : ∃ W2, W2 = v7w.setCell ⟨g_u, j, none⟩ (.int .i64 (X - 1)) := ⟨_, rfl⟩
          rw [← hW]
          have hsz : w7.heap.size = v7w.heap.size := by rw [hW]; simp
          try rw [← hsz]
          have R_u := Lib.hid (show Row w7 (.slice (some ⟨g_u, 0, none⟩) p.length c_u) (p.set j (X - 1)) by rw [hW]; exact (HO7.out.store j (X - 1)).1.row)
          have hb := (show Below wr.heap.size wr w7 by rw [hW]; exact B57.out.setCell (p := ⟨g_u, j, none⟩) hg17 _)
          clear hW hsz OA7 BA7 CA7 HO7 B57 hs7 hg17 hg27 k57 f57
          replace R_p := Lib.hid (R_p.out.below hb)
          replace BT := Lib.hid (BT.out.trans (hb.mono BT.out.size))
          replace HBe := Lib.hid (HBe.out.trans (hb.mono HBe.out.size))
          obtain ⟨-, hcu⟩ := R_u.out.cells
          obtain ⟨b5, o5, e5, ku⟩ := hcu j (by omega)
          simp only [Option.some.injEq, Addr.mk.injEq, and_true] at e5
          obtain ⟨rfl, rfl⟩ := e5
          rw [Nat.zero_add, set_at, if_pos ⟨rfl, hjn⟩] at ku
          clear hcu
          have hlu : (p.set j (X - 1)).length ≤ 1099511627776 := by rw [set_len]; omega
          by_cases h0 : 0 ≤ X - 1
          · have c1 : decide (0 ≤ X - 1) = true := by simp; omega
            have H3 := Lib.hid (isees3_any _ (p.set j (X - 1)) x y _ R_u.out hlu)
            rw [HS.out h0] at H3
            skip
            go_wp2_with fail
            refine (H3.out).mono ?_
            rintro e w8 ⟨rfl, hb⟩
            replace R_p := Lib.hid (R_p.out.below hb)
            replace R_u := Lib.hid (R_u.out.below hb)
            replace BT := Lib.hid (BT.out.trans (hb.mono BT.out.size))
            replace HBe := Lib.hid (HBe.out.trans (hb.mono HBe.out.size))
            clear hb
            go_wp2
            go_roundw
            case rel => exact ⟨j + 1, by omega, by omega, by go_num, HBe.out⟩
            case measure => simp [intOf]; omega
          · have c1 : decide (0 ≤ X - 1) = false := by simp; omega
            go_wp2
            go_roundw
            case rel => exact ⟨j + 1, by omega, by omega, by go_num, HBe.out⟩
            case measure => simp [intOf]; omega
        · have hge : y ≤ (j : Int) := by omega
          go_wp2
          all_goals (go_ret; exact ⟨rfl, BT.out⟩)
    · have hyx : y < x := by omega
      have hyx2 : y ≤ x := by omega
      go_wp2
      go_loopw [11] (fun i wr => ∃ j : Nat, y + 1 ≤ (j : Int) ∧ (j : Int) ≤ 20 ∧ i = .int .i64 j ∧ Below w6.heap.size w6 wr) (fun  i _ => (x - intOf i).toNat)
      case atStart => exact ⟨(y + 1).toNat, by omega, by omega, by rw [Int.toNat_of_nonneg (by omega)], Below.refl _ _⟩
      case round =>
        obtain ⟨j, hj0, hj1, rfl, hb⟩ := hrel
        have HBe := Lib.hid hb
        clear hb
        replace R_p := Lib.hid (R_p.out.below HBe.out)
        replace BT := Lib.hid (BT.out.trans ((HBe.out).mono BT.out.size))
        by_cases hlt : (j : Int) < x
        · have hjn : j < p.length := by omega
          have hX := HH.out j
          obtain ⟨X, hXe⟩ : ∃ X, X = p.getD j 0 := ⟨_, rfl⟩
          rw [← hXe] at hX
          obtain ⟨hX0, hX1⟩ := hX
          have HX := Lib.hid hXe
          have HS := Lib.hid (HL.out j (by omega) (by omega))
          rw [← hXe] at HS
          clear hXe
          have q1 : (0 : Int) ≤ (j : Int) := by omega
          have q2 : (j : Int) < (p.length : Int) := by omega
          have OA9 := Lib.hid (Own.emptyLit wr _ (Nat.le_refl wr.heap.size))
          have BA9 := Lib.hid (Below.alloc (Below.refl wr.heap.size wr) (Nat.le_refl _) (.cells #[] 3))
          have hs9 := BA9.out.size
          have CA9 := Lib.hid (show ∀ j, j < p.length → (wr.alloc (.cells #[] 3)).cell? ⟨b1, o1 + j, none⟩ = some (.int .i64 (p.getD j 0)) from fun j hj => (((HBe.out).trans (BA9.out.mono (HBe.out).size)).cell (p := ⟨b1, o1 + j, none⟩) lt_p).trans (CP.out j hj))
          have tok9 : True := trivial
          go_upto_region 17 with (first | (have _t := tok9; at_builtin; refine appN (by rfl) _ _ (by rfl) wr.heap.size _ [] p b1 o1 p.length c_p (by rfl) (by rfl) rfl CA9.out OA9.out hs9 (by simp; omega) ?_; intro v v9w ho hg; (have HO9 := Lib.hid (show Own v9w wr.heap.size v p from ho)); (have B59 := Lib.hid (below_own BA9.out OA9.out hs9 hg)); clear ho hg; obtain ⟨g_u, c_u, rfl, hg19, hg29, -, -⟩ := HO9.out.form (by omega); (have k59 := HO9.out.cellAt j hjn); (have f59 := HO9.out.frozenAt j); rw [← HX.out] at k59; clear tok9))
          obtain ⟨w9, hW⟩ : ∃ W2, W2 = v9w.setCell ⟨g_u, j, none⟩ (.int .i64 (X - 1)) := ⟨_, rfl⟩
          rw [← hW]
          have hsz : w9.heap.size = v9w.heap.size := by rw [hW]; simp
          try rw [← hsz]
          have R_u := Lib.hid (show Row w9 (.slice (some ⟨g_u, 0, none⟩) p.length c_u) (p.set j (X - 1)) by rw [hW]; exact (HO9.out.store j (X - 1)).1.row)
          have hb := (show Below wr.heap.size wr w9 by rw [hW]; exact B59.out.setCell (p := ⟨g_u, j, none⟩) hg19 _)
          clear hW hsz OA9 BA9 CA9 HO9 B59 hs9 hg19 hg29 k59 f59
          replace R_p := Lib.hid (R_p.out.below hb)
          replace BT := Lib.hid (BT.out.trans (hb.mono BT.out.size))
          replace HBe := Lib.hid (HBe.out.trans (hb.mono HBe.out.size))
          obtain ⟨-, hcu⟩ := R_u.out.cells
          obtain ⟨b5, o5, e5, ku⟩ := hcu j (by omega)
          simp only [Option.some.injEq, Addr.mk.injEq, and_true] at e5
          obtain ⟨rfl, rfl⟩ := e5
          rw [Nat.zero_add, set_at, if_pos ⟨rfl, hjn⟩] at ku
          clear hcu
          have hlu : (p.set j (X - 1)).length ≤ 1099511627776 := by rw [set_len]; omega
          by_cases h0 : 0 ≤ X - 1
          · have c1 : decide (0 ≤ X - 1) = true := by simp; omega
            have H3 := Lib.hid (isees3_any _ (p.set j (X - 1)) x y _ R_u.out hlu)
            rw [HS.out h0] at H3
            skip
            go_wp2_with fail
            refine (H3.out).mono ?_
            rintro e w10 ⟨rfl, hb⟩
            replace R_p := Lib.hid (R_p.out.below hb)
            replace R_u := Lib.hid (R_u.out.below hb)
            replace BT := Lib.hid (BT.out.trans (hb.mono BT.out.size))
            replace HBe := Lib.hid (HBe.out.trans (hb.mono HBe.out.size))
            clear hb
            go_wp2
            go_roundw
            case rel => exact ⟨j + 1, by omega, by omega, by go_num, HBe.out⟩
            case measure => simp [intOf]; omega
          · have c1 : decide (0 ≤ X - 1) = false := by simp; omega
            go_wp2
            go_roundw
            case rel => exact ⟨j + 1, by omega, by omega, by go_num, HBe.out⟩
            case measure => simp [intOf]; omega
        · have hge : x ≤ (j : Int) := by omega
          go_wp2
          all_goals (go_ret; exact ⟨rfl, BT.out⟩)

end Go.Proofs.Ytbehpooapnjpeaa
