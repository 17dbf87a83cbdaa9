/- Walk of the law FnRow: rows are profiles. -/
import Derived.Test.YtjpcbegndnbeeaaGDraw2
import Derived.Test.YtjpcbegndnbeeaaIRow
import Derived.Test.YtjpcbegndnbeeaaIGrid
import Derived.Test.YtjpcbegndnbeeaaSame
import Derived.Test.YtjpcbegndnbeeaaBack
import Derived.Test.YtjpcbegndnbeeaaPlainB
import Derived.Test.YtjpcbegndnbeeaaPlainGM
namespace Go.Proofs.Ytjpcbegndnbeeaa
open Go.RowKit
set_option linter.unusedVariables false

set_option maxRecDepth 100000 in
set_option maxHeartbeats 4000000 in
theorem fnRow_walk (w : World) (v0 : Value) (z0 : List Int) (hr0 : RowB w v0 z0) (_hm0 : z0.length ≤ maxLen) (hf0 : ∀ n ∈ z0, (Lit.int .u8 n).wf = true) :
    Calls Try.prog 5 #[v0] w fun e w' => e = .returned (.bool true) ∧ Below w.heap.size w w' := by
  have HDr := Lib.hid (dProfileRow_any v0 z0 w hr0 hf0)
  obtain ⟨a0, cap0, rfl, -, -, -⟩ := hr0
  clear _hm0 hf0
  by_cases hbig : 1048576 < z0.length
  · go_enter Try.func5, Try.ntmps5
    go_wp2
    go_ret
    exact ⟨rfl, Below.refl _ _⟩
  go_enter Try.func5, Try.ntmps5
  have BT := Lib.hid (Below.refl w.heap.size w)
  go_wp2_with fail
  refine (HDr.out).mono ?_
  rintro e w1 ⟨g, a_g, c_g, n, x, rfl, hn, hs, hM, hx0, hx1, hb⟩
  replace BT := Lib.hid (BT.out.trans (hb.mono BT.out.size))
  have R_g := Lib.hid hM
  have HN := Lib.hid hn
  have HS := Lib.hid hs
  clear hM hn hs HDr
  clear hb
  have HL := Lib.hid (show g.length ≤ 1048576 from by have := HS.out.2.1; omega)
  have HT := Lib.hid HS.out.tot
  cases hv : prowB g x
  · have HP := Lib.hid (show prowL g x = [] by simp [prowL, hv])
    have HI := Lib.hid (show ∀ wx, MRow wx (.slice a_g n c_g) g → Calls Try.prog 10 #[.slice a_g n c_g, .int .i64 x] wx (GivesRowB [] false wx) from fun wx hr => by have := iprow_any _ g x wx hr HL.out HT.out; rw [hv, HP.out] at this; exact this)
    have HJ := Lib.hid (show ∀ wx, MRow wx (.slice a_g n c_g) g → Calls Try.prog 8 #[.slice a_g n c_g, .int .i64 x] wx (GivesRowB [] false wx) from fun wx hr => by have := sprow_any _ g x wx hr HL.out HT.out (by omega) (by omega); rw [hv, HP.out] at this; exact this)
    clear hv
    go_wp2_with fail
    refine (HI.out _ R_g.out).mono ?_
    rintro e w2 ⟨a_o, c_o, rfl, ho, hb⟩
    replace R_g := Lib.hid (R_g.out.below hb)
    replace BT := Lib.hid (BT.out.trans (hb.mono BT.out.size))
    have R_o := Lib.hid ho.row
    clear ho
    clear hb
    go_wp2_with fail
    refine (HJ.out _ R_g.out).mono ?_
    rintro e w3 ⟨a_t, c_t, rfl, ho, hb⟩
    replace R_g := Lib.hid (R_g.out.below hb)
    replace R_o := Lib.hid (R_o.out.below hb)
    replace BT := Lib.hid (BT.out.trans (hb.mono BT.out.size))
    have R_t := Lib.hid ho.row
    clear ho
    clear hb
    have x1 : decide (([] : List Int) = []) = true := by simp
    go_wp2_with fail
    refine (calls_below (same_any _ _ [] [] _ R_o.out R_t.out (by simp) (by simp))).mono ?_
    rintro e w4 ⟨rfl, hb⟩
    replace R_g := Lib.hid (R_g.out.below hb)
    replace R_o := Lib.hid (R_o.out.below hb)
    replace R_t := Lib.hid (R_t.out.below hb)
    replace BT := Lib.hid (BT.out.trans (hb.mono BT.out.size))
    clear hb
    go_wp2_with fail
    refine (calls_below (same_any _ _ [] [] _ R_o.out R_t.out (by simp) (by simp))).mono ?_
    rintro e w5 ⟨rfl, hb⟩
    replace R_g := Lib.hid (R_g.out.below hb)
    replace R_o := Lib.hid (R_o.out.below hb)
    replace R_t := Lib.hid (R_t.out.below hb)
    replace BT := Lib.hid (BT.out.trans (hb.mono BT.out.size))
    clear hb
    go_wp2
    go_ret
    exact ⟨rfl, BT.out⟩
  · have hp := hv
    unfold prowB at hp
    simp only [Bool.and_eq_true, decide_eq_true_eq] at hp
    obtain ⟨hgv, q1, q2⟩ := hp
    obtain ⟨r, rfl⟩ : ∃ r : Nat, x = (r : Int) := ⟨x.toNat, by omega⟩
    have hrl : r < g.length := by omega
    obtain ⟨L, hL⟩ : ∃ L, L = g.getD r [] := ⟨_, rfl⟩
    have HP := Lib.hid (show prowL g (r : Int) = L by rw [hL]; simp [prowL, hv])
    have hLv : validB L = true := by rw [hL]; exact gval_prof hgv hrl
    have hLl := valid_len hLv
    have HI := Lib.hid (show ∀ wx, MRow wx (.slice a_g n c_g) g → Calls Try.prog 10 #[.slice a_g n c_g, .int .i64 (r : Nat)] wx (GivesRowB L true wx) from fun wx hr => by have := iprow_any _ g r wx hr HL.out HT.out; rw [hv, HP.out] at this; exact this)
    have HJ := Lib.hid (show ∀ wx, MRow wx (.slice a_g n c_g) g → Calls Try.prog 8 #[.slice a_g n c_g, .int .i64 (r : Nat)] wx (GivesRowB L true wx) from fun wx hr => by have := sprow_any _ g r wx hr HL.out HT.out (by omega) (by omega); rw [hv, HP.out] at this; exact this)
    have hG := gval_rows hgv
    have HMi := Lib.hid (show ∀ wx, MRow wx (.slice a_g n c_g) g → Calls Try.prog 20 #[.slice a_g n c_g] wx _ from fun wx hr => imirror_any _ g wx hr hgv HL.out HT.out)
    obtain ⟨M, hM⟩ : ∃ M, M = gridF (fun r c => cellG g r (colsG g - 1 - c)) g.length (colsG g) := ⟨_, rfl⟩
    have hMv : gvalB M = true := by rw [hM]; exact gridF_valid hG.1 hG.2.1 hG.2.2.1 hG.2.2.2 (fun r c hr hc => gval_cell hgv r _ hr (by omega))
    have hMl : M.length = g.length := by rw [hM, gridF_len]
    have hMt : tot M ≤ 1048576 := by rw [hM, tot_gridF]; exact Nat.le_trans (Nat.mul_le_mul hG.2.1 hG.2.2.2) (by decide)
    have HK := Lib.hid (show ∀ v wx, MRow wx v M → Calls Try.prog 10 #[v, .int .i64 (r : Nat)] wx (GivesRowB L.reverse true wx) from fun v wx hr => by
      have hb : prowB M (r : Int) = true := by simp [prowB, hMv]; omega
      have hl : prowL M (r : Int) = L.reverse := by rw [hL, ← mirror_row hgv hrl, ← hM]; simp [prowL, hb]
      have := iprow_any v M r wx hr (by omega) hMt
      rw [hb, hl] at this
      exact this)
    have HBk := Lib.hid (show ∀ v wx, Row wx v L → Calls Try.prog 21 #[v] wx (GivesRowB L.reverse true wx) from fun v wx hr => by have := iback_any v L wx hr (by omega); rw [backL_valid hLv, hLv] at this; exact this)
    have hrev : L.reverse.length ≤ 1099511627776 := by rw [List.length_reverse]; omega
    have HLL := Lib.hid hL
    obtain ⟨Lr, hLr⟩ : ∃ Lr, Lr = L.reverse := ⟨_, rfl⟩
    rw [← hLr] at HK HBk hrev
    clear hLr
    rw [hM] at HK
    rw [← HN.out] at HMi HK
    clear hM hMl hMt hMv hv hL hLv hG HP
    go_wp2_with fail
    refine (HI.out _ R_g.out).mono ?_
    rintro e w6 ⟨a_o, c_o, rfl, ho, hb⟩
    replace R_g := Lib.hid (R_g.out.below hb)
    replace BT := Lib.hid (BT.out.trans (hb.mono BT.out.size))
    have R_o := Lib.hid ho.row
    clear ho
    clear hb
    go_wp2_with fail
    refine (HJ.out _ R_g.out).mono ?_
    rintro e w7 ⟨a_t, c_t, rfl, ho, hb⟩
    replace R_g := Lib.hid (R_g.out.below hb)
    replace R_o := Lib.hid (R_o.out.below hb)
    replace BT := Lib.hid (BT.out.trans (hb.mono BT.out.size))
    have R_t := Lib.hid ho.row
    clear ho
    clear hb
    have x1 : decide (L = L) = true := by simp
    go_wp2_with fail
    refine (calls_below (same_any _ _ L L _ R_o.out R_t.out (by omega) (by omega))).mono ?_
    rintro e w8 ⟨rfl, hb⟩
    replace R_g := Lib.hid (R_g.out.below hb)
    replace R_o := Lib.hid (R_o.out.below hb)
    replace R_t := Lib.hid (R_t.out.below hb)
    replace BT := Lib.hid (BT.out.trans (hb.mono BT.out.size))
    clear hb
    clear R_t
    go_wp2_with fail
    refine (HMi.out _ R_g.out).mono ?_
    rintro e w9 ⟨a_m, c_m, rfl, hM, hb⟩
    replace R_g := Lib.hid (R_g.out.below hb)
    replace R_o := Lib.hid (R_o.out.below hb)
    replace BT := Lib.hid (BT.out.trans (hb.mono BT.out.size))
    have R_m := Lib.hid hM
    clear hM
    clear hb
    go_wp2_with fail
    refine (HK.out _ _ R_m.out).mono ?_
    rintro e w10 ⟨a_x, c_x, rfl, ho, hb⟩
    replace R_g := Lib.hid (R_g.out.below hb)
    replace R_o := Lib.hid (R_o.out.below hb)
    replace R_m := Lib.hid (R_m.out.below hb)
    replace BT := Lib.hid (BT.out.trans (hb.mono BT.out.size))
    have R_x := Lib.hid ho.row
    clear ho
    clear hb
    go_wp2_with fail
    refine (HBk.out _ _ R_o.out).mono ?_
    rintro e w11 ⟨a_y, c_y, rfl, ho, hb⟩
    replace R_g := Lib.hid (R_g.out.below hb)
    replace R_o := Lib.hid (R_o.out.below hb)
    replace R_m := Lib.hid (R_m.out.below hb)
    replace R_x := Lib.hid (R_x.out.below hb)
    replace BT := Lib.hid (BT.out.trans (hb.mono BT.out.size))
    have R_y := Lib.hid ho.row
    clear ho
    clear hb
    have x2 : decide (Lr = Lr) = true := by simp
    go_wp2_with fail
    refine (calls_below (same_any _ _ Lr Lr _ R_x.out R_y.out hrev hrev)).mono ?_
    rintro e w12 ⟨rfl, hb⟩
    replace R_g := Lib.hid (R_g.out.below hb)
    replace R_o := Lib.hid (R_o.out.below hb)
    replace R_m := Lib.hid (R_m.out.below hb)
    replace R_x := Lib.hid (R_x.out.below hb)
    replace R_y := Lib.hid (R_y.out.below hb)
    replace BT := Lib.hid (BT.out.trans (hb.mono BT.out.size))
    clear hb
    obtain ⟨-, hgc⟩ := R_g.out.cells
    obtain ⟨b, off, u, rfl, hcell, hrow⟩ := hgc r (by have := HN.out; omega)
    rw [← HLL.out] at hrow
    obtain ⟨au, cu, rfl⟩ := hrow.shape
    have R_u := Lib.hid hrow
    have i1 : (0 : Int) ≤ (r : Int) := by omega
    have i2 : (r : Int) < (n : Int) := by have := HN.out; omega
    clear hgc hrow hgv
    go_wp2_with fail
    refine (calls_below (same_any _ _ L L _ R_o.out R_u.out (by omega) (by omega))).mono ?_
    rintro e w13 ⟨rfl, hb⟩
    replace R_g := Lib.hid (R_g.out.below hb)
    replace R_o := Lib.hid (R_o.out.below hb)
    replace R_m := Lib.hid (R_m.out.below hb)
    replace R_x := Lib.hid (R_x.out.below hb)
    replace R_y := Lib.hid (R_y.out.below hb)
    replace BT := Lib.hid (BT.out.trans (hb.mono BT.out.size))
    clear hb
    go_wp2
    go_ret
    exact ⟨rfl, BT.out⟩

end Go.Proofs.Ytjpcbegndnbeeaa
