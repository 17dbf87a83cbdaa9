/- Walk of the law FnPassWay: the way over the pass is the highest one. -/
import Derived.Test.YtkhhloeemecokaaDPair2
import Derived.Test.YtkhhloeemecokaaSWay
import Derived.Test.YtkhhloeemecokaaPlainWL
import Derived.Test.YtkhhloeemecokaaHasInt
import Derived.Test.YtkhhloeemecokaaSame
import Derived.Test.YtkhhloeemecokaaNearL
import Derived.IntWalk
import Derived.Deep.Cut
namespace Go.Proofs.Ytkhhloeemecokaa
open Go.RowKit

set_option maxRecDepth 100000 in
set_option maxHeartbeats 8000000 in
theorem fnPassWay_walk (w : World) (v0 : Value) (z0 : List Int) (hr0 : RowB w v0 z0) (_hm0 : z0.length ≤ maxLen) (hf0 : ∀ n ∈ z0, (Lit.int .u8 n).wf = true) :
    Calls Try.prog 4 #[v0] w fun e w' => e = .returned (.bool true) ∧ Below w.heap.size w w' := by
  have HDr := Lib.hid (dPassWay_any v0 z0 w hr0 hf0)
  obtain ⟨a0, cap0, rfl, -, -, -⟩ := hr0
  clear _hm0 hf0
  by_cases hbig : 1048576 < z0.length
  · go_enter Try.func4, Try.ntmps4
    go_wp2
    go_ret
    exact ⟨rfl, Below.refl _ _⟩
  go_enter Try.func4, Try.ntmps4
  have BT := Lib.hid (Below.refl w.heap.size w)
  go_wp2_with fail
  refine (HDr.out).mono ?_
  rintro e w1 ⟨g, a_g, c_g, n, x, y, rfl, hn, hs, hM, hb⟩
  replace BT := Lib.hid (BT.out.trans (hb.mono BT.out.size))
  have R_g := Lib.hid hM
  have HN := Lib.hid hn
  have HS := Lib.hid hs
  clear hM hn hs HDr
  clear hb
  have HL := Lib.hid (show g.length ≤ 1048576 from by have := HS.out.2.1; omega)
  have HT := Lib.hid HS.out.tot
  have HI := Lib.hid (show ∀ p q wx, MRow wx (.slice a_g n c_g) g → Calls Try.prog 13 #[.slice a_g n c_g, .int .i64 p, .int .i64 q] wx (GivesRowB (pwayL g p q) (pwayB g p q) wx) from fun p q wx hr => ipway_any _ g p q wx hr HL.out HT.out)
  have HJ := Lib.hid (show ∀ wx, MRow wx (.slice a_g n c_g) g → Calls Try.prog 14 #[.slice a_g n c_g, .int .i64 x, .int .i64 y] wx (GivesRowB (pwayL g x y) (pwayB g x y) wx) from fun wx hr => spway_any _ g x y wx hr HL.out HT.out)
  have HB := Lib.hid (show ∀ p q wx, MRow wx (.slice a_g n c_g) g → Calls Try.prog 11 #[.slice a_g n c_g, .int .i64 p, .int .i64 q] wx (fun e w' => e = .returned (.int .i64 (pbV g p q)) ∧ Below wx.heap.size wx w') from fun p q wx hr => ipbet_any _ g p q wx hr HL.out HT.out)
  cases hv : pwayB g x y
  · have HP := Lib.hid (show pwayL g x y = [] by simp [pwayL, hv])
    have HI1 := Lib.hid (HI.out x y)
    rw [hv, HP.out] at HI1 HJ
    clear hv HI HB
    go_wp2_with fail
    refine (HI1.out _ R_g.out).mono ?_
    rintro e w2 ⟨a_o, c_o, rfl, ho, hb⟩
    replace R_g := Lib.hid (R_g.out.below hb)
    replace BT := Lib.hid (BT.out.trans (hb.mono BT.out.size))
    have R_o := Lib.hid ho.row
    clear ho
    clear hb
    go_wp2_with fail
    refine (HJ.out _ R_g.out).mono ?_
    rintro e w3 ⟨a_t, c_t, rfl, ho, hb⟩
    replace R_g := Lib.hid (R_g.out.below hb)
    replace R_o := Lib.hid (R_o.out.below hb)
    replace BT := Lib.hid (BT.out.trans (hb.mono BT.out.size))
    have R_t := Lib.hid ho.row
    clear ho
    clear hb
    have x1 : decide (([] : List Int) = []) = true := by simp
    go_wp2_with fail
    refine (calls_below (same_any _ _ [] [] _ R_o.out R_t.out (by simp) (by simp))).mono ?_
    rintro e w4 ⟨rfl, hb⟩
    replace R_g := Lib.hid (R_g.out.below hb)
    replace R_o := Lib.hid (R_o.out.below hb)
    replace R_t := Lib.hid (R_t.out.below hb)
    replace BT := Lib.hid (BT.out.trans (hb.mono BT.out.size))
    clear hb
    go_wp2_with fail
    refine (calls_below (same_any _ _ [] [] _ R_o.out R_t.out (by simp) (by simp))).mono ?_
    rintro e w5 ⟨rfl, hb⟩
    replace R_g := Lib.hid (R_g.out.below hb)
    replace R_o := Lib.hid (R_o.out.below hb)
    replace R_t := Lib.hid (R_t.out.below hb)
    replace BT := Lib.hid (BT.out.trans (hb.mono BT.out.size))
    clear hb
    go_wp2
    go_ret
    exact ⟨rfl, BT.out⟩
  · skip
    have hp := hv
    unfold pwayB inG at hp
    simp only [Bool.and_eq_true, decide_eq_true_eq] at hp
    obtain ⟨hgv, ⟨x0, x1⟩, ⟨y0, y1⟩⟩ := hp
    obtain ⟨a, rfl⟩ : ∃ r : Nat, x = (r : Int) := ⟨x.toNat, by omega⟩
    obtain ⟨b, rfl⟩ : ∃ r : Nat, y = (r : Int) := ⟨y.toNat, by omega⟩
    obtain ⟨C, hC⟩ : ∃ C, C = colsG g := ⟨_, rfl⟩
    obtain ⟨N, hN⟩ : ∃ N, N = n * C := ⟨_, rfl⟩
    have hn := HN.out
    have hNg : N = g.length * colsG g := by rw [hN, hn, hC]
    rw [← hNg] at x1 y1
    have ha : a < N := by omega
    have hb : b < N := by omega
    obtain ⟨h1, h2, h3, h4⟩ := gval_rows hgv
    rw [← hn] at h1 h2
    rw [← hC] at h3 h4
    have hrow : ∀ r, r < n → (g.getD r []).length = C := fun r hr => by rw [hC]; exact gval_len hgv r (by omega)
    have hG := grVal hgv hn hC
    rw [← hN] at hG
    have hpin : ∀ i j : Nat, i < N → j < N → pwayB g i j = true ∧ pwayL g i j = wayL N (nearL n C) (hgtG g C) i j ∧ pbV g i j = passV (nearL n C) (hgtG g C) i j := fun i j hi hj => by
      have e := pway_in hgv hNg hi hj
      exact ⟨e, by unfold pwayL; rw [if_pos e, ← hNg, ← hn, ← hC, Int.toNat_natCast, Int.toNat_natCast], by unfold pbV; rw [if_pos e, ← hn, ← hC, Int.toNat_natCast, Int.toNat_natCast]⟩
    obtain ⟨H, d, WF⟩ := way_facts hG ha hb
    have HWF := Lib.hid WF
    have hP := (hpin a b ha hb)
    have HHt := Lib.hid (show ∀ (i : Nat) wx, i < N → MRow wx (.slice a_g n c_g) g → Calls Try.prog 16 #[.slice a_g n c_g, .int .i64 (i : Nat)] wx (fun e w' => e = .returned (.int .i64 (hgtG g C i)) ∧ Below wx.heap.size wx w') from fun i wx hi hr => (heightOf_any _ g i n C wx hr hn hC h3 h2 h4 (by rw [← hN]; exact hi) hrow).mono (fun e w' hq => ⟨hq.1, by rw [hq.2]; exact below_drewN (Below.refl _ _) 1⟩))
    have HNr := Lib.hid (show ∀ (i : Nat) wx, i < N → MRow wx (.slice a_g n c_g) g → Calls Try.prog 18 #[.slice a_g n c_g, .int .i64 (i : Nat)] wx (GivesRow (nearL n C i) wx) from fun i wx hi hr => nearOf_any _ g i n C wx hr hn hC h1 h2 h3 h4 (by rw [← hN]; exact hi))
    have HI1 := Lib.hid (HI.out a b)
    have HB1 := Lib.hid (HB.out a b)
    have HX := Lib.hid (show ∀ k, k ≤ d → (hbL H d).getD k 0 = (H k : Int) from fun k hk => hbL_get hk)
    have HIb := Lib.hid (show ∀ i wx, i < N → MRow wx (.slice a_g n c_g) g → Calls Try.prog 13 #[.slice a_g n c_g, .int .i64 (i : Nat), .int .i64 (b : Nat)] wx (GivesRowB (wayL N (nearL n C) (hgtG g C) i b) true wx) from fun i wx hi hr => by have := HI.out i b wx hr; rw [(hpin i b hi hb).1, (hpin i b hi hb).2.1] at this; exact this)
    have HBb := Lib.hid (show ∀ i wx, i < N → MRow wx (.slice a_g n c_g) g → Calls Try.prog 11 #[.slice a_g n c_g, .int .i64 (i : Nat), .int .i64 (b : Nat)] wx (fun e w' => e = .returned (.int .i64 (passV (nearL n C) (hgtG g C) i b)) ∧ Below wx.heap.size wx w') from fun i wx hi hr => by have := HB.out i b wx hr; rw [(hpin i b hi hb).2.2] at this; exact this)
    rw [hP.1, hP.2.1, WF.way] at HI1 HJ
    rw [hP.2.2] at HB1
    have hdN : d ≤ 48 := by have := WF.dlt; have : N ≤ 49 := by (rw [hN]; exact Nat.mul_le_mul h2 h4)
                            omega
    have HlS := Lib.hid (show (hbL H d).length ≤ 1099511627776 by rw [hbL_len]; omega)
    have HLen := Lib.hid (hbL_len H d)
    obtain ⟨p, hpp⟩ : ∃ p, p = passV (nearL n C) (hgtG g C) a b := ⟨_, rfl⟩
    have HLow := Lib.hid WF.low
    have HTl := Lib.hid WF.tail
    rw [← hpp] at HB1 HLow HTl
    obtain ⟨h, hh⟩ : ∃ h : Nat → Int, h = hgtG g C := ⟨_, rfl⟩
    rw [← hh] at HHt HLow HTl HIb HBb
    obtain ⟨L, hLd⟩ : ∃ L, L = hbL H d := ⟨_, rfl⟩
    rw [← hLd] at HI1 HJ HX HlS HLen HTl
    have HLd := Lib.hid hLd
    clear hv hgv x0 x1 y0 y1 hC hN hn hNg ha h1 h2 h3 h4 hrow hG hpin hP WF hpp hh hLd HI HB
    go_wp2_with fail
    refine (HI1.out _ R_g.out).mono ?_
    rintro e w6 ⟨a_o, c_o, rfl, ho, hb⟩
    replace R_g := Lib.hid (R_g.out.below hb)
    replace BT := Lib.hid (BT.out.trans (hb.mono BT.out.size))
    have HOo := Lib.hid ho
    have R_o := Lib.hid ho.row
    clear ho
    clear hb
    rw [HLen.out] at R_o HOo ⊢
    go_wp2_with fail
    refine (HJ.out _ R_g.out).mono ?_
    rintro e w7 ⟨a_t, c_t, rfl, ho, hb⟩
    replace R_g := Lib.hid (R_g.out.below hb)
    replace R_o := Lib.hid (R_o.out.below hb)
    replace BT := Lib.hid (BT.out.trans (hb.mono BT.out.size))
    have R_t := Lib.hid ho.row
    clear ho
    clear hb
    have x1 : decide (L = L) = true := by simp
    go_wp2_with fail
    refine (calls_below (same_any _ _ L L _ R_o.out R_t.out HlS.out HlS.out)).mono ?_
    rintro e w8 ⟨rfl, hb⟩
    replace R_g := Lib.hid (R_g.out.below hb)
    replace R_o := Lib.hid (R_o.out.below hb)
    replace R_t := Lib.hid (R_t.out.below hb)
    replace BT := Lib.hid (BT.out.trans (hb.mono BT.out.size))
    clear hb
    clear R_t
    have dlt := HWF.out.lt
    have hH0 := dlt 0 (by omega)
    have HH0 := Lib.hid (show ((H 0 : Nat) : Int) = (a : Int) by rw [HWF.out.first])
    clear dlt
    have HHa := Lib.hid (HHt.out (H 0) _ hH0 R_g.out)
    rw [HH0.out] at HHa
    go_wp2_with fail
    refine (HHa.out).mono ?_
    rintro e w9 ⟨rfl, hb⟩
    replace R_g := Lib.hid (R_g.out.below hb)
    replace R_o := Lib.hid (R_o.out.below hb)
    replace BT := Lib.hid (BT.out.trans (hb.mono BT.out.size))
    clear HHa
    clear hb
    obtain ⟨b_o, rfl⟩ := HOo.out.addr (by omega)
    have HCap := Lib.hid (show d + 1 ≤ c_o from by rcases HOo.out.2 with ⟨_, h0⟩ | ⟨g1, cap1, cur1, hv1, _, _, hc1, _⟩; (rw [HLen.out] at h0; omega); (simp only [Value.slice.injEq] at hv1; rw [HLen.out] at hc1; omega))
    clear HOo
    go_wp2_with fail
    go_loopw [10, 11] (fun lo q wr => ∃ i : Nat, i ≤ d + 1 ∧ q = .int .i64 i ∧ lo = .int .i64 (lowW h H i) ∧ Below w9.heap.size w9 wr) (fun _ q _ => d + 1 - (intOf q).toNat)
    case atStart => exact ⟨0, Nat.zero_le _, rfl, rfl, Below.refl _ _⟩
    case round =>
      obtain ⟨i, hi1, rfl, rfl, hb⟩ := hrel
      have HBe := Lib.hid hb
      clear hb
      replace R_g := Lib.hid (R_g.out.below HBe.out)
      replace R_o := Lib.hid (R_o.out.below HBe.out)
      replace BT := Lib.hid (BT.out.trans ((HBe.out).mono BT.out.size))
      by_cases hlt : i < d + 1
      · skip
        have hHi := HWF.out.lt i (by omega)
        obtain ⟨-, hco⟩ := R_o.out.cells
        obtain ⟨b2, o2, e2, ci⟩ := hco i (by omega)
        simp only [Option.some.injEq, Addr.mk.injEq, and_true] at e2
        obtain ⟨rfl, rfl⟩ := e2
        rw [HX.out i (by omega)] at ci
        simp only [Nat.zero_add] at ci
        have HHk := Lib.hid (HHt.out (H i) _ hHi R_g.out)
        have HLs := Lib.hid (show lowW h H (i + 1) = min (lowW h H i) (h (H i)) from rfl)
        obtain ⟨lo, hlo⟩ : ∃ lo, lo = lowW h H i := ⟨_, rfl⟩
        rw [← hlo] at HLs ⊢
        obtain ⟨u, hu⟩ : ∃ u, u = H i := ⟨_, rfl⟩
        rw [← hu] at ci HHk HLs hHi
        have HU := Lib.hid hu
        have d1 : (i : Int) < (d : Int) + 1 := by omega
        clear hco hlo hu
        go_wp2_with fail
        refine (HHk.out).mono ?_
        rintro e w10 ⟨rfl, hb⟩
        replace R_g := Lib.hid (R_g.out.below hb)
        replace R_o := Lib.hid (R_o.out.below hb)
        replace BT := Lib.hid (BT.out.trans (hb.mono BT.out.size))
        replace HBe := Lib.hid (HBe.out.trans (hb.mono HBe.out.size))
        replace ci := (hb.cell (p := ⟨b_o, i, none⟩) (World.block_lt_of_cell? _ _ ci)).trans ci
        clear HHk
        clear hb
        by_cases hi0 : i = 0
        · subst hi0
          go_upto_region 13 with (fail)
          refine wp_region_held_drew (S := fun _ => True) (by kernel_rfl) (trivial) (fun hHeld => ?_)
          refine wpAnyH_take (i := 0) (oi := { dst := some 77, op := _, type := _, pos := _, after := _, guard := _ }) (v := ?_) rfl (by kernel_rfl) (by kernel_rfl) (by kernel_rfl) (fun _ _ _ h => h) (Or.inl ⟨by rfl, ?_⟩) (by assumption) ?_
          case refine_2 => ((intro w hSw; (try dsimp only at hSw); go_simp); try with_reducible rfl)
          try simp only [Act.put, List.setIfInBounds_toArray, List.set_cons_zero, List.set_cons_succ]
          refine wpAnyH_take (i := 1) (oi := { dst := some 78, op := _, type := _, pos := _, after := _, guard := _ }) (v := ?_) rfl (by kernel_rfl) (by kernel_rfl) (by kernel_rfl) (fun _ _ _ h => h) (Or.inl ⟨by rfl, ?_⟩) (by assumption) ?_
          case refine_2 => ((intro w hSw; (try dsimp only at hSw); go_simp); try with_reducible rfl)
          try simp only [Act.put, List.setIfInBounds_toArray, List.set_cons_zero, List.set_cons_succ]
          refine wpAnyH_take (i := 2) (oi := { dst := some 79, op := _, type := _, pos := _, after := _, guard := _ }) (v := ?_) rfl (by kernel_rfl) (by kernel_rfl) (by kernel_rfl) (fun _ _ _ h => h) (Or.inl ⟨by rfl, ?_⟩) (by assumption) ?_
          case refine_2 => ((intro w hSw; (try dsimp only at hSw); go_simp); try with_reducible rfl)
          try simp only [Act.put, List.setIfInBounds_toArray, List.set_cons_zero, List.set_cons_succ]
          refine wpAnyH_take (i := 3) (oi := { dst := some 80, op := _, type := _, pos := _, after := _, guard := _ }) (v := undef) rfl (by kernel_rfl) (by kernel_rfl) (by kernel_rfl) (fun _ _ _ h => h) (Or.inr ⟨by rfl, rfl⟩) (by assumption) ?_
          try simp only [Act.put, List.setIfInBounds_toArray, List.set_cons_zero, List.set_cons_succ]
          refine wpAnyH_take (i := 4) (oi := { dst := some 81, op := _, type := _, pos := _, after := _, guard := _ }) (v := undef) rfl (by kernel_rfl) (by kernel_rfl) (by kernel_rfl) (fun _ _ _ h => h) (Or.inr ⟨by rfl, rfl⟩) (by assumption) ?_
          try simp only [Act.put, List.setIfInBounds_toArray, List.set_cons_zero, List.set_cons_succ]
          refine wpAnyH_take (i := 5) (oi := { dst := some 82, op := _, type := _, pos := _, after := _, guard := _ }) (v := undef) rfl (by kernel_rfl) (by kernel_rfl) (by kernel_rfl) (fun _ _ _ h => h) (Or.inr ⟨by rfl, rfl⟩) (by assumption) ?_
          try simp only [Act.put, List.setIfInBounds_toArray, List.set_cons_zero, List.set_cons_succ]
          refine wpAnyH_take (i := 6) (oi := { dst := some 83, op := _, type := _, pos := _, after := _, guard := _ }) (v := undef) rfl (by kernel_rfl) (by kernel_rfl) (by kernel_rfl) (fun _ _ _ h => h) (Or.inr ⟨by rfl, rfl⟩) (by assumption) ?_
          try simp only [Act.put, List.setIfInBounds_toArray, List.set_cons_zero, List.set_cons_succ]
          refine wpAnyH_take (i := 7) (oi := { dst := some 84, op := _, type := _, pos := _, after := _, guard := _ }) (v := undef) rfl (by kernel_rfl) (by kernel_rfl) (by kernel_rfl) (fun _ _ _ h => h) (Or.inr ⟨by rfl, rfl⟩) (by assumption) ?_
          try simp only [Act.put, List.setIfInBounds_toArray, List.set_cons_zero, List.set_cons_succ]
          refine wpAnyH_take (i := 8) (oi := { dst := some 85, op := _, type := _, pos := _, after := _, guard := _ }) (v := undef) rfl (by kernel_rfl) (by kernel_rfl) (by kernel_rfl) (fun _ _ _ h => h) (Or.inr ⟨by rfl, rfl⟩) (by assumption) ?_
          try simp only [Act.put, List.setIfInBounds_toArray, List.set_cons_zero, List.set_cons_succ]
          refine wpAnyH_take (i := 9) (oi := { dst := some 86, op := _, type := _, pos := _, after := _, guard := _ }) (v := undef) rfl (by kernel_rfl) (by kernel_rfl) (by kernel_rfl) (fun _ _ _ h => h) (Or.inr ⟨by rfl, rfl⟩) (by assumption) ?_
          try simp only [Act.put, List.setIfInBounds_toArray, List.set_cons_zero, List.set_cons_succ]
          refine wpAnyH_take (i := 10) (oi := { dst := some 87, op := _, type := _, pos := _, after := _, guard := _ }) (v := undef) rfl (by kernel_rfl) (by kernel_rfl) (by kernel_rfl) (fun _ _ _ h => h) (Or.inr ⟨by rfl, rfl⟩) (by assumption) ?_
          try simp only [Act.put, List.setIfInBounds_toArray, List.set_cons_zero, List.set_cons_succ]
          refine wpAnyH_take (i := 11) (oi := { dst := some 88, op := _, type := _, pos := _, after := _, guard := _ }) (v := undef) rfl (by kernel_rfl) (by kernel_rfl) (by kernel_rfl) (fun _ _ _ h => h) (Or.inr ⟨by rfl, rfl⟩) (by assumption) ?_
          try simp only [Act.put, List.setIfInBounds_toArray, List.set_cons_zero, List.set_cons_succ]
          refine wpAnyH_take (i := 12) (oi := { dst := some 89, op := _, type := _, pos := _, after := _, guard := _ }) (v := undef) rfl (by kernel_rfl) (by kernel_rfl) (by kernel_rfl) (fun _ _ _ h => h) (Or.inr ⟨by rfl, rfl⟩) (by assumption) ?_
          try simp only [Act.put, List.setIfInBounds_toArray, List.set_cons_zero, List.set_cons_succ]
          refine wpAnyH_take (i := 13) (oi := { dst := some 90, op := _, type := _, pos := _, after := _, guard := _ }) (v := undef) rfl (by kernel_rfl) (by kernel_rfl) (by kernel_rfl) (fun _ _ _ h => h) (Or.inr ⟨by rfl, rfl⟩) (by assumption) ?_
          try simp only [Act.put, List.setIfInBounds_toArray, List.set_cons_zero, List.set_cons_succ]
          refine wpAnyH_take (i := 14) (oi := { dst := some 91, op := _, type := _, pos := _, after := _, guard := _ }) (v := undef) rfl (by kernel_rfl) (by kernel_rfl) (by kernel_rfl) (fun _ _ _ h => h) (Or.inr ⟨by rfl, rfl⟩) (by assumption) ?_
          try simp only [Act.put, List.setIfInBounds_toArray, List.set_cons_zero, List.set_cons_succ]
          refine wpAnyH_take (i := 15) (oi := { dst := some 92, op := _, type := _, pos := _, after := _, guard := _ }) (v := undef) rfl (by kernel_rfl) (by kernel_rfl) (by kernel_rfl) (fun _ _ _ h => h) (Or.inr ⟨by rfl, rfl⟩) (by assumption) ?_
          try simp only [Act.put, List.setIfInBounds_toArray, List.set_cons_zero, List.set_cons_succ]
          refine wpAnyH_take (i := 16) (oi := { dst := some 93, op := _, type := _, pos := _, after := _, guard := _ }) (v := ?_) rfl (by kernel_rfl) (by kernel_rfl) (by kernel_rfl) (fun _ _ _ h => h) (Or.inl ⟨by rfl, ?_⟩) (by assumption) ?_
          case refine_2 => ((intro w hSw; (try dsimp only at hSw); go_simp); try with_reducible rfl)
          try simp only [Act.put, List.setIfInBounds_toArray, List.set_cons_zero, List.set_cons_succ]
          refine wpAnyH_done (by kernel_rfl) ?_ _
          clear hHeld
          go_wp2_with fail
          have HBd := Lib.hid (HBe.out.trans (show Below w9.heap.size w10 w10.drew from (below_drewN (Below.refl w10.heap.size w10) 1).mono HBe.out.size))
          go_loopw [12] (fun q wr => q = .int .i64 0 ∧ Below w9.heap.size w9 wr) (fun q _ => 0)
          case atStart => exact ⟨rfl, HBd.out⟩
          case round =>
            obtain ⟨rfl, hbz⟩ := hrel
            have HBz := Lib.hid hbz
            clear hbz
            go_wp2_with fail
            go_roundw
            case rel => exact ⟨1, by omega, by go_num, by rw [HLs.out, HU.out], HBz.out⟩
            case measure => first | (simp [intOf]; done) | (simp [intOf]; omega)
        · skip
          obtain ⟨i1, hi1e⟩ : ∃ i1, i = i1 + 1 := ⟨i - 1, by omega⟩
          obtain ⟨-, hco⟩ := R_o.out.cells
          obtain ⟨b2, o2, e2, cj⟩ := hco i1 (by omega)
          simp only [Option.some.injEq, Addr.mk.injEq, and_true] at e2
          obtain ⟨rfl, rfl⟩ := e2
          rw [HX.out i1 (by omega)] at cj
          simp only [Nat.zero_add] at cj
          obtain ⟨u1, hu1⟩ : ∃ u1, u1 = H i1 := ⟨_, rfl⟩
          rw [← hu1] at cj
          have HU1 := Lib.hid hu1
          have hu1N : u1 < N := by rw [hu1]; exact HWF.out.lt i1 (by omega)
          have HMm := Lib.hid (show (u : Int) ∈ nearL n C u1 from by rw [hu1, HU.out, hi1e]; exact HWF.out.next i1 (by omega))
          have HNk := Lib.hid (HNr.out u1 w10.drew hu1N (R_g.out.below (show Below w10.heap.size w10 w10.drew from below_drewN (Below.refl _ _) 1)))
          have HI1e := Lib.hid hi1e
          have d2 : (0 : Int) < (i : Int) := by omega
          have d3n : 0 < i := by omega
          have d4 : (i : Int) - 1 = (i1 : Int) := by omega
          have d5 : (i1 : Int) < (d : Int) + 1 := by omega
          have d6 : IntKind.i64.wrap (i1 : Int) = (i1 : Int) := IntWalk.i64_in _ (by omega)
          have d7 : IntKind.i64.wrap ((i : Int) - 1) = (i1 : Int) := by rw [d4]; exact d6
          clear hco hu1 hi1e
          go_upto_region 13 with (fail)
          refine wp_region_held_drew (S := fun wx => wx.cell? ⟨b_o, i, none⟩ = some (.int .i64 u) ∧ wx.cell? ⟨b_o, i1, none⟩ = some (.int .i64 u1)) (by kernel_rfl) (⟨ci, cj⟩) (fun hHeld => ?_)
          refine wpAnyH_take (i := 0) (oi := { dst := some 77, op := _, type := _, pos := _, after := _, guard := _ }) (v := ?_) rfl (by kernel_rfl) (by kernel_rfl) (by kernel_rfl) (fun _ _ _ h => h) (Or.inl ⟨by rfl, ?_⟩) (by assumption) ?_
          case refine_2 => ((intro w hSw; (try dsimp only at hSw); go_simp); try with_reducible rfl)
          try simp only [Act.put, List.setIfInBounds_toArray, List.set_cons_zero, List.set_cons_succ]
          refine wpAnyH_take (i := 1) (oi := { dst := some 78, op := _, type := _, pos := _, after := _, guard := _ }) (v := ?_) rfl (by kernel_rfl) (by kernel_rfl) (by kernel_rfl) (fun _ _ _ h => h) (Or.inl ⟨by rfl, ?_⟩) (by assumption) ?_
          case refine_2 => ((intro w hSw; (try dsimp only at hSw); go_simp); try with_reducible rfl)
          try simp only [Act.put, List.setIfInBounds_toArray, List.set_cons_zero, List.set_cons_succ]
          refine wpAnyH_take (i := 2) (oi := { dst := some 79, op := _, type := _, pos := _, after := _, guard := _ }) (v := ?_) rfl (by kernel_rfl) (by kernel_rfl) (by kernel_rfl) (fun _ _ _ h => h) (Or.inl ⟨by rfl, ?_⟩) (by assumption) ?_
          case refine_2 => ((intro w hSw; (try dsimp only at hSw); go_simp); try with_reducible rfl)
          try simp only [Act.put, List.setIfInBounds_toArray, List.set_cons_zero, List.set_cons_succ]
          refine wpAnyH_take (i := 3) (oi := { dst := some 80, op := _, type := _, pos := _, after := _, guard := _ }) (v := ?_) rfl (by kernel_rfl) (by kernel_rfl) (by kernel_rfl) (fun _ _ _ h => h) (Or.inl ⟨by rfl, ?_⟩) (by assumption) ?_
          case refine_2 => ((intro w hSw; (try dsimp only at hSw); go_simp); try with_reducible rfl)
          try simp only [Act.put, List.setIfInBounds_toArray, List.set_cons_zero, List.set_cons_succ]
          refine wpAnyH_take (i := 4) (oi := { dst := some 81, op := _, type := _, pos := _, after := _, guard := _ }) (v := ?_) rfl (by kernel_rfl) (by kernel_rfl) (by kernel_rfl) (fun _ _ _ h => h) (Or.inl ⟨by rfl, ?_⟩) (by assumption) ?_
          case refine_2 => ((intro w hSw; (try dsimp only at hSw); go_simp); try with_reducible rfl)
          try simp only [Act.put, List.setIfInBounds_toArray, List.set_cons_zero, List.set_cons_succ]
          refine wpAnyH_take (i := 5) (oi := { dst := some 82, op := _, type := _, pos := _, after := _, guard := _ }) (v := ?_) rfl (by kernel_rfl) (by kernel_rfl) (by kernel_rfl) (fun _ _ _ h => h) (Or.inl ⟨by rfl, ?_⟩) (by assumption) ?_
          case refine_2 => ((intro w hSw; (try dsimp only at hSw); go_simp); try with_reducible rfl)
          try simp only [Act.put, List.setIfInBounds_toArray, List.set_cons_zero, List.set_cons_succ]
          refine wpAnyH_take (i := 6) (oi := { dst := some 83, op := _, type := _, pos := _, after := _, guard := _ }) (v := ?_) rfl (by kernel_rfl) (by kernel_rfl) (by kernel_rfl) (fun _ _ _ h => h) (Or.inl ⟨by rfl, ?_⟩) (by assumption) ?_
          case refine_2 => ((intro w hSw; (try dsimp only at hSw); go_simp); try with_reducible rfl)
          try simp only [Act.put, List.setIfInBounds_toArray, List.set_cons_zero, List.set_cons_succ]
          refine wpAnyH_take (i := 7) (oi := { dst := some 84, op := _, type := _, pos := _, after := _, guard := _ }) (v := ?_) rfl (by kernel_rfl) (by kernel_rfl) (by kernel_rfl) (fun _ _ _ h => h) (Or.inl ⟨by rfl, ?_⟩) (by assumption) ?_
          case refine_2 => ((intro w hSw; (try dsimp only at hSw); go_simp); try with_reducible rfl)
          try simp only [Act.put, List.setIfInBounds_toArray, List.set_cons_zero, List.set_cons_succ]
          refine wpAnyH_take (i := 8) (oi := { dst := some 85, op := _, type := _, pos := _, after := _, guard := _ }) (v := ?_) rfl (by kernel_rfl) (by kernel_rfl) (by kernel_rfl) (fun _ _ _ h => h) (Or.inl ⟨by rfl, ?_⟩) (by assumption) ?_
          case refine_2 => ((intro w hSw; (try dsimp only at hSw); go_simp); try with_reducible rfl)
          try simp only [Act.put, List.setIfInBounds_toArray, List.set_cons_zero, List.set_cons_succ]
          refine wpAnyH_take (i := 10) (oi := { dst := some 87, op := _, type := _, pos := _, after := _, guard := _ }) (v := ?_) rfl (by kernel_rfl) (by kernel_rfl) (by kernel_rfl) (fun _ _ _ h => h) (Or.inl ⟨by rfl, ?_⟩) (by assumption) ?_
          case refine_2 => ((intro w hSw; (try dsimp only at hSw); go_simp); try with_reducible rfl)
          try simp only [Act.put, List.setIfInBounds_toArray, List.set_cons_zero, List.set_cons_succ]
          refine wpAnyH_take (i := 11) (oi := { dst := some 88, op := _, type := _, pos := _, after := _, guard := _ }) (v := ?_) rfl (by kernel_rfl) (by kernel_rfl) (by kernel_rfl) (fun _ _ _ h => h) (Or.inl ⟨by rfl, ?_⟩) (by assumption) ?_
          case refine_2 => ((intro w hSw; (try dsimp only at hSw); go_simp); try with_reducible rfl)
          try simp only [Act.put, List.setIfInBounds_toArray, List.set_cons_zero, List.set_cons_succ]
          refine wpAnyH_take (i := 12) (oi := { dst := some 89, op := _, type := _, pos := _, after := _, guard := _ }) (v := ?_) rfl (by kernel_rfl) (by kernel_rfl) (by kernel_rfl) (fun _ _ _ h => h) (Or.inl ⟨by rfl, ?_⟩) (by assumption) ?_
          case refine_2 => ((intro w hSw; (try dsimp only at hSw); go_simp); try with_reducible rfl)
          try simp only [Act.put, List.setIfInBounds_toArray, List.set_cons_zero, List.set_cons_succ]
          refine wpAnyH_take (i := 13) (oi := { dst := some 90, op := _, type := _, pos := _, after := _, guard := _ }) (v := ?_) rfl (by kernel_rfl) (by kernel_rfl) (by kernel_rfl) (fun _ _ _ h => h) (Or.inl ⟨by rfl, ?_⟩) (by assumption) ?_
          case refine_2 => ((intro w hSw; (try dsimp only at hSw); go_simp); try with_reducible rfl)
          try simp only [Act.put, List.setIfInBounds_toArray, List.set_cons_zero, List.set_cons_succ]
          refine wpAnyH_ready (rs := [9]) (by kernel_rfl) (by simp) ?_
          refine AllReadyH.cons (o := { dst := some 86, op := _, type := _, pos := _, after := _, guard := _ }) rfl (fun K hK => ?_) AllReadyH.nil
          go_simp
          go_at_call 18
          refine HNk.out.mono ?_
          rintro e wx9 ⟨aX, cX, rfl, ho9, hb9⟩
          refine hK.out _ _ (⟨(hb9.cell (p := ⟨b_o, i, none⟩) (World.block_lt_of_cell? _ _ ci)).trans ci, (hb9.cell (p := ⟨b_o, i1, none⟩) (World.block_lt_of_cell? _ _ cj)).trans cj⟩) (fun hHeld => ?_)
          clear hK K
          try simp only [Act.put, List.setIfInBounds_toArray, List.set_cons_zero, List.set_cons_succ]
          replace ci := (hb9.cell (p := ⟨b_o, i, none⟩) (World.block_lt_of_cell? _ _ ci)).trans ci
          replace cj := (hb9.cell (p := ⟨b_o, i1, none⟩) (World.block_lt_of_cell? _ _ cj)).trans cj
          refine wpAnyH_ready (rs := [14]) (by kernel_rfl) (by simp) ?_
          refine AllReadyH.cons (o := { dst := some 91, op := _, type := _, pos := _, after := _, guard := _ }) rfl (fun K hK => ?_) AllReadyH.nil
          go_simp
          go_at_call 17
          refine (hasInt_any _ _ (u : Int) wx9 ho9.row HMm.out (by have := nearL_len n C u1; omega)).mono ?_
          rintro e wx10 ⟨rfl, hb10⟩
          refine hK.out _ _ (⟨(hb10.cell (p := ⟨b_o, i, none⟩) (World.block_lt_of_cell? _ _ ci)).trans ci, (hb10.cell (p := ⟨b_o, i1, none⟩) (World.block_lt_of_cell? _ _ cj)).trans cj⟩) (fun hHeld => ?_)
          clear hK K
          try simp only [Act.put, List.setIfInBounds_toArray, List.set_cons_zero, List.set_cons_succ]
          refine wpAnyH_take (i := 15) (oi := { dst := some 92, op := _, type := _, pos := _, after := _, guard := _ }) (v := ?_) rfl (by kernel_rfl) (by kernel_rfl) (by kernel_rfl) (fun _ _ _ h => h) (Or.inl ⟨by rfl, ?_⟩) (by assumption) ?_
          case refine_2 => ((intro w hSw; (try dsimp only at hSw); go_simp); try with_reducible rfl)
          try simp only [Act.put, List.setIfInBounds_toArray, List.set_cons_zero, List.set_cons_succ]
          refine wpAnyH_take (i := 16) (oi := { dst := some 93, op := _, type := _, pos := _, after := _, guard := _ }) (v := ?_) rfl (by kernel_rfl) (by kernel_rfl) (by kernel_rfl) (fun _ _ _ h => h) (Or.inl ⟨by rfl, ?_⟩) (by assumption) ?_
          case refine_2 => ((intro w hSw; (try dsimp only at hSw); go_simp); try with_reducible rfl)
          try simp only [Act.put, List.setIfInBounds_toArray, List.set_cons_zero, List.set_cons_succ]
          refine wpAnyH_done (by kernel_rfl) ?_ _
          clear hHeld
          skip
          have HBd := Lib.hid (((HBe.out.trans (show Below w9.heap.size w10 w10.drew from (below_drewN (Below.refl w10.heap.size w10) 1).mono HBe.out.size)).trans (hb9.mono (show w9.heap.size ≤ w10.drew.heap.size from HBe.out.size))).trans (hb10.mono (Nat.le_trans (show w9.heap.size ≤ w10.drew.heap.size from HBe.out.size) hb9.size)))
          have R_o2 := Lib.hid (((R_o.out.below (show Below w10.heap.size w10 w10.drew from below_drewN (Below.refl _ _) 1)).below hb9).below hb10)
          clear hb9 hb10 ho9 ci cj
          go_wp2_with fail
          obtain ⟨wz, hwz⟩ : ∃ wz : World, wz = wx10 := ⟨_, rfl⟩
          rw [← hwz] at HBd R_o2 ⊢
          clear hwz
          go_loopw [12] (fun q wr => ∃ m : Nat, m ≤ i ∧ q = .int .i64 m ∧ Below wz.heap.size wz wr) (fun q _ => i - (intOf q).toNat)
          case atStart => exact ⟨0, Nat.zero_le _, rfl, Below.refl _ _⟩
          case round =>
            obtain ⟨m, hm1, rfl, hbz⟩ := hrel
            have HBz := Lib.hid hbz
            clear hbz
            by_cases hlt2 : m < i
            · obtain ⟨-, hco⟩ := (R_o2.out.below HBz.out).cells
              obtain ⟨b2, o2, e2, ci⟩ := hco i (by omega)
              simp only [Option.some.injEq, Addr.mk.injEq, and_true] at e2
              obtain ⟨rfl, rfl⟩ := e2
              obtain ⟨b2, o2, e2, cm⟩ := hco m (by omega)
              simp only [Option.some.injEq, Addr.mk.injEq, and_true] at e2
              obtain ⟨rfl, rfl⟩ := e2
              rw [HX.out i (by omega), ← HU.out] at ci
              rw [HX.out m (by omega)] at cm
              simp only [Nat.zero_add] at ci cm
              have hne := HWF.out.apart m i hlt2 (by omega)
              obtain ⟨um, hum⟩ : ∃ um, um = H m := ⟨_, rfl⟩
              rw [← hum] at cm hne
              rw [← HU.out] at hne
              have d8 : ¬ (um : Int) = (u : Int) := by omega
              have d9 : (m : Int) < (d : Int) + 1 := by omega
              have d10 : (m : Int) < (i : Int) := by omega
              clear hco hum hne
              go_upto_region 18 with (fail)
              refine wp_region_held_drew (S := fun wx => wx.cell? ⟨b_o, i, none⟩ = some (.int .i64 u) ∧ wx.cell? ⟨b_o, m, none⟩ = some (.int .i64 um)) (by kernel_rfl) (⟨ci, cm⟩) (fun hHeld => ?_)
              refine wpAnyH_take (i := 0) (oi := { dst := some 99, op := _, type := _, pos := _, after := _, guard := _ }) (v := ?_) rfl (by kernel_rfl) (by kernel_rfl) (by kernel_rfl) (fun _ _ _ h => h) (Or.inl ⟨by rfl, ?_⟩) (by assumption) ?_
              case refine_2 => ((intro w hSw; (try dsimp only at hSw); go_simp); try with_reducible rfl)
              try simp only [Act.put, List.setIfInBounds_toArray, List.set_cons_zero, List.set_cons_succ]
              refine wpAnyH_take (i := 1) (oi := { dst := some 100, op := _, type := _, pos := _, after := _, guard := _ }) (v := ?_) rfl (by kernel_rfl) (by kernel_rfl) (by kernel_rfl) (fun _ _ _ h => h) (Or.inl ⟨by rfl, ?_⟩) (by assumption) ?_
              case refine_2 => ((intro w hSw; (try dsimp only at hSw); go_simp); try with_reducible rfl)
              try simp only [Act.put, List.setIfInBounds_toArray, List.set_cons_zero, List.set_cons_succ]
              refine wpAnyH_take (i := 2) (oi := { dst := some 101, op := _, type := _, pos := _, after := _, guard := _ }) (v := ?_) rfl (by kernel_rfl) (by kernel_rfl) (by kernel_rfl) (fun _ _ _ h => h) (Or.inl ⟨by rfl, ?_⟩) (by assumption) ?_
              case refine_2 => ((intro w hSw; (try dsimp only at hSw); go_simp); try with_reducible rfl)
              try simp only [Act.put, List.setIfInBounds_toArray, List.set_cons_zero, List.set_cons_succ]
              refine wpAnyH_take (i := 3) (oi := { dst := some 102, op := _, type := _, pos := _, after := _, guard := _ }) (v := ?_) rfl (by kernel_rfl) (by kernel_rfl) (by kernel_rfl) (fun _ _ _ h => h) (Or.inl ⟨by rfl, ?_⟩) (by assumption) ?_
              case refine_2 => ((intro w hSw; (try dsimp only at hSw); go_simp); try with_reducible rfl)
              try simp only [Act.put, List.setIfInBounds_toArray, List.set_cons_zero, List.set_cons_succ]
              refine wpAnyH_take (i := 4) (oi := { dst := some 103, op := _, type := _, pos := _, after := _, guard := _ }) (v := ?_) rfl (by kernel_rfl) (by kernel_rfl) (by kernel_rfl) (fun _ _ _ h => h) (Or.inl ⟨by rfl, ?_⟩) (by assumption) ?_
              case refine_2 => ((intro w hSw; (try dsimp only at hSw); go_simp); try with_reducible rfl)
              try simp only [Act.put, List.setIfInBounds_toArray, List.set_cons_zero, List.set_cons_succ]
              refine wpAnyH_take (i := 5) (oi := { dst := some 104, op := _, type := _, pos := _, after := _, guard := _ }) (v := ?_) rfl (by kernel_rfl) (by kernel_rfl) (by kernel_rfl) (fun _ _ _ h => h) (Or.inl ⟨by rfl, ?_⟩) (by assumption) ?_
              case refine_2 => ((intro w hSw; (try dsimp only at hSw); go_simp); try with_reducible rfl)
              try simp only [Act.put, List.setIfInBounds_toArray, List.set_cons_zero, List.set_cons_succ]
              refine wpAnyH_take (i := 6) (oi := { dst := some 105, op := _, type := _, pos := _, after := _, guard := _ }) (v := ?_) rfl (by kernel_rfl) (by kernel_rfl) (by kernel_rfl) (fun _ _ _ h => h) (Or.inl ⟨by rfl, ?_⟩) (by assumption) ?_
              case refine_2 => ((intro w hSw; (try dsimp only at hSw); go_simp); try with_reducible rfl)
              try simp only [Act.put, List.setIfInBounds_toArray, List.set_cons_zero, List.set_cons_succ]
              refine wpAnyH_take (i := 7) (oi := { dst := some 106, op := _, type := _, pos := _, after := _, guard := _ }) (v := ?_) rfl (by kernel_rfl) (by kernel_rfl) (by kernel_rfl) (fun _ _ _ h => h) (Or.inl ⟨by rfl, ?_⟩) (by assumption) ?_
              case refine_2 => ((intro w hSw; (try dsimp only at hSw); go_simp); try with_reducible rfl)
              try simp only [Act.put, List.setIfInBounds_toArray, List.set_cons_zero, List.set_cons_succ]
              refine wpAnyH_take (i := 8) (oi := { dst := some 107, op := _, type := _, pos := _, after := _, guard := _ }) (v := ?_) rfl (by kernel_rfl) (by kernel_rfl) (by kernel_rfl) (fun _ _ _ h => h) (Or.inl ⟨by rfl, ?_⟩) (by assumption) ?_
              case refine_2 => ((intro w hSw; (try dsimp only at hSw); go_simp); try with_reducible rfl)
              try simp only [Act.put, List.setIfInBounds_toArray, List.set_cons_zero, List.set_cons_succ]
              refine wpAnyH_done (by kernel_rfl) ?_ _
              clear hHeld
              go_wp2_with fail
              go_roundw
              case rel => exact ⟨m + 1, by omega, by go_num, HBz.out.trans (show Below wz.heap.size wr wr.drew from (below_drewN (Below.refl wr.heap.size wr) 1).mono HBz.out.size)⟩
              case measure => simp [intOf]; omega
            · have hme : m = i := by omega
              subst hme
              go_wp2_with fail
              go_roundw
              case rel => exact ⟨m + 1, by omega, by go_num, by rw [HLs.out, HU.out], HBd.out.trans (HBz.out.mono HBd.out.size)⟩
              case measure => simp [intOf]; omega
      · have hie : i = d + 1 := by omega
        subst hie
        rw [HLow.out]
        go_wp2_with fail
        refine (HB1.out _ R_g.out).mono ?_
        rintro e w11 ⟨rfl, hb⟩
        replace R_g := Lib.hid (R_g.out.below hb)
        replace R_o := Lib.hid (R_o.out.below hb)
        replace BT := Lib.hid (BT.out.trans (hb.mono BT.out.size))
        replace HBe := Lib.hid (HBe.out.trans (hb.mono HBe.out.size))
        clear HB1
        clear hb
        obtain ⟨-, hco⟩ := R_o.out.cells
        obtain ⟨b2, o2, e2, c0⟩ := hco 0 (by omega)
        simp only [Option.some.injEq, Addr.mk.injEq, and_true] at e2
        obtain ⟨rfl, rfl⟩ := e2
        obtain ⟨b2, o2, e2, cd⟩ := hco d (by omega)
        simp only [Option.some.injEq, Addr.mk.injEq, and_true] at e2
        obtain ⟨rfl, rfl⟩ := e2
        rw [HX.out 0 (by omega), HWF.out.first] at c0
        rw [HX.out d (by omega), HWF.out.last] at cd
        simp only [Nat.zero_add] at c0 cd
        have d0 : (0 : Int) < (d : Int) + 1 := by omega
        have d2 : (d : Int) < (d : Int) + 1 := by omega
        have d4 : (d : Int) + 1 - 1 = (d : Int) := by omega
        by_cases hd0 : d = 0
        · subst hd0
          have hab : (a : Int) = (b : Int) := by have e1 := HWF.out.first; have e2 := HWF.out.last; omega
          clear hco
          go_wp2_with fail
          go_ret
          exact ⟨rfl, BT.out⟩
        · have hd1 : 0 < d := by omega
          obtain ⟨b2, o2, e2, c1⟩ := hco 1 (by omega)
          simp only [Option.some.injEq, Addr.mk.injEq, and_true] at e2
          obtain ⟨rfl, rfl⟩ := e2
          rw [HX.out 1 (by omega)] at c1
          simp only [Nat.zero_add] at c1
          have hH1 := HWF.out.lt 1 (by omega)
          obtain ⟨u, hu⟩ : ∃ u, u = H 1 := ⟨_, rfl⟩
          rw [← hu] at c1 hH1 HTl
          have d5 : (1 : Int) < (d : Int) + 1 := by omega
          have d6 : ¬ (d : Int) + 1 = 1 := by omega
          have d7 : (1 : Int) ≤ (d : Int) + 1 := by omega
          have d8 : (d : Int) + 1 > 1 := by omega
          have HBk := Lib.hid (HBb.out u _ hH1 R_g.out)
          have HIk := Lib.hid (fun wx => HIb.out u wx hH1)
          obtain ⟨p', hp'⟩ : ∃ p', p' = passV (nearL n C) h u b := ⟨_, rfl⟩
          rw [← hp'] at HBk HTl
          clear hco hu hp'
          by_cases hpp : p' = p
          · subst hpp
            have hwl := HTl.out hd1 rfl
            rw [hwl] at HIk
            clear hwl HTl
            have HLt := Lib.hid (show (L.drop 1).length = d by rw [List.length_drop, HLen.out]; rfl)
            have hc1 : ¬ c_o = 1 := by have := HCap.out; omega
            have hc2 : d + 1 ≤ c_o := HCap.out
            have hc3 : (1 : Int) ≤ (c_o : Int) := by omega
            go_wp2_with fail
            refine (HBk.out).mono ?_
            rintro e w12 ⟨rfl, hb⟩
            replace R_g := Lib.hid (R_g.out.below hb)
            replace R_o := Lib.hid (R_o.out.below hb)
            replace BT := Lib.hid (BT.out.trans (hb.mono BT.out.size))
            replace HBe := Lib.hid (HBe.out.trans (hb.mono HBe.out.size))
            replace c0 := (hb.cell (p := ⟨b_o, 0, none⟩) (World.block_lt_of_cell? _ _ c0)).trans c0
            replace c1 := (hb.cell (p := ⟨b_o, 1, none⟩) (World.block_lt_of_cell? _ _ c1)).trans c1
            clear HBk
            clear hb
            go_wp2_with fail
            refine (HIk.out _ R_g.out).mono ?_
            rintro e w13 ⟨a_r, c_r, rfl, ho, hb⟩
            replace R_g := Lib.hid (R_g.out.below hb)
            replace R_o := Lib.hid (R_o.out.below hb)
            replace BT := Lib.hid (BT.out.trans (hb.mono BT.out.size))
            replace HBe := Lib.hid (HBe.out.trans (hb.mono HBe.out.size))
            have R_r := Lib.hid ho.row
            clear ho
            clear hb
            rw [HLt.out] at R_r ⊢
            have R_s := Lib.hid (show Row _ (.slice (some ⟨b_o, 1, none⟩) d (c_o - 1)) (L.drop 1) from by
              obtain ⟨-, hco⟩ := R_o.out.cells
              refine ⟨some ⟨b_o, 1, none⟩, c_o - 1, by rw [HLt.out], .inr ⟨b_o, 1, rfl, fun i hi => ?_⟩⟩
              rw [HLt.out] at hi
              obtain ⟨b2, o2, e2, cc⟩ := hco (i + 1) (by omega)
              simp only [Option.some.injEq, Addr.mk.injEq, and_true] at e2
              obtain ⟨rfl, rfl⟩ := e2
              rw [Nat.zero_add] at cc
              rw [Nat.add_comm, cc]
              simp [List.getD_eq_getElem?_getD])
            have x2 : decide (L.drop 1 = L.drop 1) = true := by simp
            have hl2 : (L.drop 1).length ≤ 1099511627776 := by rw [HLt.out]; omega
            go_wp2_with fail
            refine (calls_below (same_any _ _ (L.drop 1) (L.drop 1) _ R_r.out R_s.out hl2 hl2)).mono ?_
            rintro e w14 ⟨rfl, hb⟩
            replace R_g := Lib.hid (R_g.out.below hb)
            replace R_o := Lib.hid (R_o.out.below hb)
            replace R_r := Lib.hid (R_r.out.below hb)
            replace BT := Lib.hid (BT.out.trans (hb.mono BT.out.size))
            replace HBe := Lib.hid (HBe.out.trans (hb.mono HBe.out.size))
            clear hb
            go_wp2_with fail
            go_ret
            exact ⟨rfl, BT.out⟩
          · skip
            have hpn : (p' != p) = true := by simp [hpp]
            have hpn2 : (p' == p) = false := by simp [hpp]
            go_wp2_with fail
            refine (HBk.out).mono ?_
            rintro e w15 ⟨rfl, hb⟩
            replace R_g := Lib.hid (R_g.out.below hb)
            replace R_o := Lib.hid (R_o.out.below hb)
            replace BT := Lib.hid (BT.out.trans (hb.mono BT.out.size))
            replace HBe := Lib.hid (HBe.out.trans (hb.mono HBe.out.size))
            clear HBk
            clear hb
            go_wp2_with fail
            go_ret
            exact ⟨rfl, BT.out⟩

end Go.Proofs.Ytkhhloeemecokaa
