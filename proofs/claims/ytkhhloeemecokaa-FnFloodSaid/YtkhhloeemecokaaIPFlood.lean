/- Contract: PeakFlood of the program. -/
import Derived.Test.YtkhhloeemecokaaRegions
import Derived.Test.YtkhhloeemecokaaIPeak
import Derived.Test.YtkhhloeemecokaaFldYes
import Derived.Test.YtkhhloeemecokaaPlainPw
import Derived.Test.YtkhhloeemecokaaPlainWay
import Derived.Deep.RegionHeld3
import Derived.Deep.Cut
namespace Go.Proofs.Ytkhhloeemecokaa
open Go.RowKit
set_option linter.unusedVariables false


set_option maxRecDepth 4000 in
set_option maxHeartbeats 4000000 in
theorem ipflood_any (v : Value) (g : List (List Int)) (a b : Int) (w : World) (hr : MRow w v g) (h1 : g.length ≤ 1048576) (h2 : tot g ≤ 1048576) :
    Calls Try.prog 9 #[v, .int .i64 a, .int .i64 b] w (fun e w' => e = .returned (.int .i64 (pbV g a b)) ∧ Below w.heap.size w w') := by
  cases hv : gvalB g
  · have HF := Lib.hid (fld_no hr hv h1 h2)
    have HB := Lib.hid (pway_val (a := a) (b := b) hv)
    clear hr hv
    go_enter Try.func9, Try.ntmps9
    go_wp2_with (go_at_call 36; refine HF.out.mono ?_; rintro e w1 ⟨rfl, hb1⟩)
    go_ret
    exact ⟨ret_int (by unfold pbV; rw [HB.out]; rfl), Below.alloc hb1 hb1.size _⟩
  · obtain ⟨p1, p2, p3, p4⟩ := gval_rows hv
    obtain ⟨n, hn⟩ : ∃ n, n = g.length := ⟨_, rfl⟩
    obtain ⟨C, hC⟩ : ∃ C, C = colsG g := ⟨_, rfl⟩
    obtain ⟨N, hN⟩ : ∃ N, N = n * C := ⟨_, rfl⟩
    have HF := Lib.hid (fld_yes hr hv n C N hn hC hN h1 h2)
    have hG := grVal hv hn hC
    have hff := flat_fun (C := C) hn (by omega)
    obtain ⟨zs, hz⟩ : ∃ zs, zs = flatG g n C N := ⟨_, rfl⟩
    have hzl : zs.length = N := by rw [hz, flat_len, ← hN]
    have hNg : N = g.length * colsG g := by rw [hN, hn, hC]
    rw [← hN, ← hz] at hff
    rw [← hN] at hG
    rw [← hz] at HF
    rw [← hn] at p1 p2
    rw [← hC] at p3 p4
    have HCe := Lib.hid (fun (i : Int) (s : Value) (wr : World) (hq : Row wr s zs) => icell_any s zs n C N i wr hq hzl.symm)
    by_cases ha : 0 ≤ a ∧ a < (N : Int)
    · by_cases hb : 0 ≤ b ∧ b < (N : Int)
      · obtain ⟨a, rfl⟩ : ∃ k : Nat, a = k := ⟨a.toNat, by omega⟩
        obtain ⟨b, rfl⟩ : ∃ k : Nat, b = k := ⟨b.toNat, by omega⟩
        have haN : a < N := by omega
        have hbN : b < N := by omega
        have hpw := pway_in hv hNg haN hbN
        have HVal := Lib.hid (show pbV g a b = passV (nearL n C) (hgtG g C) a b by unfold pbV; rw [if_pos hpw, ← hn, ← hC, Int.toNat_natCast, Int.toNat_natCast])
        have HTa := Lib.hid (show decide (0 ≤ (a : Int) ∧ (a : Int) < (N : Int)) = true from decide_eq_true ha)
        have HTb := Lib.hid (show decide (0 ≤ (b : Int) ∧ (b : Int) < (N : Int)) = true from decide_eq_true hb)
        have HReg := Lib.hid (fun (lev : Int) (s : Value) (wr : World) (hq : Row wr s zs) => regions_any s zs n C N lev (hgtG g C) wr hq hzl hN p1 p2 p3 p4 hff.symm hG)
        have hIs := passV_is hG haN hbN
        have hp99 : passV (nearL n C) (hgtG g C) a b ≤ 99 := by
          have h1 := hIs.top.1
          have hq : a / C < n := Nat.div_lt_of_lt_mul (by rw [Nat.mul_comm, ← hN]; exact haN)
          have hm : a % C < C := Nat.mod_lt _ (by omega)
          have h2 := (gval_cell hv (a / C) (a % C) (by omega) (by omega)).2
          have h3 : hgtG g C a = cellG g (a / C) (a % C) := rfl
          omega
        have hp0 := hIs.nonneg hG haN
        have HBo := Lib.hid (fun (lev : Int) (num : List Int) (R : RegOk N (nearL n C) (hgtG g C) lev num) => R.both haN hbN)
        obtain ⟨p, hp⟩ : ∃ p, p = passV (nearL n C) (hgtG g C) a b := ⟨_, rfl⟩
        rw [← hp] at hIs hp99 hp0 HVal
        have HIs := Lib.hid hIs
        have HNl := Lib.hid (show ∀ (lev : Int) (num : List Int), RegOk N (nearL n C) (hgtG g C) lev num → num.length = N from fun _ _ R => R.len)
        clear hr hv hG hff hzl hn hC hN hNg ha hb hz p1 p2 p3 p4 hpw hp hIs
        have dA : (a : Int) < (N : Int) := by omega
        have dB : (b : Int) < (N : Int) := by omega
        go_enter Try.func9, Try.ntmps9
        go_wp2_with (go_at_call 36; refine HF.out.mono ?_; rintro e w1 ⟨G, rfl, ho, hb1⟩; (have HR1 := Lib.hid (ho.row.below (Below.alloc (Below.refl w1.heap.size w1) (Nat.le_refl _) (.cells #[.int .i64 n, .int .i64 C, .slice (some ⟨G, 0, none⟩) N N] 49)))); (have HB1 := Lib.hid (Below.alloc hb1 hb1.size (.cells #[.int .i64 n, .int .i64 C, .slice (some ⟨G, 0, none⟩) N N] 49))); (have F1 := Lib.hid (FldAt.new w1 n C (.slice (some ⟨G, 0, none⟩) N N))); clear ho hb1)
        go_at_call 37
        obtain ⟨W1, hW1⟩ : ∃ W1, W1 = w1.alloc (.cells #[.int .i64 n, .int .i64 C, .slice (some ⟨G, 0, none⟩) N N] 49) := ⟨_, rfl⟩
        rw [← hW1] at HR1 HB1 F1 ⊢
        clear hW1
        refine (HCe.out _ _ _ HR1.out).mono ?_
        rintro e w2 ⟨rfl, hb2⟩
        rw [HTa.out]
        have HR2 := Lib.hid (HR1.out.below hb2)
        have HF2 := Lib.hid (F1.out.below hb2)
        have HB2 := Lib.hid (HB1.out.trans (hb2.mono HB1.out.size))
        obtain ⟨-, f0, f1, f2⟩ := HF2.out.cells
        clear hb2 HB1 F1 HR1
        go_wp2_with fail
        go_at_call 37
        refine (HCe.out _ _ _ HR2.out).mono ?_
        rintro e w3 ⟨rfl, hb3⟩
        rw [HTb.out]
        have HR3 := Lib.hid (HR2.out.below hb3)
        have HB3 := Lib.hid (HB2.out.trans (hb3.mono HB2.out.size))
        have HF3 := Lib.hid (HF2.out.below hb3)
        clear hb3 HB2 HR2 HF2 f0 f1 f2
        go_wp2_with fail
        go_loopw [9] (fun q wr => ∃ t : Nat, t ≤ 99 ∧ q = .int .i64 t ∧ p ≤ t ∧ Below w3.heap.size w3 wr) (fun q _ => (intOf q).toNat)
        case atStart => exact ⟨99, Nat.le_refl _, rfl, hp99, Below.refl _ _⟩
        case round =>
          obtain ⟨t, ht, rfl, hpt, hbw⟩ := hrel
          have HBw := Lib.hid hbw
          clear hbw
          by_cases ht0 : 0 < t
          · have d1 : (t : Int) > 0 := by omega
            have HFw := Lib.hid (HF3.out.below HBw.out)
            have HRw := Lib.hid (HR3.out.below HBw.out)
            have HRe := Lib.hid (HReg.out t _ wr HRw.out)
            obtain ⟨-, f0, f1, f2⟩ := HFw.out.cells
            go_wp2_with fail
            go_at_call 38
            refine HRe.out.mono ?_
            rintro e w5 ⟨aN, cN, cnt, num, rfl, hrow, hreg, hb5⟩
            have HBt := Lib.hid (HBo.out t num hreg)
            have HB5 := Lib.hid (HBw.out.trans (hb5.mono HBw.out.size))
            obtain ⟨-, hcn⟩ := hrow.cells
            obtain ⟨gN, oN, rfl, ka⟩ := hcn a (by omega)
            obtain ⟨g2, o2, e2, kb⟩ := hcn b (by omega)
            simp only [Option.some.injEq, Addr.mk.injEq, and_true] at e2
            obtain ⟨rfl, rfl⟩ := e2
            obtain ⟨na, hna⟩ : ∃ x, x = num.getD a 0 := ⟨_, rfl⟩
            obtain ⟨nb, hnb⟩ : ∃ x, x = num.getD b 0 := ⟨_, rfl⟩
            rw [← hna] at ka HBt
            rw [← hnb] at kb HBt
            clear hrow hreg hb5 hcn hna hnb HRe f0 f1 f2
            by_cases c1 : 0 ≤ na
            · have c1g : na ≥ 0 := c1
              by_cases c2 : na = nb
              · have hpe : p = (t : Int) := by
                  have r1 := HBt.out.1 ⟨c1, c2⟩
                  have r2 := HIs.out.2 _ r1
                  omega
                subst c2
                go_upto_region 8 with (fail)
                refine wp_region_held_drew (S := fun wx => wx.cell? ⟨gN, oN + a, none⟩ = some (.int .i64 na) ∧ wx.cell? ⟨gN, oN + b, none⟩ = some (.int .i64 na)) (by kernel_rfl) (⟨ka, kb⟩) (fun hHeld => ?_)
                refine wpAnyH_take (i := 0) (oi := { dst := some 41, op := _, type := _, pos := _, after := _, guard := _ }) (v := ?_) rfl (by kernel_rfl) (by kernel_rfl) (by kernel_rfl) (fun _ _ _ h => h) (Or.inl ⟨by rfl, ?_⟩) (by assumption) ?_
                case refine_2 => ((intro w hSw; (try dsimp only at hSw); go_simp); try with_reducible rfl)
                try simp only [Act.put, List.setIfInBounds_toArray, List.set_cons_zero, List.set_cons_succ]
                refine wpAnyH_take (i := 1) (oi := { dst := some 42, op := _, type := _, pos := _, after := _, guard := _ }) (v := ?_) rfl (by kernel_rfl) (by kernel_rfl) (by kernel_rfl) (fun _ _ _ h => h) (Or.inl ⟨by rfl, ?_⟩) (by assumption) ?_
                case refine_2 => ((intro w hSw; (try dsimp only at hSw); go_simp); try with_reducible rfl)
                try simp only [Act.put, List.setIfInBounds_toArray, List.set_cons_zero, List.set_cons_succ]
                refine wpAnyH_take (i := 2) (oi := { dst := some 43, op := _, type := _, pos := _, after := _, guard := _ }) (v := ?_) rfl (by kernel_rfl) (by kernel_rfl) (by kernel_rfl) (fun _ _ _ h => h) (Or.inl ⟨by rfl, ?_⟩) (by assumption) ?_
                case refine_2 => ((intro w hSw; (try dsimp only at hSw); go_simp); try with_reducible rfl)
                try simp only [Act.put, List.setIfInBounds_toArray, List.set_cons_zero, List.set_cons_succ]
                refine wpAnyH_take (i := 3) (oi := { dst := some 44, op := _, type := _, pos := _, after := _, guard := _ }) (v := ?_) rfl (by kernel_rfl) (by kernel_rfl) (by kernel_rfl) (fun _ _ _ h => h) (Or.inl ⟨by rfl, ?_⟩) (by assumption) ?_
                case refine_2 => ((intro w hSw; (try dsimp only at hSw); go_simp); try with_reducible rfl)
                try simp only [Act.put, List.setIfInBounds_toArray, List.set_cons_zero, List.set_cons_succ]
                refine wpAnyH_take (i := 4) (oi := { dst := some 45, op := _, type := _, pos := _, after := _, guard := _ }) (v := ?_) rfl (by kernel_rfl) (by kernel_rfl) (by kernel_rfl) (fun _ _ _ h => h) (Or.inl ⟨by rfl, ?_⟩) (by assumption) ?_
                case refine_2 => ((intro w hSw; (try dsimp only at hSw); go_simp); try with_reducible rfl)
                try simp only [Act.put, List.setIfInBounds_toArray, List.set_cons_zero, List.set_cons_succ]
                refine wpAnyH_take (i := 5) (oi := { dst := some 46, op := _, type := _, pos := _, after := _, guard := _ }) (v := ?_) rfl (by kernel_rfl) (by kernel_rfl) (by kernel_rfl) (fun _ _ _ h => h) (Or.inl ⟨by rfl, ?_⟩) (by assumption) ?_
                case refine_2 => ((intro w hSw; (try dsimp only at hSw); go_simp); try with_reducible rfl)
                try simp only [Act.put, List.setIfInBounds_toArray, List.set_cons_zero, List.set_cons_succ]
                refine wpAnyH_take (i := 6) (oi := { dst := some 47, op := _, type := _, pos := _, after := _, guard := _ }) (v := ?_) rfl (by kernel_rfl) (by kernel_rfl) (by kernel_rfl) (fun _ _ _ h => h) (Or.inl ⟨by rfl, ?_⟩) (by assumption) ?_
                case refine_2 => ((intro w hSw; (try dsimp only at hSw); go_simp); try with_reducible rfl)
                try simp only [Act.put, List.setIfInBounds_toArray, List.set_cons_zero, List.set_cons_succ]
                refine wpAnyH_take (i := 7) (oi := { dst := some 48, op := _, type := _, pos := _, after := _, guard := _ }) (v := ?_) rfl (by kernel_rfl) (by kernel_rfl) (by kernel_rfl) (fun _ _ _ h => h) (Or.inl ⟨by rfl, ?_⟩) (by assumption) ?_
                case refine_2 => ((intro w hSw; (try dsimp only at hSw); go_simp); try with_reducible rfl)
                try simp only [Act.put, List.setIfInBounds_toArray, List.set_cons_zero, List.set_cons_succ]
                refine wpAnyH_take (i := 8) (oi := { dst := some 49, op := _, type := _, pos := _, after := _, guard := _ }) (v := ?_) rfl (by kernel_rfl) (by kernel_rfl) (by kernel_rfl) (fun _ _ _ h => h) (Or.inl ⟨by rfl, ?_⟩) (by assumption) ?_
                case refine_2 => ((intro w hSw; (try dsimp only at hSw); go_simp); try with_reducible rfl)
                try simp only [Act.put, List.setIfInBounds_toArray, List.set_cons_zero, List.set_cons_succ]
                refine wpAnyH_take (i := 9) (oi := { dst := some 50, op := _, type := _, pos := _, after := _, guard := _ }) (v := ?_) rfl (by kernel_rfl) (by kernel_rfl) (by kernel_rfl) (fun _ _ _ h => h) (Or.inl ⟨by rfl, ?_⟩) (by assumption) ?_
                case refine_2 => ((intro w hSw; (try dsimp only at hSw); go_simp); try with_reducible rfl)
                try simp only [Act.put, List.setIfInBounds_toArray, List.set_cons_zero, List.set_cons_succ]
                refine wpAnyH_take (i := 10) (oi := { dst := some 51, op := _, type := _, pos := _, after := _, guard := _ }) (v := ?_) rfl (by kernel_rfl) (by kernel_rfl) (by kernel_rfl) (fun _ _ _ h => h) (Or.inl ⟨by rfl, ?_⟩) (by assumption) ?_
                case refine_2 => ((intro w hSw; (try dsimp only at hSw); go_simp); try with_reducible rfl)
                try simp only [Act.put, List.setIfInBounds_toArray, List.set_cons_zero, List.set_cons_succ]
                refine wpAnyH_take (i := 11) (oi := { dst := some 52, op := _, type := _, pos := _, after := _, guard := _ }) (v := ?_) rfl (by kernel_rfl) (by kernel_rfl) (by kernel_rfl) (fun _ _ _ h => h) (Or.inl ⟨by rfl, ?_⟩) (by assumption) ?_
                case refine_2 => ((intro w hSw; (try dsimp only at hSw); go_simp); try with_reducible rfl)
                try simp only [Act.put, List.setIfInBounds_toArray, List.set_cons_zero, List.set_cons_succ]
                refine wpAnyH_take (i := 12) (oi := { dst := some 53, op := _, type := _, pos := _, after := _, guard := _ }) (v := ?_) rfl (by kernel_rfl) (by kernel_rfl) (by kernel_rfl) (fun _ _ _ h => h) (Or.inl ⟨by rfl, ?_⟩) (by assumption) ?_
                case refine_2 => ((intro w hSw; (try dsimp only at hSw); go_simp); try with_reducible rfl)
                try simp only [Act.put, List.setIfInBounds_toArray, List.set_cons_zero, List.set_cons_succ]
                refine wpAnyH_take (i := 13) (oi := { dst := some 54, op := _, type := _, pos := _, after := _, guard := _ }) (v := ?_) rfl (by kernel_rfl) (by kernel_rfl) (by kernel_rfl) (fun _ _ _ h => h) (Or.inl ⟨by rfl, ?_⟩) (by assumption) ?_
                case refine_2 => ((intro w hSw; (try dsimp only at hSw); go_simp); try with_reducible rfl)
                try simp only [Act.put, List.setIfInBounds_toArray, List.set_cons_zero, List.set_cons_succ]
                refine wpAnyH_take (i := 14) (oi := { dst := some 55, op := _, type := _, pos := _, after := _, guard := _ }) (v := ?_) rfl (by kernel_rfl) (by kernel_rfl) (by kernel_rfl) (fun _ _ _ h => h) (Or.inl ⟨by rfl, ?_⟩) (by assumption) ?_
                case refine_2 => ((intro w hSw; (try dsimp only at hSw); go_simp); try with_reducible rfl)
                try simp only [Act.put, List.setIfInBounds_toArray, List.set_cons_zero, List.set_cons_succ]
                refine wpAnyH_take (i := 15) (oi := { dst := some 56, op := _, type := _, pos := _, after := _, guard := _ }) (v := ?_) rfl (by kernel_rfl) (by kernel_rfl) (by kernel_rfl) (fun _ _ _ h => h) (Or.inl ⟨by rfl, ?_⟩) (by assumption) ?_
                case refine_2 => ((intro w hSw; (try dsimp only at hSw); go_simp); try with_reducible rfl)
                try simp only [Act.put, List.setIfInBounds_toArray, List.set_cons_zero, List.set_cons_succ]
                refine wpAnyH_done (by kernel_rfl) ?_ _
                clear hHeld
                skip
                go_wp2_with fail
                go_ret
                exact ⟨ret_int (by rw [HVal.out, hpe]), HB3.out.trans ((HB5.out.trans (show Below w3.heap.size w5 w5.drew from (below_drewN (Below.refl w5.heap.size w5) 1).mono HB5.out.size)).mono HB3.out.size)⟩
              · have hpl : p ≤ ((t - 1 : Nat) : Int) := by
                  have r1 : p ≠ (t : Int) := fun e => by
                    have r2 := HIs.out.1
                    rw [e] at r2
                    have r3 := HBt.out.2 r2
                    exact c2 r3.2
                  omega
                go_upto_region 8 with (fail)
                refine wp_region_held_drew (S := fun wx => wx.cell? ⟨gN, oN + a, none⟩ = some (.int .i64 na) ∧ wx.cell? ⟨gN, oN + b, none⟩ = some (.int .i64 nb)) (by kernel_rfl) (⟨ka, kb⟩) (fun hHeld => ?_)
                refine wpAnyH_take (i := 0) (oi := { dst := some 41, op := _, type := _, pos := _, after := _, guard := _ }) (v := ?_) rfl (by kernel_rfl) (by kernel_rfl) (by kernel_rfl) (fun _ _ _ h => h) (Or.inl ⟨by rfl, ?_⟩) (by assumption) ?_
                case refine_2 => ((intro w hSw; (try dsimp only at hSw); go_simp); try with_reducible rfl)
                try simp only [Act.put, List.setIfInBounds_toArray, List.set_cons_zero, List.set_cons_succ]
                refine wpAnyH_take (i := 1) (oi := { dst := some 42, op := _, type := _, pos := _, after := _, guard := _ }) (v := ?_) rfl (by kernel_rfl) (by kernel_rfl) (by kernel_rfl) (fun _ _ _ h => h) (Or.inl ⟨by rfl, ?_⟩) (by assumption) ?_
                case refine_2 => ((intro w hSw; (try dsimp only at hSw); go_simp); try with_reducible rfl)
                try simp only [Act.put, List.setIfInBounds_toArray, List.set_cons_zero, List.set_cons_succ]
                refine wpAnyH_take (i := 2) (oi := { dst := some 43, op := _, type := _, pos := _, after := _, guard := _ }) (v := ?_) rfl (by kernel_rfl) (by kernel_rfl) (by kernel_rfl) (fun _ _ _ h => h) (Or.inl ⟨by rfl, ?_⟩) (by assumption) ?_
                case refine_2 => ((intro w hSw; (try dsimp only at hSw); go_simp); try with_reducible rfl)
                try simp only [Act.put, List.setIfInBounds_toArray, List.set_cons_zero, List.set_cons_succ]
                refine wpAnyH_take (i := 3) (oi := { dst := some 44, op := _, type := _, pos := _, after := _, guard := _ }) (v := ?_) rfl (by kernel_rfl) (by kernel_rfl) (by kernel_rfl) (fun _ _ _ h => h) (Or.inl ⟨by rfl, ?_⟩) (by assumption) ?_
                case refine_2 => ((intro w hSw; (try dsimp only at hSw); go_simp); try with_reducible rfl)
                try simp only [Act.put, List.setIfInBounds_toArray, List.set_cons_zero, List.set_cons_succ]
                refine wpAnyH_take (i := 4) (oi := { dst := some 45, op := _, type := _, pos := _, after := _, guard := _ }) (v := ?_) rfl (by kernel_rfl) (by kernel_rfl) (by kernel_rfl) (fun _ _ _ h => h) (Or.inl ⟨by rfl, ?_⟩) (by assumption) ?_
                case refine_2 => ((intro w hSw; (try dsimp only at hSw); go_simp); try with_reducible rfl)
                try simp only [Act.put, List.setIfInBounds_toArray, List.set_cons_zero, List.set_cons_succ]
                refine wpAnyH_take (i := 5) (oi := { dst := some 46, op := _, type := _, pos := _, after := _, guard := _ }) (v := ?_) rfl (by kernel_rfl) (by kernel_rfl) (by kernel_rfl) (fun _ _ _ h => h) (Or.inl ⟨by rfl, ?_⟩) (by assumption) ?_
                case refine_2 => ((intro w hSw; (try dsimp only at hSw); go_simp); try with_reducible rfl)
                try simp only [Act.put, List.setIfInBounds_toArray, List.set_cons_zero, List.set_cons_succ]
                refine wpAnyH_take (i := 6) (oi := { dst := some 47, op := _, type := _, pos := _, after := _, guard := _ }) (v := ?_) rfl (by kernel_rfl) (by kernel_rfl) (by kernel_rfl) (fun _ _ _ h => h) (Or.inl ⟨by rfl, ?_⟩) (by assumption) ?_
                case refine_2 => ((intro w hSw; (try dsimp only at hSw); go_simp); try with_reducible rfl)
                try simp only [Act.put, List.setIfInBounds_toArray, List.set_cons_zero, List.set_cons_succ]
                refine wpAnyH_take (i := 7) (oi := { dst := some 48, op := _, type := _, pos := _, after := _, guard := _ }) (v := ?_) rfl (by kernel_rfl) (by kernel_rfl) (by kernel_rfl) (fun _ _ _ h => h) (Or.inl ⟨by rfl, ?_⟩) (by assumption) ?_
                case refine_2 => ((intro w hSw; (try dsimp only at hSw); go_simp); try with_reducible rfl)
                try simp only [Act.put, List.setIfInBounds_toArray, List.set_cons_zero, List.set_cons_succ]
                refine wpAnyH_take (i := 8) (oi := { dst := some 49, op := _, type := _, pos := _, after := _, guard := _ }) (v := ?_) rfl (by kernel_rfl) (by kernel_rfl) (by kernel_rfl) (fun _ _ _ h => h) (Or.inl ⟨by rfl, ?_⟩) (by assumption) ?_
                case refine_2 => ((intro w hSw; (try dsimp only at hSw); go_simp); try with_reducible rfl)
                try simp only [Act.put, List.setIfInBounds_toArray, List.set_cons_zero, List.set_cons_succ]
                refine wpAnyH_take (i := 9) (oi := { dst := some 50, op := _, type := _, pos := _, after := _, guard := _ }) (v := ?_) rfl (by kernel_rfl) (by kernel_rfl) (by kernel_rfl) (fun _ _ _ h => h) (Or.inl ⟨by rfl, ?_⟩) (by assumption) ?_
                case refine_2 => ((intro w hSw; (try dsimp only at hSw); go_simp); try with_reducible rfl)
                try simp only [Act.put, List.setIfInBounds_toArray, List.set_cons_zero, List.set_cons_succ]
                refine wpAnyH_take (i := 10) (oi := { dst := some 51, op := _, type := _, pos := _, after := _, guard := _ }) (v := ?_) rfl (by kernel_rfl) (by kernel_rfl) (by kernel_rfl) (fun _ _ _ h => h) (Or.inl ⟨by rfl, ?_⟩) (by assumption) ?_
                case refine_2 => ((intro w hSw; (try dsimp only at hSw); go_simp); try with_reducible rfl)
                try simp only [Act.put, List.setIfInBounds_toArray, List.set_cons_zero, List.set_cons_succ]
                refine wpAnyH_take (i := 11) (oi := { dst := some 52, op := _, type := _, pos := _, after := _, guard := _ }) (v := ?_) rfl (by kernel_rfl) (by kernel_rfl) (by kernel_rfl) (fun _ _ _ h => h) (Or.inl ⟨by rfl, ?_⟩) (by assumption) ?_
                case refine_2 => ((intro w hSw; (try dsimp only at hSw); go_simp); try with_reducible rfl)
                try simp only [Act.put, List.setIfInBounds_toArray, List.set_cons_zero, List.set_cons_succ]
                refine wpAnyH_take (i := 12) (oi := { dst := some 53, op := _, type := _, pos := _, after := _, guard := _ }) (v := ?_) rfl (by kernel_rfl) (by kernel_rfl) (by kernel_rfl) (fun _ _ _ h => h) (Or.inl ⟨by rfl, ?_⟩) (by assumption) ?_
                case refine_2 => ((intro w hSw; (try dsimp only at hSw); go_simp); try with_reducible rfl)
                try simp only [Act.put, List.setIfInBounds_toArray, List.set_cons_zero, List.set_cons_succ]
                refine wpAnyH_take (i := 13) (oi := { dst := some 54, op := _, type := _, pos := _, after := _, guard := _ }) (v := ?_) rfl (by kernel_rfl) (by kernel_rfl) (by kernel_rfl) (fun _ _ _ h => h) (Or.inl ⟨by rfl, ?_⟩) (by assumption) ?_
                case refine_2 => ((intro w hSw; (try dsimp only at hSw); go_simp); try with_reducible rfl)
                try simp only [Act.put, List.setIfInBounds_toArray, List.set_cons_zero, List.set_cons_succ]
                refine wpAnyH_take (i := 14) (oi := { dst := some 55, op := _, type := _, pos := _, after := _, guard := _ }) (v := ?_) rfl (by kernel_rfl) (by kernel_rfl) (by kernel_rfl) (fun _ _ _ h => h) (Or.inl ⟨by rfl, ?_⟩) (by assumption) ?_
                case refine_2 => ((intro w hSw; (try dsimp only at hSw); go_simp); try with_reducible rfl)
                try simp only [Act.put, List.setIfInBounds_toArray, List.set_cons_zero, List.set_cons_succ]
                refine wpAnyH_take (i := 15) (oi := { dst := some 56, op := _, type := _, pos := _, after := _, guard := _ }) (v := ?_) rfl (by kernel_rfl) (by kernel_rfl) (by kernel_rfl) (fun _ _ _ h => h) (Or.inl ⟨by rfl, ?_⟩) (by assumption) ?_
                case refine_2 => ((intro w hSw; (try dsimp only at hSw); go_simp); try with_reducible rfl)
                try simp only [Act.put, List.setIfInBounds_toArray, List.set_cons_zero, List.set_cons_succ]
                refine wpAnyH_done (by kernel_rfl) ?_ _
                clear hHeld
                skip
                go_wp2_with fail
                go_roundw
                case rel => exact ⟨t - 1, by omega, by rw [show (t : Int) - 1 = ((t - 1 : Nat) : Int) by omega], hpl, HB5.out.trans (show Below w3.heap.size w5 w5.drew from (below_drewN (Below.refl w5.heap.size w5) 1).mono HB5.out.size)⟩
                case measure => simp [intOf]; omega
            · have hpl : p ≤ ((t - 1 : Nat) : Int) := by
                have r1 : p ≠ (t : Int) := fun e => by
                  have r2 := HIs.out.1
                  rw [e] at r2
                  have r3 := HBt.out.2 r2
                  exact c1 r3.1
                omega
              have c1n : na < 0 := by omega
              have c1d : decide (0 ≤ na) = false := decide_eq_false c1
              have c1g : ¬ na ≥ 0 := c1
              go_upto_region 8 with (fail)
              refine wp_region_held_drew (S := fun wx => wx.cell? ⟨gN, oN + a, none⟩ = some (.int .i64 na) ∧ wx.cell? ⟨gN, oN + b, none⟩ = some (.int .i64 nb)) (by kernel_rfl) (⟨ka, kb⟩) (fun hHeld => ?_)
              refine wpAnyH_take (i := 0) (oi := { dst := some 41, op := _, type := _, pos := _, after := _, guard := _ }) (v := ?_) rfl (by kernel_rfl) (by kernel_rfl) (by kernel_rfl) (fun _ _ _ h => h) (Or.inl ⟨by rfl, ?_⟩) (by assumption) ?_
              case refine_2 => ((intro w hSw; (try dsimp only at hSw); go_simp); try with_reducible rfl)
              try simp only [Act.put, List.setIfInBounds_toArray, List.set_cons_zero, List.set_cons_succ]
              refine wpAnyH_take (i := 1) (oi := { dst := some 42, op := _, type := _, pos := _, after := _, guard := _ }) (v := ?_) rfl (by kernel_rfl) (by kernel_rfl) (by kernel_rfl) (fun _ _ _ h => h) (Or.inl ⟨by rfl, ?_⟩) (by assumption) ?_
              case refine_2 => ((intro w hSw; (try dsimp only at hSw); go_simp); try with_reducible rfl)
              try simp only [Act.put, List.setIfInBounds_toArray, List.set_cons_zero, List.set_cons_succ]
              refine wpAnyH_take (i := 2) (oi := { dst := some 43, op := _, type := _, pos := _, after := _, guard := _ }) (v := ?_) rfl (by kernel_rfl) (by kernel_rfl) (by kernel_rfl) (fun _ _ _ h => h) (Or.inl ⟨by rfl, ?_⟩) (by assumption) ?_
              case refine_2 => ((intro w hSw; (try dsimp only at hSw); go_simp); try with_reducible rfl)
              try simp only [Act.put, List.setIfInBounds_toArray, List.set_cons_zero, List.set_cons_succ]
              refine wpAnyH_take (i := 3) (oi := { dst := some 44, op := _, type := _, pos := _, after := _, guard := _ }) (v := ?_) rfl (by kernel_rfl) (by kernel_rfl) (by kernel_rfl) (fun _ _ _ h => h) (Or.inl ⟨by rfl, ?_⟩) (by assumption) ?_
              case refine_2 => ((intro w hSw; (try dsimp only at hSw); go_simp); try with_reducible rfl)
              try simp only [Act.put, List.setIfInBounds_toArray, List.set_cons_zero, List.set_cons_succ]
              refine wpAnyH_take (i := 4) (oi := { dst := some 45, op := _, type := _, pos := _, after := _, guard := _ }) (v := ?_) rfl (by kernel_rfl) (by kernel_rfl) (by kernel_rfl) (fun _ _ _ h => h) (Or.inl ⟨by rfl, ?_⟩) (by assumption) ?_
              case refine_2 => ((intro w hSw; (try dsimp only at hSw); go_simp); try with_reducible rfl)
              try simp only [Act.put, List.setIfInBounds_toArray, List.set_cons_zero, List.set_cons_succ]
              refine wpAnyH_take (i := 5) (oi := { dst := some 46, op := _, type := _, pos := _, after := _, guard := _ }) (v := ?_) rfl (by kernel_rfl) (by kernel_rfl) (by kernel_rfl) (fun _ _ _ h => h) (Or.inl ⟨by rfl, ?_⟩) (by assumption) ?_
              case refine_2 => ((intro w hSw; (try dsimp only at hSw); go_simp); try with_reducible rfl)
              try simp only [Act.put, List.setIfInBounds_toArray, List.set_cons_zero, List.set_cons_succ]
              refine wpAnyH_take (i := 6) (oi := { dst := some 47, op := _, type := _, pos := _, after := _, guard := _ }) (v := undef) rfl (by kernel_rfl) (by kernel_rfl) (by kernel_rfl) (fun _ _ _ h => h) (Or.inr ⟨by rfl, rfl⟩) (by assumption) ?_
              try simp only [Act.put, List.setIfInBounds_toArray, List.set_cons_zero, List.set_cons_succ]
              refine wpAnyH_take (i := 7) (oi := { dst := some 48, op := _, type := _, pos := _, after := _, guard := _ }) (v := undef) rfl (by kernel_rfl) (by kernel_rfl) (by kernel_rfl) (fun _ _ _ h => h) (Or.inr ⟨by rfl, rfl⟩) (by assumption) ?_
              try simp only [Act.put, List.setIfInBounds_toArray, List.set_cons_zero, List.set_cons_succ]
              refine wpAnyH_take (i := 8) (oi := { dst := some 49, op := _, type := _, pos := _, after := _, guard := _ }) (v := undef) rfl (by kernel_rfl) (by kernel_rfl) (by kernel_rfl) (fun _ _ _ h => h) (Or.inr ⟨by rfl, rfl⟩) (by assumption) ?_
              try simp only [Act.put, List.setIfInBounds_toArray, List.set_cons_zero, List.set_cons_succ]
              refine wpAnyH_take (i := 9) (oi := { dst := some 50, op := _, type := _, pos := _, after := _, guard := _ }) (v := undef) rfl (by kernel_rfl) (by kernel_rfl) (by kernel_rfl) (fun _ _ _ h => h) (Or.inr ⟨by rfl, rfl⟩) (by assumption) ?_
              try simp only [Act.put, List.setIfInBounds_toArray, List.set_cons_zero, List.set_cons_succ]
              refine wpAnyH_take (i := 10) (oi := { dst := some 51, op := _, type := _, pos := _, after := _, guard := _ }) (v := undef) rfl (by kernel_rfl) (by kernel_rfl) (by kernel_rfl) (fun _ _ _ h => h) (Or.inr ⟨by rfl, rfl⟩) (by assumption) ?_
              try simp only [Act.put, List.setIfInBounds_toArray, List.set_cons_zero, List.set_cons_succ]
              refine wpAnyH_take (i := 11) (oi := { dst := some 52, op := _, type := _, pos := _, after := _, guard := _ }) (v := undef) rfl (by kernel_rfl) (by kernel_rfl) (by kernel_rfl) (fun _ _ _ h => h) (Or.inr ⟨by rfl, rfl⟩) (by assumption) ?_
              try simp only [Act.put, List.setIfInBounds_toArray, List.set_cons_zero, List.set_cons_succ]
              refine wpAnyH_take (i := 12) (oi := { dst := some 53, op := _, type := _, pos := _, after := _, guard := _ }) (v := undef) rfl (by kernel_rfl) (by kernel_rfl) (by kernel_rfl) (fun _ _ _ h => h) (Or.inr ⟨by rfl, rfl⟩) (by assumption) ?_
              try simp only [Act.put, List.setIfInBounds_toArray, List.set_cons_zero, List.set_cons_succ]
              refine wpAnyH_take (i := 13) (oi := { dst := some 54, op := _, type := _, pos := _, after := _, guard := _ }) (v := undef) rfl (by kernel_rfl) (by kernel_rfl) (by kernel_rfl) (fun _ _ _ h => h) (Or.inr ⟨by rfl, rfl⟩) (by assumption) ?_
              try simp only [Act.put, List.setIfInBounds_toArray, List.set_cons_zero, List.set_cons_succ]
              refine wpAnyH_take (i := 14) (oi := { dst := some 55, op := _, type := _, pos := _, after := _, guard := _ }) (v := undef) rfl (by kernel_rfl) (by kernel_rfl) (by kernel_rfl) (fun _ _ _ h => h) (Or.inr ⟨by rfl, rfl⟩) (by assumption) ?_
              try simp only [Act.put, List.setIfInBounds_toArray, List.set_cons_zero, List.set_cons_succ]
              refine wpAnyH_take (i := 15) (oi := { dst := some 56, op := _, type := _, pos := _, after := _, guard := _ }) (v := ?_) rfl (by kernel_rfl) (by kernel_rfl) (by kernel_rfl) (fun _ _ _ h => h) (Or.inl ⟨by rfl, ?_⟩) (by assumption) ?_
              case refine_2 => ((intro w hSw; (try dsimp only at hSw); go_simp); try with_reducible rfl)
              try simp only [Act.put, List.setIfInBounds_toArray, List.set_cons_zero, List.set_cons_succ]
              refine wpAnyH_done (by kernel_rfl) ?_ _
              clear hHeld
              skip
              go_wp2_with fail
              go_roundw
              case rel => exact ⟨t - 1, by omega, by rw [show (t : Int) - 1 = ((t - 1 : Nat) : Int) by omega], hpl, HB5.out.trans (show Below w3.heap.size w5 w5.drew from (below_drewN (Below.refl w5.heap.size w5) 1).mono HB5.out.size)⟩
              case measure => simp [intOf]; omega
          · have htz : t = 0 := by omega
            subst htz
            have hpz : p = 0 := by omega
            go_wp2_with fail
            go_ret
            exact ⟨ret_int (by rw [HVal.out, hpz]), HB3.out.trans (HBw.out.mono HB3.out.size)⟩
      · have HB := Lib.hid (pway_b (a := a) hNg hb)
        have HTa := Lib.hid (show decide (0 ≤ a ∧ a < (N : Int)) = true from decide_eq_true ha)
        have HTb := Lib.hid (show decide (0 ≤ b ∧ b < (N : Int)) = false from decide_eq_false hb)
        clear hr hv hG hff hzl hn hC hN hNg ha hb hz p1 p2 p3 p4
        go_enter Try.func9, Try.ntmps9
        go_wp2_with (go_at_call 36; refine HF.out.mono ?_; rintro e w1 ⟨G, rfl, ho, hb1⟩; (have HR1 := Lib.hid (ho.row.below (Below.alloc (Below.refl w1.heap.size w1) (Nat.le_refl _) (.cells #[.int .i64 n, .int .i64 C, .slice (some ⟨G, 0, none⟩) N N] 49)))); (have HB1 := Lib.hid (Below.alloc hb1 hb1.size (.cells #[.int .i64 n, .int .i64 C, .slice (some ⟨G, 0, none⟩) N N] 49))); (have F1 := Lib.hid (FldAt.new w1 n C (.slice (some ⟨G, 0, none⟩) N N))); clear ho hb1)
        go_at_call 37
        obtain ⟨W1, hW1⟩ : ∃ W1, W1 = w1.alloc (.cells #[.int .i64 n, .int .i64 C, .slice (some ⟨G, 0, none⟩) N N] 49) := ⟨_, rfl⟩
        rw [← hW1] at HR1 HB1 F1 ⊢
        clear hW1
        refine (HCe.out _ _ _ HR1.out).mono ?_
        rintro e w2 ⟨rfl, hb2⟩
        rw [HTa.out]
        have HR2 := Lib.hid (HR1.out.below hb2)
        have HB2 := Lib.hid (HB1.out.trans (hb2.mono HB1.out.size))
        obtain ⟨-, f0, f1, f2⟩ := (F1.out.below hb2).cells
        clear hb2 HB1 F1 HR1
        go_wp2_with fail
        go_at_call 37
        refine (HCe.out _ _ _ HR2.out).mono ?_
        rintro e w3 ⟨rfl, hb3⟩
        rw [HTb.out]
        go_wp2_with fail
        go_ret
        exact ⟨ret_int (by unfold pbV; rw [HB.out]; rfl), HB2.out.trans (hb3.mono HB2.out.size)⟩
    · have HB := Lib.hid (pway_a (b := b) hNg ha)
      have HTa := Lib.hid (show decide (0 ≤ a ∧ a < (N : Int)) = false from decide_eq_false ha)
      clear hr hv hG hff hzl hn hC hN hNg ha hz p1 p2 p3 p4
      go_enter Try.func9, Try.ntmps9
      go_wp2_with (go_at_call 36; refine HF.out.mono ?_; rintro e w1 ⟨G, rfl, ho, hb1⟩; (have HR1 := Lib.hid (ho.row.below (Below.alloc (Below.refl w1.heap.size w1) (Nat.le_refl _) (.cells #[.int .i64 n, .int .i64 C, .slice (some ⟨G, 0, none⟩) N N] 49)))); (have HB1 := Lib.hid (Below.alloc hb1 hb1.size (.cells #[.int .i64 n, .int .i64 C, .slice (some ⟨G, 0, none⟩) N N] 49))); (have F1 := Lib.hid (FldAt.new w1 n C (.slice (some ⟨G, 0, none⟩) N N))); clear ho hb1)
      go_at_call 37
      obtain ⟨W1, hW1⟩ : ∃ W1, W1 = w1.alloc (.cells #[.int .i64 n, .int .i64 C, .slice (some ⟨G, 0, none⟩) N N] 49) := ⟨_, rfl⟩
      rw [← hW1] at HR1 HB1 F1 ⊢
      clear hW1
      refine (HCe.out _ _ _ HR1.out).mono ?_
      rintro e w2 ⟨rfl, hb2⟩
      rw [HTa.out]
      go_wp2_with fail
      go_ret
      exact ⟨ret_int (by unfold pbV; rw [HB.out]; rfl), HB1.out.trans (hb2.mono HB1.out.size)⟩

end Go.Proofs.Ytkhhloeemecokaa
