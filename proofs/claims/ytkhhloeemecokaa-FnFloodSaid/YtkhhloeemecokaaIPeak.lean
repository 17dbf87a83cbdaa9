/- Contracts: peak, key and prominence of the program's field. -/
import Derived.Test.YtkhhloeemecokaaPasses
import Derived.Test.YtkhhloeemecokaaIHigher
import Derived.Test.YtkhhloeemecokaaPlainKey
namespace Go.Proofs.Ytkhhloeemecokaa
open Go.RowKit
set_option linter.unusedVariables false

theorem hiZ_eq {zs : List Int} {h : Nat → Int} (hh : h = fun i => zs.getD i 0) (a b : Nat) : hiZ zs a b = hiH h a b := by rw [hh]; rfl
/-- What stands fast while a field is only read. -/
structure FSt (w : World) (n C : Nat) (s : Value) (zs : List Int) (wr : World) : Prop where
  fld : FldAt w.heap.size n C s wr
  row : Row wr s zs
  bel : Below w.heap.size w wr
theorem FSt.below {w : World} {n C : Nat} {s : Value} {zs : List Int} {wr w' : World} (p : FSt w n C s zs wr) (hb : Below wr.heap.size wr w') : FSt w n C s zs w' :=
  ⟨p.fld.below hb, p.row.below hb, p.bel.trans (hb.mono p.bel.size)⟩
theorem FSt.new {w : World} {n C : Nat} {s : Value} {zs : List Int} (hr : Row w s zs) : FSt w n C s zs (w.alloc (.cells #[.int .i64 n, .int .i64 C, s] 49)) := by
  have hb := Below.alloc (Below.refl w.heap.size w) (Nat.le_refl _) (.cells #[.int .i64 n, .int .i64 C, s] 49)
  exact ⟨FldAt.new w n C s, hr.below hb, hb⟩

theorem ipeak_no (s : Value) (zs : List Int) (n C N : Nat) (i : Int) (w : World) (hr : Row w s zs) (hl : zs.length = N) (hi : ¬ (0 ≤ i ∧ i < N)) :
    Calls Try.prog 49 #[.agg #[.int .i64 n, .int .i64 C, s], .int .i64 i] w fun e w' => e = .returned (.bool false) ∧ Below w.heap.size w w' := by
  have HS0 := Lib.hid (FSt.new (n := n) (C := C) hr)
  have HCe := Lib.hid (fun (wr : World) (hq : Row wr s zs) => icell_any s zs n C N i wr hq hl.symm)
  rw [show decide (0 ≤ i ∧ i < (N : Int)) = false by simpa using hi] at HCe
  clear hr hl hi
  obtain ⟨-, f0, f1, f2⟩ := HS0.out.fld.cells
  go_enter Try.func49, Try.ntmps49
  go_wp2_with (go_at_call 37; refine (HCe.out _ HS0.out.row).mono ?_; rintro e w1 ⟨rfl, hb1⟩; have HS1 := Lib.hid (HS0.out.below hb1))
  go_ret
  exact ⟨rfl, HS1.out.bel⟩
set_option maxHeartbeats 1000000 in
theorem ipeak_any (s : Value) (zs : List Int) (n C N i : Nat) (h : Nat → Int) (w : World) (hr : Row w s zs) (hl : zs.length = N) (hN : N = n * C) (h1 : 1 ≤ n) (h2 : n ≤ 7) (h3 : 1 ≤ C) (h4 : C ≤ 7) (hi : i < N) (hh : h = fun i => zs.getD i 0) (hG : Gr N (nearL n C) h) :
    Calls Try.prog 49 #[.agg #[.int .i64 n, .int .i64 C, s], .int .i64 (i : Nat)] w fun e w' => e = .returned (.bool (peakH (nearL n C i) h i)) ∧ Below w.heap.size w w' := by
  have HS0 := Lib.hid (FSt.new (n := n) (C := C) hr)
  have HCe := Lib.hid (fun (wr : World) (hq : Row wr s zs) => icell_any s zs n C N (i : Int) wr hq hl.symm)
  rw [show decide (0 ≤ (i : Int) ∧ (i : Int) < (N : Int)) = true by simp; omega] at HCe
  have HHi := Lib.hid (fun (j : Nat) (wr : World) (hj : j < N) (hq : Row wr s zs) => ihigher_any s zs n C N j i wr hq hl.symm hj hi)
  have HHe := Lib.hid (fun (j : Nat) => hiZ_eq hh j i)
  have HNr := Lib.hid (fun (wr : World) => neighbors_any s i n C wr h1 h2 h3 h4 (by rw [← hN]; exact hi))
  have HG := Lib.hid hG
  obtain ⟨X, hX⟩ : ∃ X, X = nearL n C i := ⟨_, rfl⟩
  have HXe := Lib.hid hX
  have HX4 := Lib.hid (show X.length ≤ 4 by rw [hX]; exact nearL_len n C i)
  rw [← hX] at HNr ⊢
  have hiI := Lib.hid hi
  clear hr hl hh hG hX hN hi
  obtain ⟨-, f0, f1, f2⟩ := HS0.out.fld.cells
  go_enter Try.func49, Try.ntmps49
  go_wp2_with fail
  go_at_call 37
  refine (HCe.out _ HS0.out.row).mono ?_
  rintro e w1 ⟨rfl, hb1⟩
  have HS1 := Lib.hid (HS0.out.below hb1)
  clear hb1 HS0 f0 f1 f2
  obtain ⟨-, f0, f1, f2⟩ := HS1.out.fld.cells
  go_wp2_with fail
  go_at_call 43
  refine (HNr.out _).mono ?_
  rintro e w7 ⟨aX, cX, rfl, ho, hb7⟩
  obtain ⟨x, hx⟩ : ∃ x, x = X.length := ⟨_, rfl⟩
  rw [← hx] at ho HX4 ⊢
  have HXl := Lib.hid hx
  have HRX := Lib.hid ho.row
  have HS7 := Lib.hid (HS1.out.below hb7)
  clear hx ho hb7 HS1 f0 f1 f2
  go_wp2_with fail
  go_loopw [15] (fun q wr => ∃ m : Nat, m ≤ x ∧ q = .int .i64 m ∧ peakH (X.take m) h i = true ∧ FSt w n C s zs wr ∧ Row wr (.slice aX x cX) X) (fun q _ => x - (intOf q).toNat)
  case atStart => exact ⟨0, Nat.zero_le _, rfl, rfl, HS7.out, HRX.out⟩
  case round =>
    obtain ⟨m, hmx, rfl, hp, hs, hrx⟩ := hrel
    clear HS7 HRX
    have HP := Lib.hid hp
    have HS := Lib.hid hs
    have HRX := Lib.hid hrx
    have hx4 := HX4.out
    clear hp hs hrx
    by_cases hlt : m < x
    · obtain ⟨-, hcx⟩ := HRX.out.cells
      obtain ⟨gX, oX, rfl, hxm⟩ := hcx m hlt
      have hmem : X.getD m 0 ∈ nearL n C i := by rw [← HXe.out, List.getD_eq_getElem?_getD, List.getElem?_eq_getElem (by rw [← HXl.out]; exact hlt)]; simp
      obtain ⟨j, hj, hjN⟩ := HG.out.inb i hiI.out _ hmem
      rw [hj] at hxm
      have HJ := Lib.hid hj
      clear hcx hj hmem
      have d1 : (m : Int) < (x : Int) := by omega
      obtain ⟨-, f0, f1, f2⟩ := HS.out.fld.cells
      have HHj := Lib.hid (HHi.out j wr hjN HS.out.row)
      rw [HHe.out j] at HHj
      cases hq : hiH h j i
      · have HQ := Lib.hid hq
        rw [hq] at HHj
        clear hq
        go_wp2_with (go_at_call 71; refine HHj.out.mono ?_; rintro e w8 ⟨rfl, hb8⟩)
        go_roundw
        case rel => exact ⟨m + 1, by omega, by go_num, peak_pre (by rw [← HXl.out]; exact hlt) HJ.out HQ.out HP.out, HS.out.below hb8, HRX.out.below hb8⟩
        case measure => simp [intOf]; omega
      · have HQ := Lib.hid hq
        rw [hq] at HHj
        clear hq
        go_wp2_with (go_at_call 71; refine HHj.out.mono ?_; rintro e w8 ⟨rfl, hb8⟩)
        go_ret
        exact ⟨ret_bool (peak_no (by rw [← HXl.out]; exact hlt) HJ.out HQ.out).symm, (HS.out.below hb8).bel⟩
    · have hmx2 : x = m := by omega
      subst hmx2
      go_wp2_with fail
      go_ret
      rw [HXl.out, List.take_length] at HP
      exact ⟨ret_bool HP.out.symm, HS.out.bel⟩
set_option maxHeartbeats 1000000 in
theorem ikey_any (s : Value) (zs : List Int) (n C N i : Nat) (h : Nat → Int) (w : World) (hr : Row w s zs) (hl : zs.length = N) (hN : N = n * C) (h1 : 1 ≤ n) (h2 : n ≤ 7) (h3 : 1 ≤ C) (h4 : C ≤ 7) (hi : i < N) (hh : h = fun i => zs.getD i 0) (hG : Gr N (nearL n C) h) :
    Calls Try.prog 50 #[.agg #[.int .i64 n, .int .i64 C, s], .int .i64 (i : Nat)] w fun e w' => e = .returned (.int .i64 (keyH N (nearL n C) h i)) ∧ Below w.heap.size w w' := by
  have HS0 := Lib.hid (FSt.new (n := n) (C := C) hr)
  have HPa := Lib.hid (fun (wr : World) (hq : Row wr s zs) => passes_any s zs n C N i wr hq hl hN h1 h2 h3 h4 hi (by rw [← hh]; exact hG))
  rw [← hh] at HPa
  have HHi := Lib.hid (fun (j : Nat) (wr : World) (hj : j < N) (hq : Row wr s zs) => ihigher_any s zs n C N j i wr hq hl.symm hj hi)
  have HHe := Lib.hid (fun (j : Nat) => hiZ_eq hh j i)
  have HH := Lib.hid (show ∀ j, zs.getD j 0 = h j from fun j => by rw [hh])
  obtain ⟨sa, cap, rfl⟩ := hr.shape
  rw [hl] at HS0 HPa HHi ⊢
  have hN49 : N ≤ 49 := by rw [hN]; exact Nat.mul_le_mul h2 h4
  obtain ⟨-, hc⟩ := hr.cells
  rw [hl] at hc
  obtain ⟨b, off, rfl, qi⟩ := hc i hi
  have hb := World.block_lt_of_cell? _ _ qi
  have HC := Lib.hid (show ∀ j, j < N → w.cell? ⟨b, off + j, none⟩ = some (.int .i64 (zs.getD j 0)) from fun j hj => by
    obtain ⟨b', o', e, h⟩ := hc j hj
    simp only [Option.some.injEq, Addr.mk.injEq, and_true] at e
    obtain ⟨rfl, rfl⟩ := e
    exact h)
  obtain ⟨P, hP⟩ : ∃ P, P = passL N (nearL n C) h i := ⟨_, rfl⟩
  have HK := Lib.hid (show keyH N (nearL n C) h i = if 0 ≤ bestK P h i N then bestK P h i N else lowK h (h i) N by unfold keyH; rw [hP])
  have HPl := Lib.hid (show P.length = N by rw [hP]; exact passL_len _ _ _ _)
  rw [← hP] at HPa
  clear hr hl hh hG hN hc qi hP
  obtain ⟨-, f0, f1, f2⟩ := HS0.out.fld.cells
  go_enter Try.func50, Try.ntmps50
  go_wp2_with fail
  go_at_call 41
  refine (HPa.out _ HS0.out.row).mono ?_
  rintro e w7 ⟨aX, cX, rfl, ho, hb7⟩
  rw [HPl.out] at ho ⊢
  have HRX := Lib.hid ho.row
  have HS7 := Lib.hid (HS0.out.below hb7)
  clear ho hb7 HS0 f0 f1 f2
  go_wp2_with fail
  go_loopw [5, 15] (fun t q wr => ∃ m : Nat, m ≤ N ∧ q = .int .i64 m ∧ t = .int .i64 (bestK P h i m) ∧ FSt w n C (.slice (some ⟨b, off, none⟩) N cap) zs wr ∧ Row wr (.slice aX N cX) P) (fun _ q _ => N - (intOf q).toNat)
  case atStart => exact ⟨0, Nat.zero_le _, rfl, rfl, HS7.out, HRX.out⟩
  case round =>
    obtain ⟨m, hmx, rfl, rfl, hs, hrx⟩ := hrel
    clear HS7 HRX
    have HS := Lib.hid hs
    have HRX := Lib.hid hrx
    clear hs hrx
    by_cases hlt : m < N
    · obtain ⟨-, hcx⟩ := HRX.out.cells
      obtain ⟨gX, oX, rfl, hxm⟩ := hcx m hlt
      clear hcx
      obtain ⟨pm, hpm⟩ : ∃ pm, pm = P.getD m 0 := ⟨_, rfl⟩
      rw [← hpm] at hxm
      have HBs := Lib.hid (show bestK P h i (m + 1) = if hiH h m i = true then max (bestK P h i m) pm else bestK P h i m by rw [hpm]; rfl)
      obtain ⟨bm, hbm⟩ : ∃ bm, bm = bestK P h i m := ⟨_, rfl⟩
      rw [← hbm] at HBs ⊢
      clear hpm hbm
      have d1 : (m : Int) < (N : Int) := by omega
      obtain ⟨-, f0, f1, f2⟩ := HS.out.fld.cells
      have HHj := Lib.hid (HHi.out m wr hlt HS.out.row)
      rw [HHe.out m] at HHj
      cases hq : hiH h m i
      · have HQ := Lib.hid hq
        rw [hq] at HHj
        clear hq
        go_wp2_with (go_at_call 71; refine HHj.out.mono ?_; rintro e w8 ⟨rfl, hb8⟩)
        go_roundw
        case rel => exact ⟨m + 1, by omega, by go_num, by rw [HBs.out, HQ.out]; rfl, HS.out.below hb8, HRX.out.below hb8⟩
        case measure => simp [intOf]; omega
      · have HQ := Lib.hid hq
        rw [hq] at HHj
        clear hq
        go_wp2_with (go_at_call 71; refine HHj.out.mono ?_; rintro e w8 ⟨rfl, hb8⟩)
        go_roundw
        case rel => exact ⟨m + 1, by omega, by go_num, by rw [HBs.out, HQ.out]; rfl, HS.out.below hb8, HRX.out.below hb8⟩
        case measure => simp [intOf]; omega
    · have hmx2 : N = m := by omega
      subst hmx2
      obtain ⟨bm, hbm⟩ : ∃ bm, bm = bestK P h i N := ⟨_, rfl⟩
      rw [← hbm] at HK ⊢
      clear hbm
      by_cases hb0 : bm ≥ 0
      · have HB0 := Lib.hid hb0
        go_wp2_with fail
        go_ret
        exact ⟨ret_int (by rw [HK.out, if_pos HB0.out]), HS.out.bel⟩
      · have HB0 := Lib.hid hb0
        obtain ⟨-, -, -, f2⟩ := HS.out.fld.cells
        have qi := (HS.out.bel.cell (p := ⟨b, off + i, none⟩) hb).trans (HC.out i hi)
        rw [HH.out i] at qi
        have d2 : (i : Int) < (N : Int) := by omega
        go_wp2_with fail
        obtain ⟨wo, hwo⟩ : ∃ wo : World, wo = wr := ⟨_, rfl⟩
        rw [← hwo] at HS ⊢
        clear f2 qi hwo
        go_loopw [8, 39] (fun t q wr => ∃ m : Nat, m ≤ N ∧ q = .int .i64 m ∧ t = .int .i64 (lowK h (h i) m) ∧ FSt w n C (.slice (some ⟨b, off, none⟩) N cap) zs wr) (fun _ q _ => N - (intOf q).toNat)
        case atStart => exact ⟨0, Nat.zero_le _, rfl, rfl, HS.out⟩
        case round =>
          obtain ⟨m, hmx3, rfl, rfl, hs⟩ := hrel
          clear HS
          have HS := Lib.hid hs
          clear hs
          by_cases hlt3 : m < N
          · have qm := (HS.out.bel.cell (p := ⟨b, off + m, none⟩) hb).trans (HC.out m hlt3)
            rw [HH.out m] at qm
            have HLs := Lib.hid (show lowK h (h i) (m + 1) = min (lowK h (h i) m) (h m) from rfl)
            obtain ⟨lm, hlm⟩ : ∃ lm, lm = lowK h (h i) m := ⟨_, rfl⟩
            rw [← hlm] at HLs ⊢
            clear hlm
            have d3 : (m : Int) < (N : Int) := by omega
            go_wp2_with fail
            go_roundw
            case rel => exact ⟨m + 1, by omega, by go_num, by rw [HLs.out], HS.out⟩
            case measure => simp [intOf]; omega
          · have hmx4 : N = m := by omega
            subst hmx4
            obtain ⟨lm, hlm⟩ : ∃ lm, lm = lowK h (h i) N := ⟨_, rfl⟩
            rw [← hlm] at HK ⊢
            clear hlm
            go_wp2_with fail
            go_ret
            exact ⟨ret_int (by rw [HK.out, if_neg (by have := HB0.out; omega)]), HS.out.bel⟩

end Go.Proofs.Ytkhhloeemecokaa
