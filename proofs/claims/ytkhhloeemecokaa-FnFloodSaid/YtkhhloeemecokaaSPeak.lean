/- Contracts: l4Has, l4Peak, PeakIs, GridRange, PeakKey and PeakProminence of the reference. -/
import Derived.Test.YtkhhloeemecokaaIProm
import Derived.Test.YtkhhloeemecokaaSPasses
import Derived.Test.YtkhhloeemecokaaHigher
import Derived.Test.YtkhhloeemecokaaGVal
import Derived.Test.YtkhhloeemecokaaValid
namespace Go.Proofs.Ytkhhloeemecokaa
open Go.RowKit
set_option linter.unusedVariables false

def hasG (g : List (List Int)) (i : Int) : Bool := gvalB g && decide (0 ≤ i ∧ i < ((g.length * colsG g : Nat) : Int))
theorem l4Has_any (v : Value) (g : List (List Int)) (i : Int) (w : World) (hr : MRow w v g) (h1 : g.length ≤ 1048576) (h2 : tot g ≤ 1048576) :
    Calls Try.prog 65 #[v, .int .i64 i] w fun e w' => e = .returned (.bool (hasG g i)) ∧ Below w.heap.size w w' := by
  have HV := Lib.hid (sgval_any v g w hr h1 h2)
  cases hv : gvalB g
  · have HB := Lib.hid (show hasG g i = false by simp [hasG, hv])
    rw [hv] at HV
    clear hr hv
    go_enter Try.func65, Try.ntmps65
    go_wp2_with (go_at_call 73; refine HV.out.mono ?_; rintro e w1 ⟨rfl, hb1⟩)
    go_ret
    exact ⟨ret_bool HB.out.symm, hb1⟩
  · obtain ⟨p1, p2, p3, p4⟩ := gval_rows hv
    obtain ⟨N, hN⟩ : ∃ N, N = g.length * colsG g := ⟨_, rfl⟩
    have hN49 : N ≤ 49 := by rw [hN]; exact Nat.mul_le_mul p2 p4
    have HCl := Lib.hid (fun (wr : World) (hb : Below w.heap.size w wr) => l2Cells_any v g g.length (colsG g) N wr (hr.below hb) rfl rfl hN p1 p2 (by omega))
    have HIn := Lib.hid (fun (wr : World) => in_any i 0 ((N : Int) - 1) wr)
    have HB := Lib.hid (show hasG g i = inB i 0 ((N : Int) - 1) by
      unfold hasG
      rw [hv, ← hN, Bool.true_and, Bool.eq_iff_iff, inB_iff]
      simp
      omega)
    rw [hv] at HV
    clear hr hv hN p1 p2 p3 p4
    go_enter Try.func65, Try.ntmps65
    go_wp2_with (first | (go_at_call 73; refine HV.out.mono ?_; rintro e w1 ⟨rfl, hb1⟩; have HB1 := Lib.hid hb1; clear hb1) | (go_at_call 66; refine (HCl.out _ HB1.out).mono ?_; rintro e w2 ⟨rfl, rfl⟩) | (go_at_call 75; refine (HIn.out _).mono ?_; rintro e w3 ⟨rfl, rfl⟩))
    go_ret
    exact ⟨ret_bool HB.out.symm, HB1.out⟩
set_option maxHeartbeats 1000000 in
theorem l4Peak_any (v : Value) (g : List (List Int)) (n C i : Nat) (w : World) (hr : MRow w v g) (hv : gvalB g = true) (hn : n = g.length) (hC : C = colsG g) (hi : i < n * C) :
    Calls Try.prog 72 #[v, .int .i64 (i : Nat)] w fun e w' => e = .returned (.bool (peakH (nearL n C i) (hgtG g C) i)) ∧ Below w.heap.size w w' := by
  have hG := grVal hv hn hC
  obtain ⟨h1, h2, h3, h4⟩ := gval_rows hv
  rw [← hn] at h1 h2
  rw [← hC] at h3 h4
  have hrow : ∀ r, r < n → (g.getD r []).length = C := fun r hr => by rw [hC]; exact gval_len hv r (by omega)
  obtain ⟨N, hN⟩ : ∃ N, N = n * C := ⟨_, rfl⟩
  have HHi := Lib.hid (fun (j : Nat) (wr : World) (hj : j < N) (hb : Below w.heap.size w wr) => l4Higher_any v g j i n C wr (hr.below hb) hn hC h3 h2 h4 (by rw [← hN]; exact hj) hi hrow)
  have HHe := Lib.hid (show ∀ j, hiB g C j i = hiH (hgtG g C) j i from fun j => rfl)
  have HNr := Lib.hid (fun (wr : World) (hb : Below w.heap.size w wr) => l2Near_any v g i n C wr (hr.below hb) hn hC h1 h2 h3 h4 hi)
  rw [← hN] at hG hi
  have HG := Lib.hid hG
  obtain ⟨X, hX⟩ : ∃ X, X = nearL n C i := ⟨_, rfl⟩
  have HXe := Lib.hid hX
  have HX4 := Lib.hid (show X.length ≤ 4 by rw [hX]; exact nearL_len n C i)
  rw [← hX] at HNr ⊢
  obtain ⟨h, hh⟩ : ∃ h : Nat → Int, h = hgtG g C := ⟨_, rfl⟩
  rw [← hh] at HHe HG ⊢
  have hiI := Lib.hid hi
  clear hr hG hX hN hi hv hn hC hrow hh h1 h2 h3 h4
  have HB0 := Lib.hid (Below.refl w.heap.size w)
  go_enter Try.func72, Try.ntmps72
  go_wp2_with fail
  go_at_call 45
  refine (HNr.out _ HB0.out).mono ?_
  rintro e w7 ⟨aX, cX, rfl, ho, hb7⟩
  obtain ⟨x, hx⟩ : ∃ x, x = X.length := ⟨_, rfl⟩
  rw [← hx] at ho HX4 ⊢
  have HXl := Lib.hid hx
  have HRX := Lib.hid ho.row
  have HB7 := Lib.hid hb7
  clear hx ho hb7 HB0
  go_wp2_with fail
  go_loopw [6] (fun q wr => ∃ m : Nat, m ≤ x ∧ q = .int .i64 m ∧ peakH (X.take m) h i = true ∧ Below w.heap.size w wr ∧ Row wr (.slice aX x cX) X) (fun q _ => x - (intOf q).toNat)
  case atStart => exact ⟨0, Nat.zero_le _, rfl, rfl, HB7.out, HRX.out⟩
  case round =>
    obtain ⟨m, hmx, rfl, hp, hs, hrx⟩ := hrel
    clear HB7 HRX
    have HP := Lib.hid hp
    have HB := Lib.hid hs
    have HRX := Lib.hid hrx
    have hx4 := HX4.out
    clear hp hs hrx
    by_cases hlt : m < x
    · obtain ⟨-, hcx⟩ := HRX.out.cells
      obtain ⟨gX, oX, rfl, hxm⟩ := hcx m hlt
      have hmem : X.getD m 0 ∈ nearL n C i := by rw [← HXe.out, List.getD_eq_getElem?_getD, List.getElem?_eq_getElem (by rw [← HXl.out]; exact hlt)]; simp
      obtain ⟨j, hj, hjN⟩ := HG.out.inb i hiI.out _ hmem
      rw [hj] at hxm
      have HJ := Lib.hid hj
      clear hcx hj hmem
      have d1 : (m : Int) < (x : Int) := by omega
      have HHj := Lib.hid (HHi.out j wr hjN HB.out)
      rw [HHe.out j] at HHj
      cases hq : hiH h j i
      · have HQ := Lib.hid hq
        rw [hq] at HHj
        clear hq
        go_wp2_with (go_at_call 53; refine HHj.out.mono ?_; rintro e w8 ⟨rfl, hb8⟩)
        go_roundw
        case rel => exact ⟨m + 1, by omega, by go_num, peak_pre (by rw [← HXl.out]; exact hlt) HJ.out HQ.out HP.out, HB.out.trans (hb8.mono HB.out.size), HRX.out.below hb8⟩
        case measure => simp [intOf]; omega
      · have HQ := Lib.hid hq
        rw [hq] at HHj
        clear hq
        go_wp2_with (go_at_call 53; refine HHj.out.mono ?_; rintro e w8 ⟨rfl, hb8⟩)
        go_ret
        exact ⟨ret_bool (peak_no (by rw [← HXl.out]; exact hlt) HJ.out HQ.out).symm, HB.out.trans (hb8.mono HB.out.size)⟩
    · have hmx2 : x = m := by omega
      subst hmx2
      go_wp2_with fail
      go_ret
      rw [HXl.out, List.take_length] at HP
      exact ⟨ret_bool HP.out.symm, HB.out⟩
theorem peakIs_any (v : Value) (g : List (List Int)) (i : Int) (w : World) (hr : MRow w v g) (h1 : g.length ≤ 1048576) (h2 : tot g ≤ 1048576) :
    Calls Try.prog 51 #[v, .int .i64 i] w fun e w' => e = .returned (.bool (isPk g i)) ∧ Below w.heap.size w w' := by
  have HH := Lib.hid (l4Has_any v g i w hr h1 h2)
  cases hh : hasG g i
  · have HB := Lib.hid (show isPk g i = false by
      unfold hasG at hh
      unfold isPk
      rw [← Bool.and_assoc, hh, Bool.false_and])
    rw [hh] at HH
    clear hr hh
    go_enter Try.func51, Try.ntmps51
    go_wp2_with (go_at_call 65; refine HH.out.mono ?_; rintro e w1 ⟨rfl, hb1⟩)
    go_ret
    exact ⟨ret_bool HB.out.symm, hb1⟩
  · rw [hh] at HH
    unfold hasG at hh
    simp only [Bool.and_eq_true, decide_eq_true_eq] at hh
    obtain ⟨hv, hi0, hi1⟩ := hh
    obtain ⟨k, rfl⟩ : ∃ k : Nat, i = k := ⟨i.toNat, by omega⟩
    have hk : k < g.length * colsG g := by omega
    have HP := Lib.hid (fun (wr : World) (hb : Below w.heap.size w wr) => l4Peak_any v g g.length (colsG g) k wr (hr.below hb) hv rfl rfl hk)
    have HB := Lib.hid (isPk_in hv rfl rfl hk)
    obtain ⟨q, hq⟩ : ∃ q, q = peakH (nearL g.length (colsG g) k) (hgtG g (colsG g)) k := ⟨_, rfl⟩
    rw [← hq] at HP HB
    clear hr hv hi0 hi1 hk hq
    go_enter Try.func51, Try.ntmps51
    go_wp2_with (first | (go_at_call 65; refine HH.out.mono ?_; rintro e w1 ⟨rfl, hb1⟩; have HB1 := Lib.hid hb1; clear hb1) | (go_at_call 72; refine (HP.out _ HB1.out).mono ?_; rintro e w2 ⟨rfl, hb2⟩))
    go_ret
    exact ⟨ret_bool HB.out.symm, HB1.out.trans (hb2.mono HB1.out.size)⟩
set_option maxHeartbeats 2000000 in
theorem sgrange_any (v : Value) (g : List (List Int)) (n C N : Nat) (w : World) (hr : MRow w v g) (hv : gvalB g = true) (hn : n = g.length) (hC : C = colsG g) (hN : N = n * C) (h1 : g.length ≤ 1048576) (h2 : tot g ≤ 1048576) :
    Calls Try.prog 54 #[v] w fun e w' => e = .returned (.tuple #[.int .i64 (lowK (hgtG g C) (hgtG g C 0) N), .int .i64 (highK (hgtG g C) (hgtG g C 0) N), .bool true]) ∧ Below w.heap.size w w' := by
  have HV := Lib.hid (sgval_any v g w hr h1 h2)
  rw [hv] at HV
  obtain ⟨p1, p2, p3, p4⟩ := gval_rows hv
  rw [← hn] at p1 p2
  rw [← hC] at p3 p4
  have hrow : ∀ r, r < n → (g.getD r []).length = C := fun r hr => by rw [hC]; exact gval_len hv r (by omega)
  obtain ⟨a, cap, rfl⟩ := hr.shape
  rw [← hn] at hr HV ⊢
  obtain ⟨-, hc⟩ := hr.cells
  obtain ⟨b, off, u0, rfl, q0, hr0⟩ := hc 0 (by omega)
  have hb := World.block_lt_of_cell? _ _ q0
  have HR := Lib.hid (show ∀ r, r < n → ∃ b2 o2 c1, w.cell? ⟨b, off + r, none⟩ = some (.slice (some ⟨b2, o2, none⟩) C c1) ∧ b2 < w.heap.size ∧ ∀ c, c < C → w.cell? ⟨b2, o2 + c, none⟩ = some (.int .i64 (hgtG g C (r * C + c))) from fun r hrn => by
    obtain ⟨b', off', u, hb', q1, hrr⟩ := hc r hrn
    simp only [Option.some.injEq, Addr.mk.injEq] at hb'
    obtain ⟨rfl, rfl, -⟩ := hb'
    obtain ⟨a1, c1, rfl⟩ := hrr.shape
    obtain ⟨-, hcz⟩ := hrr.cells
    rw [hrow r hrn] at hcz q1
    obtain ⟨b2, o2, rfl, q2⟩ := hcz 0 (by omega)
    refine ⟨b2, o2, c1, q1, World.block_lt_of_cell? _ _ q2, fun c hcC => ?_⟩
    obtain ⟨b3, o3, e3, q3⟩ := hcz c hcC
    simp only [Option.some.injEq, Addr.mk.injEq, and_true] at e3
    obtain ⟨rfl, rfl⟩ := e3
    rw [q3]
    unfold hgtG cellG
    rw [(idx_div hcC).1, (idx_div hcC).2])
  have HN := Lib.hid hN
  have hN49 : N ≤ 49 := by rw [hN]; exact Nat.mul_le_mul p2 p4
  obtain ⟨h, hh⟩ : ∃ h : Nat → Int, h = hgtG g C := ⟨_, rfl⟩
  rw [← hh] at HR ⊢
  clear hr hv hn hC hN hrow hc q0 hr0 hh
  go_enter Try.func54, Try.ntmps54
  go_wp2_with fail
  go_at_call 73
  refine HV.out.mono ?_
  rintro e w1 ⟨rfl, hb1⟩
  have HR1 := Lib.hid (show ∀ r, r < n → ∃ b2 o2 c1, w1.cell? ⟨b, off + r, none⟩ = some (.slice (some ⟨b2, o2, none⟩) C c1) ∧ ∀ c, c < C → w1.cell? ⟨b2, o2 + c, none⟩ = some (.int .i64 (h (r * C + c))) from fun r hrn => by
    obtain ⟨b2, o2, c1, q1, hlt, q2⟩ := HR.out r hrn
    exact ⟨b2, o2, c1, (hb1.cell (p := ⟨b, off + r, none⟩) hb).trans q1, fun c hcC => (hb1.cell (p := ⟨b2, o2 + c, none⟩) hlt).trans (q2 c hcC)⟩)
  have HB1 := Lib.hid hb1
  obtain ⟨b2, o2, c1, q1, q2⟩ := HR1.out 0 (by omega)
  have q3 := q2 0 (by omega)
  rw [Nat.zero_mul, Nat.zero_add, Nat.add_zero] at q3
  rw [Nat.add_zero] at q1
  have d0 : (0 : Int) < (n : Int) := by omega
  have d1 : (0 : Int) < (C : Int) := by omega
  clear hb1 HR q2
  go_wp2_with fail
  clear q1 q3
  go_loopw [5, 6, 7] (fun s t q wr => ∃ r : Nat, r ≤ n ∧ q = .int .i64 r ∧ s = .int .i64 (lowK h (h 0) (r * C)) ∧ t = .int .i64 (highK h (h 0) (r * C)) ∧ wr = w1) (fun _ _ q _ => n - (intOf q).toNat)
  case atStart => exact ⟨0, Nat.zero_le _, rfl, by rw [Nat.zero_mul]; rfl, by rw [Nat.zero_mul]; rfl, rfl⟩
  case round =>
    obtain ⟨r, hrn, rfl, rfl, rfl, rfl⟩ := hrel
    by_cases hlt : r < n
    · obtain ⟨b2, o2, c1, q1, q2⟩ := HR1.out r hlt
      have HQ2 := Lib.hid q2
      clear q2
      have d2 : (r : Int) < (n : Int) := by omega
      go_wp2_with fail
      go_loopw [5, 6, 8] (fun s t q wx => ∃ c : Nat, c ≤ C ∧ q = .int .i64 c ∧ s = .int .i64 (lowK h (h 0) (r * C + c)) ∧ t = .int .i64 (highK h (h 0) (r * C + c)) ∧ wx = wr) (fun _ _ q _ => C - (intOf q).toNat)
      case atStart => exact ⟨0, Nat.zero_le _, rfl, rfl, rfl, rfl⟩
      case round =>
        obtain ⟨c, hcC, rfl, rfl, rfl, rfl⟩ := hrel
        by_cases hlt2 : c < C
        · have q2 := HQ2.out c hlt2
          have HLs := Lib.hid (show lowK h (h 0) (r * C + (c + 1)) = min (lowK h (h 0) (r * C + c)) (h (r * C + c)) from rfl)
          have HTs := Lib.hid (show highK h (h 0) (r * C + (c + 1)) = max (highK h (h 0) (r * C + c)) (h (r * C + c)) from rfl)
          obtain ⟨lm, hlm⟩ : ∃ lm, lm = lowK h (h 0) (r * C + c) := ⟨_, rfl⟩
          obtain ⟨tm, htm⟩ : ∃ tm, tm = highK h (h 0) (r * C + c) := ⟨_, rfl⟩
          obtain ⟨y, hy⟩ : ∃ y, y = h (r * C + c) := ⟨_, rfl⟩
          rw [← hlm, ← hy] at HLs
          rw [← htm, ← hy] at HTs
          rw [← hy] at q2
          rw [← hlm, ← htm]
          clear hlm htm hy
          have d3 : (c : Int) < (C : Int) := by omega
          go_wp2_with fail
          go_roundw
          case rel => exact ⟨c + 1, by omega, by go_num, by rw [HLs.out], by rw [HTs.out], trivial⟩
          case measure => simp [intOf]; omega
        · have hce : C = c := by omega
          subst hce
          go_wp2_with fail
          go_roundw
          case rel => exact ⟨r + 1, by omega, by go_num, by rw [show (r + 1) * C = r * C + C by rw [Nat.add_mul, Nat.one_mul]], by rw [show (r + 1) * C = r * C + C by rw [Nat.add_mul, Nat.one_mul]], trivial⟩
          case measure => simp [intOf]; omega
    · have hre : n = r := by omega
      subst hre
      rw [← HN.out]
      go_wp2_with fail
      go_ret3
      exact ⟨rfl, HB1.out⟩
set_option maxHeartbeats 1000000 in
theorem speakKey_any (v : Value) (g : List (List Int)) (i : Int) (w : World) (hr : MRow w v g) (h1 : g.length ≤ 1048576) (h2 : tot g ≤ 1048576) :
    Calls Try.prog 28 #[v, .int .i64 i] w fun e w' => e = .returned (.int .i64 (pkeyV g i)) ∧ Below w.heap.size w w' := by
  have HPk := Lib.hid (peakIs_any v g i w hr h1 h2)
  cases hp : isPk g i
  · have HB := Lib.hid (show pkeyV g i = -1 by unfold pkeyV; rw [hp]; rfl)
    rw [hp] at HPk
    clear hr hp
    go_enter Try.func28, Try.ntmps28
    go_wp2_with (go_at_call 51; refine HPk.out.mono ?_; rintro e w1 ⟨rfl, hb1⟩)
    go_ret
    exact ⟨ret_int HB.out.symm, hb1⟩
  · have HB := Lib.hid (show pkeyV g i = keyG g i by unfold pkeyV; rw [hp]; rfl)
    rw [hp] at HPk
    have hp2 := hp
    unfold isPk at hp2
    simp only [Bool.and_eq_true, decide_eq_true_eq] at hp2
    obtain ⟨hv, ⟨hi0, hi1⟩, -⟩ := hp2
    obtain ⟨k, rfl⟩ : ∃ k : Nat, i = k := ⟨i.toNat, by omega⟩
    obtain ⟨n, hn⟩ : ∃ n, n = g.length := ⟨_, rfl⟩
    obtain ⟨C, hC⟩ : ∃ C, C = colsG g := ⟨_, rfl⟩
    obtain ⟨N, hN⟩ : ∃ N, N = n * C := ⟨_, rfl⟩
    have hkN : k < N := by rw [hN, hn, hC]; omega
    obtain ⟨p1, p2, p3, p4⟩ := gval_rows hv
    rw [← hn] at p1 p2
    rw [← hC] at p3 p4
    have hN49 : N ≤ 49 := by rw [hN]; exact Nat.mul_le_mul p2 p4
    have hrow : ∀ r, r < n → (g.getD r []).length = C := fun r hr => by rw [hC]; exact gval_len hv r (by omega)
    have HPa := Lib.hid (fun (wr : World) (hb : Below w.heap.size w wr) => l4Passes_any v g n C N k wr (hr.below hb) hv hn hC hN hkN)
    have HHi := Lib.hid (fun (j : Nat) (wr : World) (hj : j < N) (hb : Below w.heap.size w wr) => l4Higher_any v g j k n C wr (hr.below hb) hn hC p3 p2 p4 (by rw [← hN]; exact hj) (by rw [← hN]; exact hkN) hrow)
    have HHe := Lib.hid (show ∀ j, hiB g C j k = hiH (hgtG g C) j k from fun j => rfl)
    have HGr := Lib.hid (fun (wr : World) (hb : Below w.heap.size w wr) => sgrange_any v g n C N wr (hr.below hb) hv hn hC hN h1 h2)
    have HKg := Lib.hid (show keyG g k = keyH N (nearL n C) (hgtG g C) k by unfold keyG; rw [← hn, ← hC, ← hN, Int.toNat_natCast])
    obtain ⟨h, hh⟩ : ∃ h : Nat → Int, h = hgtG g C := ⟨_, rfl⟩
    rw [← hh] at HPa HHe HGr HKg
    obtain ⟨P, hP⟩ : ∃ P, P = passL N (nearL n C) h k := ⟨_, rfl⟩
    have HK := Lib.hid (show pkeyV g k = if 0 ≤ bestK P h k N then bestK P h k N else lowK h (h 0) N by rw [HB.out, HKg.out]; unfold keyH; rw [hP, lowK_any hkN (show 0 < N by omega)])
    have HPl := Lib.hid (show P.length = N by rw [hP]; exact passL_len _ _ _ _)
    rw [← hP] at HPa
    clear hr hp hv hi0 hi1 hn hC hN hrow hh hP HB HKg p1 p2 p3 p4
    go_enter Try.func28, Try.ntmps28
    go_wp2_with fail
    go_at_call 51
    refine HPk.out.mono ?_
    rintro e w1 ⟨rfl, hb1⟩
    have HB1 := Lib.hid hb1
    clear hb1
    go_wp2_with fail
    go_at_call 52
    refine (HPa.out _ HB1.out).mono ?_
    rintro e w7 ⟨aX, cX, rfl, ho, hb7⟩
    rw [HPl.out] at ho ⊢
    have HRX := Lib.hid ho.row
    have HB7 := Lib.hid (HB1.out.trans (hb7.mono HB1.out.size))
    clear ho hb7 HB1
    go_wp2_with fail
    go_loopw [6, 7] (fun t q wr => ∃ m : Nat, m ≤ N ∧ q = .int .i64 m ∧ t = .int .i64 (bestK P h k m) ∧ Below w.heap.size w wr ∧ Row wr (.slice aX N cX) P) (fun _ q _ => N - (intOf q).toNat)
    case atStart => exact ⟨0, Nat.zero_le _, rfl, rfl, HB7.out, HRX.out⟩
    case round =>
      obtain ⟨m, hmx, rfl, rfl, hs, hrx⟩ := hrel
      clear HB7 HRX
      have HB := Lib.hid hs
      have HRX := Lib.hid hrx
      clear hs hrx
      by_cases hlt : m < N
      · obtain ⟨-, hcx⟩ := HRX.out.cells
        obtain ⟨gX, oX, rfl, hxm⟩ := hcx m hlt
        clear hcx
        obtain ⟨pm, hpm⟩ : ∃ pm, pm = P.getD m 0 := ⟨_, rfl⟩
        rw [← hpm] at hxm
        have HBs := Lib.hid (show bestK P h k (m + 1) = if hiH h m k = true then max (bestK P h k m) pm else bestK P h k m by rw [hpm]; rfl)
        obtain ⟨bm, hbm⟩ : ∃ bm, bm = bestK P h k m := ⟨_, rfl⟩
        rw [← hbm] at HBs ⊢
        clear hpm hbm
        have d1 : (m : Int) < (N : Int) := by omega
        have HHj := Lib.hid (HHi.out m wr hlt HB.out)
        rw [HHe.out m] at HHj
        cases hq : hiH h m k
        · have HQ := Lib.hid hq
          rw [hq] at HHj
          clear hq
          go_wp2_with (go_at_call 53; refine HHj.out.mono ?_; rintro e w8 ⟨rfl, hb8⟩; have hxm := (hb8.cell (p := ⟨gX, oX + m, none⟩) (World.block_lt_of_cell? _ _ hxm)).trans hxm)
          go_roundw
          case rel => exact ⟨m + 1, by omega, by go_num, by rw [HBs.out, HQ.out]; rfl, HB.out.trans (hb8.mono HB.out.size), HRX.out.below hb8⟩
          case measure => simp [intOf]; omega
        · have HQ := Lib.hid hq
          rw [hq] at HHj
          clear hq
          go_wp2_with (go_at_call 53; refine HHj.out.mono ?_; rintro e w8 ⟨rfl, hb8⟩; have hxm := (hb8.cell (p := ⟨gX, oX + m, none⟩) (World.block_lt_of_cell? _ _ hxm)).trans hxm)
          go_roundw
          case rel => exact ⟨m + 1, by omega, by go_num, by rw [HBs.out, HQ.out]; rfl, HB.out.trans (hb8.mono HB.out.size), HRX.out.below hb8⟩
          case measure => simp [intOf]; omega
      · have hmx2 : N = m := by omega
        subst hmx2
        obtain ⟨bm, hbm⟩ : ∃ bm, bm = bestK P h k N := ⟨_, rfl⟩
        rw [← hbm] at HK ⊢
        clear hbm
        by_cases hb0 : bm < 0
        · have HB0 := Lib.hid hb0
          go_wp2_with (go_at_call 54; refine (HGr.out _ HB.out).mono ?_; rintro e w9 ⟨rfl, hb9⟩)
          go_ret
          exact ⟨ret_int (by rw [HK.out, if_neg (by have := HB0.out; omega)]), HB.out.trans (hb9.mono HB.out.size)⟩
        · have HB0 := Lib.hid hb0
          go_wp2_with fail
          go_ret
          exact ⟨ret_int (by rw [HK.out, if_pos (by have := HB0.out; omega)]), HB.out⟩
theorem speakProm_any (v : Value) (g : List (List Int)) (i : Int) (w : World) (hr : MRow w v g) (h1 : g.length ≤ 1048576) (h2 : tot g ≤ 1048576) :
    Calls Try.prog 32 #[v, .int .i64 i] w fun e w' => e = .returned (.int .i64 (promV g i)) ∧ Below w.heap.size w w' := by
  have HPk := Lib.hid (speakKey_any v g i w hr h1 h2)
  cases hp : isPk g i
  · have HB := Lib.hid (show promV g i = -1 by unfold promV; rw [hp]; rfl)
    rw [show pkeyV g i = -1 by unfold pkeyV; rw [hp]; rfl] at HPk
    clear hr hp
    go_enter Try.func32, Try.ntmps32
    go_wp2_with (go_at_call 28; refine HPk.out.mono ?_; rintro e w1 ⟨rfl, hb1⟩)
    go_ret
    exact ⟨ret_int HB.out.symm, hb1⟩
  · have HB := Lib.hid (show promV g i = IntKind.i64.wrap (hgtG g (colsG g) i.toNat - keyG g i) by unfold promV; rw [if_pos hp])
    rw [show pkeyV g i = keyG g i by unfold pkeyV; rw [hp]; rfl] at HPk
    have hp2 := hp
    unfold isPk at hp2
    simp only [Bool.and_eq_true, decide_eq_true_eq] at hp2
    obtain ⟨hv, ⟨hi0, hi1⟩, -⟩ := hp2
    obtain ⟨k, rfl⟩ : ∃ k : Nat, i = k := ⟨i.toNat, by omega⟩
    have hkN : k < g.length * colsG g := by omega
    obtain ⟨p1, p2, p3, p4⟩ := gval_rows hv
    have HHt := Lib.hid (fun (wr : World) (hb : Below w.heap.size w wr) => l2Height_any v g k g.length (colsG g) wr (hr.below hb) rfl rfl p3 p2 p4 hkN (fun r hr => gval_len hv r hr))
    have hnn : ¬ keyG g k < 0 := by
      have := keyH_nn (N := g.length * colsG g) (nb := nearL g.length (colsG g)) (h := hgtG g (colsG g)) (i := k) hkN (grVal hv rfl rfl).h0
      unfold keyG
      rw [Int.toNat_natCast]
      omega
    rw [Int.toNat_natCast] at HB
    obtain ⟨K, hK⟩ : ∃ K, K = keyG g k := ⟨_, rfl⟩
    obtain ⟨y, hy⟩ : ∃ y, y = hgtG g (colsG g) k := ⟨_, rfl⟩
    rw [← hK] at HPk HB hnn
    rw [← hy] at HHt HB
    clear hr hp hv hi0 hi1 hkN p1 p2 p3 p4 hK hy
    go_enter Try.func32, Try.ntmps32
    go_wp2_with (first | (go_at_call 28; refine HPk.out.mono ?_; rintro e w1 ⟨rfl, hb1⟩; have HB1 := Lib.hid hb1; clear hb1) | (go_at_call 55; refine (HHt.out _ HB1.out).mono ?_; rintro e w2 ⟨rfl, rfl⟩))
    go_ret
    exact ⟨ret_int ((IntWalk.i64_left _).symm.trans HB.out.symm), HB1.out.trans ((below_drewN (Below.refl w1.heap.size w1) 1).mono HB1.out.size)⟩

end Go.Proofs.Ytkhhloeemecokaa
