/- Contracts: prominence of the program's field; PeakProminence and PeakKey of the program. -/
import Derived.Test.YtkhhloeemecokaaIPeak
import Derived.Test.YtkhhloeemecokaaFldYes
import Derived.Deep.RegionHeld3
namespace Go.Proofs.Ytkhhloeemecokaa
open Go.RowKit
set_option linter.unusedVariables false

theorem bestK_ge (P : List Int) (h : Nat → Int) (i : Nat) : ∀ k, -1 ≤ bestK P h i k
  | 0 => Int.le_refl _
  | k + 1 => by
    have := bestK_ge P h i k
    unfold bestK
    split <;> omega
theorem keyH_nn {N : Nat} {nb : Nat → List Int} {h : Nat → Int} {i : Nat} (hi : i < N) (h0 : ∀ j, j < N → 0 ≤ h j) : 0 ≤ keyH N nb h i := by
  unfold keyH
  split
  · assumption
  · rcases lowK_at h (h i) N with q | ⟨j, hj, q⟩
    · rw [q]; exact h0 i hi
    · rw [q]; exact h0 j hj
/-- A peak of a grid, and its key. -/
def isPk (g : List (List Int)) (i : Int) : Bool := gvalB g && (decide (0 ≤ i ∧ i < ((g.length * colsG g : Nat) : Int)) && peakH (nearL g.length (colsG g) i.toNat) (hgtG g (colsG g)) i.toNat)
noncomputable def keyG (g : List (List Int)) (i : Int) : Int := keyH (g.length * colsG g) (nearL g.length (colsG g)) (hgtG g (colsG g)) i.toNat
noncomputable def promV (g : List (List Int)) (i : Int) : Int := if isPk g i = true then IntKind.i64.wrap (hgtG g (colsG g) i.toNat - keyG g i) else -1
noncomputable def pkeyV (g : List (List Int)) (i : Int) : Int := if isPk g i = true then keyG g i else -1
theorem isPk_val {g : List (List Int)} {i : Int} (h : gvalB g = false) : isPk g i = false := by simp [isPk, h]
theorem isPk_out {g : List (List Int)} {i : Int} (h : ¬ (0 ≤ i ∧ i < ((g.length * colsG g : Nat) : Int))) : isPk g i = false := by
  unfold isPk
  rw [show decide (0 ≤ i ∧ i < ((g.length * colsG g : Nat) : Int)) = false from decide_eq_false h]
  simp
theorem isPk_in {g : List (List Int)} {i n C : Nat} (hv : gvalB g = true) (hn : n = g.length) (hC : C = colsG g) (hi : i < n * C) : isPk g i = peakH (nearL n C i) (hgtG g C) i := by
  unfold isPk
  rw [hv, ← hn, ← hC, show decide (0 ≤ (i : Int) ∧ (i : Int) < ((n * C : Nat) : Int)) = true from decide_eq_true ⟨by omega, by omega⟩, Int.toNat_natCast]
  simp

set_option maxHeartbeats 1000000 in
theorem iprom_any (s : Value) (zs : List Int) (n C N i : Nat) (h : Nat → Int) (w : World) (hr : Row w s zs) (hl : zs.length = N) (hN : N = n * C) (h1 : 1 ≤ n) (h2 : n ≤ 7) (h3 : 1 ≤ C) (h4 : C ≤ 7) (hi : i < N) (hh : h = fun i => zs.getD i 0) (hG : Gr N (nearL n C) h) :
    Calls Try.prog 56 #[.agg #[.int .i64 n, .int .i64 C, s], .int .i64 (i : Nat)] w fun e w' => e = .returned (.int .i64 (IntKind.i64.wrap (h i - keyH N (nearL n C) h i))) ∧ Below w.heap.size w w' := by
  have HS0 := Lib.hid (FSt.new (n := n) (C := C) hr)
  have HKy := Lib.hid (fun (wr : World) (hq : Row wr s zs) => ikey_any s zs n C N i h wr hq hl hN h1 h2 h3 h4 hi hh hG)
  obtain ⟨sa, cap, rfl⟩ := hr.shape
  rw [hl] at HS0 HKy ⊢
  obtain ⟨-, hc⟩ := hr.cells
  rw [hl] at hc
  obtain ⟨b, off, rfl, qi⟩ := hc i hi
  have hb := World.block_lt_of_cell? _ _ qi
  rw [show zs.getD i 0 = h i by rw [hh]] at qi
  obtain ⟨K, hK⟩ : ∃ K, K = keyH N (nearL n C) h i := ⟨_, rfl⟩
  obtain ⟨y, hy⟩ : ∃ y, y = h i := ⟨_, rfl⟩
  rw [← hK] at HKy ⊢
  rw [← hy] at qi ⊢
  have d0 : (i : Int) < (N : Int) := by omega
  clear hr hl hh hG hN hc hK hy hi
  go_enter Try.func56, Try.ntmps56
  go_upto_region 1 with (fail)
  obtain ⟨W, hW⟩ : ∃ W, W = w.alloc (.cells #[.int .i64 n, .int .i64 C, .slice (some ⟨b, off, none⟩) N cap] 49) := ⟨_, rfl⟩
  rw [← hW] at HS0 ⊢
  clear hW
  obtain ⟨-, f0, f1, f2⟩ := HS0.out.fld.cells
  replace qi := (HS0.out.bel.cell (p := ⟨b, off + i, none⟩) hb).trans qi
  refine wp_region_held_drew (S := fun wx => wx.cell? ⟨w.heap.size, 0, none⟩ = some (.int .i64 n) ∧ wx.cell? ⟨w.heap.size, 1, none⟩ = some (.int .i64 C) ∧ wx.cell? ⟨w.heap.size, 2, none⟩ = some (.slice (some ⟨b, off, none⟩) N cap) ∧ wx.cell? ⟨b, off + i, none⟩ = some (.int .i64 y)) (by kernel_rfl) (⟨f0, f1, f2, qi⟩) (fun hHeld => ?_)
  refine wpAnyH_take (i := 0) (oi := { dst := some 5, op := _, type := _, pos := _, after := _, guard := _ }) (v := ?_) rfl (by kernel_rfl) (by kernel_rfl) (by kernel_rfl) (fun _ _ _ h => h) (Or.inl ⟨by rfl, ?_⟩) (by assumption) ?_
  case refine_2 => ((intro w hSw; (try dsimp only at hSw); go_simp); try with_reducible rfl)
  try simp only [Act.put, List.setIfInBounds_toArray, List.set_cons_zero, List.set_cons_succ]
  refine wpAnyH_take (i := 1) (oi := { dst := some 6, op := _, type := _, pos := _, after := _, guard := _ }) (v := ?_) rfl (by kernel_rfl) (by kernel_rfl) (by kernel_rfl) (fun _ _ _ h => h) (Or.inl ⟨by rfl, ?_⟩) (by assumption) ?_
  case refine_2 => ((intro w hSw; (try dsimp only at hSw); go_simp); try with_reducible rfl)
  try simp only [Act.put, List.setIfInBounds_toArray, List.set_cons_zero, List.set_cons_succ]
  refine wpAnyH_take (i := 2) (oi := { dst := some 7, op := _, type := _, pos := _, after := _, guard := _ }) (v := ?_) rfl (by kernel_rfl) (by kernel_rfl) (by kernel_rfl) (fun _ _ _ h => h) (Or.inl ⟨by rfl, ?_⟩) (by assumption) ?_
  case refine_2 => ((intro w hSw; (try dsimp only at hSw); go_simp); try with_reducible rfl)
  try simp only [Act.put, List.setIfInBounds_toArray, List.set_cons_zero, List.set_cons_succ]
  refine wpAnyH_take (i := 3) (oi := { dst := some 8, op := _, type := _, pos := _, after := _, guard := _ }) (v := ?_) rfl (by kernel_rfl) (by kernel_rfl) (by kernel_rfl) (fun _ _ _ h => h) (Or.inl ⟨by rfl, ?_⟩) (by assumption) ?_
  case refine_2 => ((intro w hSw; (try dsimp only at hSw); go_simp); try with_reducible rfl)
  try simp only [Act.put, List.setIfInBounds_toArray, List.set_cons_zero, List.set_cons_succ]
  refine wpAnyH_take (i := 4) (oi := { dst := some 9, op := _, type := _, pos := _, after := _, guard := _ }) (v := ?_) rfl (by kernel_rfl) (by kernel_rfl) (by kernel_rfl) (fun _ _ _ h => h) (Or.inl ⟨by rfl, ?_⟩) (by assumption) ?_
  case refine_2 => ((intro w hSw; (try dsimp only at hSw); go_simp); try with_reducible rfl)
  try simp only [Act.put, List.setIfInBounds_toArray, List.set_cons_zero, List.set_cons_succ]
  refine wpAnyH_take (i := 5) (oi := { dst := some 10, op := _, type := _, pos := _, after := _, guard := _ }) (v := ?_) rfl (by kernel_rfl) (by kernel_rfl) (by kernel_rfl) (fun _ _ _ h => h) (Or.inl ⟨by rfl, ?_⟩) (by assumption) ?_
  case refine_2 => ((intro w hSw; (try dsimp only at hSw); go_simp); try with_reducible rfl)
  try simp only [Act.put, List.setIfInBounds_toArray, List.set_cons_zero, List.set_cons_succ]
  refine wpAnyH_take (i := 6) (oi := { dst := some 11, op := _, type := _, pos := _, after := _, guard := _ }) (v := ?_) rfl (by kernel_rfl) (by kernel_rfl) (by kernel_rfl) (fun _ _ _ h => h) (Or.inl ⟨by rfl, ?_⟩) (by assumption) ?_
  case refine_2 => ((intro w hSw; (try dsimp only at hSw); go_simp); try with_reducible rfl)
  try simp only [Act.put, List.setIfInBounds_toArray, List.set_cons_zero, List.set_cons_succ]
  refine wpAnyH_ready (rs := [7]) (by kernel_rfl) (by simp) ?_
  refine AllReadyH.cons (o := { dst := some 12, op := _, type := _, pos := _, after := _, guard := _ }) rfl (fun K hK => ?_) AllReadyH.nil
  go_simp
  go_at_call 50
  have HS1 := Lib.hid (HS0.out.below (show Below W.heap.size W W.drew from below_drewN (Below.refl _ _) 1))
  refine (HKy.out _ HS1.out.row).mono ?_
  rintro e w8 ⟨rfl, hb8⟩
  have HS2 := Lib.hid (HS1.out.below hb8)
  obtain ⟨-, g0, g1, g2⟩ := HS2.out.fld.cells
  have gi := (hb8.cell (p := ⟨b, off + i, none⟩) (World.block_lt_of_cell? _ _ qi)).trans qi
  refine hK.out _ _ (⟨g0, g1, g2, gi⟩) (fun hHeld => ?_)
  clear hK K
  try simp only [Act.put, List.setIfInBounds_toArray, List.set_cons_zero, List.set_cons_succ]
  refine wpAnyH_take (i := 8) (oi := { dst := some 13, op := _, type := _, pos := _, after := _, guard := _ }) (v := ?_) rfl (by kernel_rfl) (by kernel_rfl) (by kernel_rfl) (fun _ _ _ h => h) (Or.inl ⟨by rfl, ?_⟩) (by assumption) ?_
  case refine_2 => ((intro w hSw; (try dsimp only at hSw); go_simp); try with_reducible rfl)
  try simp only [Act.put, List.setIfInBounds_toArray, List.set_cons_zero, List.set_cons_succ]
  refine wpAnyH_take (i := 9) (oi := { dst := some 4, op := _, type := _, pos := _, after := _, guard := _ }) (v := ?_) rfl (by kernel_rfl) (by kernel_rfl) (by kernel_rfl) (fun _ _ _ h => h) (Or.inl ⟨by rfl, ?_⟩) (by assumption) ?_
  case refine_2 => ((intro w hSw; (try dsimp only at hSw); go_simp); try with_reducible rfl)
  try simp only [Act.put, List.setIfInBounds_toArray, List.set_cons_zero, List.set_cons_succ]
  refine wpAnyH_done (by kernel_rfl) ?_ _
  clear hHeld
  go_wp2_with fail
  go_ret
  exact ⟨rfl, HS2.out.bel⟩

set_option maxHeartbeats 1000000 in
theorem pprom_any (v : Value) (g : List (List Int)) (i : Int) (w : World) (hr : MRow w v g) (h1 : g.length ≤ 1048576) (h2 : tot g ≤ 1048576) :
    Calls Try.prog 33 #[v, .int .i64 i] w fun e w' => e = .returned (.int .i64 (promV g i)) ∧ Below w.heap.size w w' := by
  cases hv : gvalB g
  · have HF := Lib.hid (fld_no hr hv h1 h2)
    have HB := Lib.hid (show promV g i = -1 by unfold promV; rw [isPk_val hv]; rfl)
    clear hr hv
    go_enter Try.func33, Try.ntmps33
    go_wp2_with (go_at_call 36; refine HF.out.mono ?_; rintro e w1 ⟨rfl, hb1⟩)
    go_ret
    exact ⟨ret_int HB.out.symm, Below.alloc hb1 hb1.size _⟩
  · obtain ⟨p1, p2, p3, p4⟩ := gval_rows hv
    obtain ⟨n, hn⟩ : ∃ n, n = g.length := ⟨_, rfl⟩
    obtain ⟨C, hC⟩ : ∃ C, C = colsG g := ⟨_, rfl⟩
    obtain ⟨N, hN⟩ : ∃ N, N = n * C := ⟨_, rfl⟩
    have HF := Lib.hid (fld_yes hr hv n C N hn hC hN h1 h2)
    have hG := grVal hv hn hC
    have hff := flat_fun (C := C) hn (by omega)
    obtain ⟨zs, hz⟩ : ∃ zs, zs = flatG g n C N := ⟨_, rfl⟩
    have hzl : zs.length = N := by rw [hz, flat_len, ← hN]
    rw [← hN, ← hz] at hff
    rw [← hN] at hG
    rw [← hz] at HF
    rw [← hn] at p1 p2
    rw [← hC] at p3 p4
    by_cases hi : 0 ≤ i ∧ i < (N : Int)
    · obtain ⟨k, rfl⟩ : ∃ k : Nat, i = k := ⟨i.toNat, by omega⟩
      have hkN : k < N := by omega
      have HPk := Lib.hid (fun (s : Value) (wr : World) (hq : Row wr s zs) => ipeak_any s zs n C N k (hgtG g C) wr hq hzl hN p1 p2 p3 p4 hkN hff.symm hG)
      have HPr := Lib.hid (fun (s : Value) (wr : World) (hq : Row wr s zs) => iprom_any s zs n C N k (hgtG g C) wr hq hzl hN p1 p2 p3 p4 hkN hff.symm hG)
      have hpk := isPk_in hv hn hC (by rw [← hN]; exact hkN)
      have HKg := Lib.hid (show keyG g k = keyH N (nearL n C) (hgtG g C) k by unfold keyG; rw [← hn, ← hC, ← hN, Int.toNat_natCast])
      cases hp : peakH (nearL n C k) (hgtG g C) k
      · rw [hp] at hpk HPk
        have HB := Lib.hid (show promV g k = -1 by unfold promV; rw [hpk]; rfl)
        clear hr hv hG hff hzl hn hC hN hpk hi hp hz HPr p1 p2 p3 p4
        go_enter Try.func33, Try.ntmps33
        go_wp2_with (first | (go_at_call 36; refine HF.out.mono ?_; rintro e w1 ⟨G, rfl, ho, hb1⟩; (have HR1 := Lib.hid (ho.row.below (Below.alloc (Below.refl w1.heap.size w1) (Nat.le_refl _) (.cells #[.int .i64 n, .int .i64 C, .slice (some ⟨G, 0, none⟩) N N] 49)))); (have HB1 := Lib.hid (Below.alloc hb1 hb1.size (.cells #[.int .i64 n, .int .i64 C, .slice (some ⟨G, 0, none⟩) N N] 49))); clear ho hb1) | (go_at_call 49; refine (HPk.out _ _ HR1.out).mono ?_; rintro e w2 ⟨rfl, hb2⟩))
        go_ret
        exact ⟨ret_int HB.out.symm, HB1.out.trans (hb2.mono HB1.out.size)⟩
      · rw [hp] at hpk HPk
        have HB := Lib.hid (show promV g k = IntKind.i64.wrap (hgtG g C k - keyH N (nearL n C) (hgtG g C) k) by unfold promV; rw [if_pos hpk, ← hC, Int.toNat_natCast, HKg.out])
        clear hr hv hG hff hzl hn hC hN hpk hi hp hz p1 p2 p3 p4 HKg
        go_enter Try.func33, Try.ntmps33
        go_wp2_with (go_at_call 36; refine HF.out.mono ?_; rintro e w1 ⟨G, rfl, ho, hb1⟩; (have HR1 := Lib.hid (ho.row.below (Below.alloc (Below.refl w1.heap.size w1) (Nat.le_refl _) (.cells #[.int .i64 n, .int .i64 C, .slice (some ⟨G, 0, none⟩) N N] 49)))); (have HB1 := Lib.hid (Below.alloc hb1 hb1.size (.cells #[.int .i64 n, .int .i64 C, .slice (some ⟨G, 0, none⟩) N N] 49))); (have F1 := Lib.hid (FldAt.new w1 n C (.slice (some ⟨G, 0, none⟩) N N))); clear ho hb1)
        go_at_call 49
        obtain ⟨W1, hW1⟩ : ∃ W1, W1 = w1.alloc (.cells #[.int .i64 n, .int .i64 C, .slice (some ⟨G, 0, none⟩) N N] 49) := ⟨_, rfl⟩
        rw [← hW1] at HR1 HB1 F1 ⊢
        clear hW1
        refine (HPk.out _ _ HR1.out).mono ?_
        rintro e w2 ⟨rfl, hb2⟩
        have HR2 := Lib.hid (HR1.out.below hb2)
        have HB2 := Lib.hid (HB1.out.trans (hb2.mono HB1.out.size))
        obtain ⟨-, f0, f1, f2⟩ := (F1.out.below hb2).cells
        clear hb2 HB1 F1 HR1
        go_wp2_with fail
        go_at_call 56
        refine (HPr.out _ _ HR2.out).mono ?_
        rintro e w3 ⟨rfl, hb3⟩
        go_wp2_with fail
        go_ret
        exact ⟨ret_int HB.out.symm, HB2.out.trans (hb3.mono HB2.out.size)⟩
    · have HPk := Lib.hid (fun (s : Value) (wr : World) (hq : Row wr s zs) => ipeak_no s zs n C N i wr hq hzl hi)
      have HB := Lib.hid (show promV g i = -1 by unfold promV; rw [isPk_out (by rw [← hn, ← hC, ← hN]; exact hi)]; rfl)
      clear hr hv hG hff hzl hn hC hN hi hz p1 p2 p3 p4
      go_enter Try.func33, Try.ntmps33
      go_wp2_with (first | (go_at_call 36; refine HF.out.mono ?_; rintro e w1 ⟨G, rfl, ho, hb1⟩; (have HR1 := Lib.hid (ho.row.below (Below.alloc (Below.refl w1.heap.size w1) (Nat.le_refl _) (.cells #[.int .i64 n, .int .i64 C, .slice (some ⟨G, 0, none⟩) N N] 49)))); (have HB1 := Lib.hid (Below.alloc hb1 hb1.size (.cells #[.int .i64 n, .int .i64 C, .slice (some ⟨G, 0, none⟩) N N] 49))); clear ho hb1) | (go_at_call 49; refine (HPk.out _ _ HR1.out).mono ?_; rintro e w2 ⟨rfl, hb2⟩))
      go_ret
      exact ⟨ret_int HB.out.symm, HB1.out.trans (hb2.mono HB1.out.size)⟩

set_option maxHeartbeats 1000000 in
theorem ppkey_any (v : Value) (g : List (List Int)) (i : Int) (w : World) (hr : MRow w v g) (h1 : g.length ≤ 1048576) (h2 : tot g ≤ 1048576) :
    Calls Try.prog 27 #[v, .int .i64 i] w fun e w' => e = .returned (.int .i64 (pkeyV g i)) ∧ Below w.heap.size w w' := by
  cases hv : gvalB g
  · have HF := Lib.hid (fld_no hr hv h1 h2)
    have HB := Lib.hid (show pkeyV g i = -1 by unfold pkeyV; rw [isPk_val hv]; rfl)
    clear hr hv
    go_enter Try.func27, Try.ntmps27
    go_wp2_with (go_at_call 36; refine HF.out.mono ?_; rintro e w1 ⟨rfl, hb1⟩)
    go_ret
    exact ⟨ret_int HB.out.symm, Below.alloc hb1 hb1.size _⟩
  · obtain ⟨p1, p2, p3, p4⟩ := gval_rows hv
    obtain ⟨n, hn⟩ : ∃ n, n = g.length := ⟨_, rfl⟩
    obtain ⟨C, hC⟩ : ∃ C, C = colsG g := ⟨_, rfl⟩
    obtain ⟨N, hN⟩ : ∃ N, N = n * C := ⟨_, rfl⟩
    have HF := Lib.hid (fld_yes hr hv n C N hn hC hN h1 h2)
    have hG := grVal hv hn hC
    have hff := flat_fun (C := C) hn (by omega)
    obtain ⟨zs, hz⟩ : ∃ zs, zs = flatG g n C N := ⟨_, rfl⟩
    have hzl : zs.length = N := by rw [hz, flat_len, ← hN]
    rw [← hN, ← hz] at hff
    rw [← hN] at hG
    rw [← hz] at HF
    rw [← hn] at p1 p2
    rw [← hC] at p3 p4
    by_cases hi : 0 ≤ i ∧ i < (N : Int)
    · obtain ⟨k, rfl⟩ : ∃ k : Nat, i = k := ⟨i.toNat, by omega⟩
      have hkN : k < N := by omega
      have HPk := Lib.hid (fun (s : Value) (wr : World) (hq : Row wr s zs) => ipeak_any s zs n C N k (hgtG g C) wr hq hzl hN p1 p2 p3 p4 hkN hff.symm hG)
      have HPr := Lib.hid (fun (s : Value) (wr : World) (hq : Row wr s zs) => ikey_any s zs n C N k (hgtG g C) wr hq hzl hN p1 p2 p3 p4 hkN hff.symm hG)
      have hpk := isPk_in hv hn hC (by rw [← hN]; exact hkN)
      have HKg := Lib.hid (show keyG g k = keyH N (nearL n C) (hgtG g C) k by unfold keyG; rw [← hn, ← hC, ← hN, Int.toNat_natCast])
      cases hp : peakH (nearL n C k) (hgtG g C) k
      · rw [hp] at hpk HPk
        have HB := Lib.hid (show pkeyV g k = -1 by unfold pkeyV; rw [hpk]; rfl)
        clear hr hv hG hff hzl hn hC hN hpk hi hp hz HPr p1 p2 p3 p4
        go_enter Try.func27, Try.ntmps27
        go_wp2_with (first | (go_at_call 36; refine HF.out.mono ?_; rintro e w1 ⟨G, rfl, ho, hb1⟩; (have HR1 := Lib.hid (ho.row.below (Below.alloc (Below.refl w1.heap.size w1) (Nat.le_refl _) (.cells #[.int .i64 n, .int .i64 C, .slice (some ⟨G, 0, none⟩) N N] 49)))); (have HB1 := Lib.hid (Below.alloc hb1 hb1.size (.cells #[.int .i64 n, .int .i64 C, .slice (some ⟨G, 0, none⟩) N N] 49))); clear ho hb1) | (go_at_call 49; refine (HPk.out _ _ HR1.out).mono ?_; rintro e w2 ⟨rfl, hb2⟩))
        go_ret
        exact ⟨ret_int HB.out.symm, HB1.out.trans (hb2.mono HB1.out.size)⟩
      · rw [hp] at hpk HPk
        have HB := Lib.hid (show pkeyV g k = keyH N (nearL n C) (hgtG g C) k by unfold pkeyV; rw [if_pos hpk, HKg.out])
        clear hr hv hG hff hzl hn hC hN hpk hi hp hz p1 p2 p3 p4 HKg
        go_enter Try.func27, Try.ntmps27
        go_wp2_with (go_at_call 36; refine HF.out.mono ?_; rintro e w1 ⟨G, rfl, ho, hb1⟩; (have HR1 := Lib.hid (ho.row.below (Below.alloc (Below.refl w1.heap.size w1) (Nat.le_refl _) (.cells #[.int .i64 n, .int .i64 C, .slice (some ⟨G, 0, none⟩) N N] 49)))); (have HB1 := Lib.hid (Below.alloc hb1 hb1.size (.cells #[.int .i64 n, .int .i64 C, .slice (some ⟨G, 0, none⟩) N N] 49))); (have F1 := Lib.hid (FldAt.new w1 n C (.slice (some ⟨G, 0, none⟩) N N))); clear ho hb1)
        go_at_call 49
        obtain ⟨W1, hW1⟩ : ∃ W1, W1 = w1.alloc (.cells #[.int .i64 n, .int .i64 C, .slice (some ⟨G, 0, none⟩) N N] 49) := ⟨_, rfl⟩
        rw [← hW1] at HR1 HB1 F1 ⊢
        clear hW1
        refine (HPk.out _ _ HR1.out).mono ?_
        rintro e w2 ⟨rfl, hb2⟩
        have HR2 := Lib.hid (HR1.out.below hb2)
        have HB2 := Lib.hid (HB1.out.trans (hb2.mono HB1.out.size))
        obtain ⟨-, f0, f1, f2⟩ := (F1.out.below hb2).cells
        clear hb2 HB1 F1 HR1
        go_wp2_with fail
        go_at_call 50
        refine (HPr.out _ _ HR2.out).mono ?_
        rintro e w3 ⟨rfl, hb3⟩
        go_wp2_with fail
        go_ret
        exact ⟨ret_int HB.out.symm, HB2.out.trans (hb3.mono HB2.out.size)⟩
    · have HPk := Lib.hid (fun (s : Value) (wr : World) (hq : Row wr s zs) => ipeak_no s zs n C N i wr hq hzl hi)
      have HB := Lib.hid (show pkeyV g i = -1 by unfold pkeyV; rw [isPk_out (by rw [← hn, ← hC, ← hN]; exact hi)]; rfl)
      clear hr hv hG hff hzl hn hC hN hi hz p1 p2 p3 p4
      go_enter Try.func27, Try.ntmps27
      go_wp2_with (first | (go_at_call 36; refine HF.out.mono ?_; rintro e w1 ⟨G, rfl, ho, hb1⟩; (have HR1 := Lib.hid (ho.row.below (Below.alloc (Below.refl w1.heap.size w1) (Nat.le_refl _) (.cells #[.int .i64 n, .int .i64 C, .slice (some ⟨G, 0, none⟩) N N] 49)))); (have HB1 := Lib.hid (Below.alloc hb1 hb1.size (.cells #[.int .i64 n, .int .i64 C, .slice (some ⟨G, 0, none⟩) N N] 49))); clear ho hb1) | (go_at_call 49; refine (HPk.out _ _ HR1.out).mono ?_; rintro e w2 ⟨rfl, hb2⟩))
      go_ret
      exact ⟨ret_int HB.out.symm, HB1.out.trans (hb2.mono HB1.out.size)⟩

end Go.Proofs.Ytkhhloeemecokaa
