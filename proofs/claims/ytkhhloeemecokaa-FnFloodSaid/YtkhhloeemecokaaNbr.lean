/- Contract: neighbors of the program's field. -/
import Derived.Test.YtkhhloeemecokaaNear0
import Derived.Test.YtkhhloeemecokaaFldAt
import Derived.Deep.RegionHeld3
import Derived.IntWalk
import Derived.Deep.Cut
namespace Go.Proofs.Ytkhhloeemecokaa
open Go.RowKit
set_option linter.unusedVariables false

set_option maxHeartbeats 4000000 in
theorem neighbors_any (s : Value) (i n C : Nat) (w : World) (h1 : 1 ≤ n) (h2 : n ≤ 7) (h3 : 1 ≤ C) (h4 : C ≤ 7) (hi : i < n * C) :
    Calls Try.prog 43 #[.agg #[.int .i64 n, .int .i64 C, s], .int .i64 (i : Nat)] w (GivesRow (nearL n C i) w) := by
  have hi49 : i < 49 := Nat.lt_of_lt_of_le hi (Nat.mul_le_mul h2 h4)
  obtain ⟨m, hm⟩ : ∃ m, m = i % C := ⟨_, rfl⟩
  obtain ⟨r, hr⟩ : ∃ r, r = i / C := ⟨_, rfl⟩
  obtain ⟨K, hK⟩ : ∃ K, K = C * (n - 1) := ⟨_, rfl⟩
  have hmC : m < C := by rw [hm]; exact Nat.mod_lt _ h3
  have t1 : (i : Int).tmod (C : Int) = (m : Int) := by rw [hm]; rfl
  have t2 : (i : Int) % (C : Int) = (m : Int) := by rw [hm]; omega
  have t3 : (i : Int).tdiv (C : Int) = (r : Int) := by rw [hr]; rfl
  have t4 : (i : Int) / (C : Int) = (r : Int) := by rw [hr]; omega
  have hr0 : 0 < r ↔ C ≤ i := by rw [hr]; exact ⟨fun h => by have := (Nat.le_div_iff_mul_le h3).1 h; omega, fun h => (Nat.le_div_iff_mul_le h3).2 (by omega)⟩
  have hrn : r + 1 < n ↔ i < K := by
    rw [hr, hK, Nat.mul_comm]
    rw [show i / C + 1 < n ↔ i / C < n - 1 by omega]
    exact Nat.div_lt_iff_lt_mul h3
  have hr49 : r < 49 := by rw [hr]; exact Nat.lt_of_le_of_lt (Nat.div_le_self _ _) hi49
  have hG := Lib.hid (show nearL n C i = (if C ≤ i then [(i : Int) - C] else []) ++ ((if m + 1 < C then [(i : Int) + 1] else []) ++ ((if i < K then [(i : Int) + C] else []) ++ (if 0 < m then [(i : Int) - 1] else []))) by unfold nearL; rw [hm, hK])
  have HR0 := Lib.hid hr0
  have HRn := Lib.hid hrn
  have n1 : (C : Int) ≠ 0 := by omega
  have n2 : ¬ C = 0 := by omega
  have w1 : IntKind.i64.wrap (r : Int) = (r : Int) := IntWalk.i64_in _ (by omega)
  have w2 : IntKind.i64.wrap (m : Int) = (m : Int) := IntWalk.i64_in _ (by omega)
  clear hm hr hK hi hr0 hrn
  have hb0 := Below.alloc (Below.refl w.heap.size w) (Nat.le_refl _) (.cells #[.int .i64 n, .int .i64 C, s] 49)
  have f0 : (w.alloc (.cells #[.int .i64 n, .int .i64 C, s] 49)).cell? ⟨w.heap.size, 0, none⟩ = some (.int .i64 n) := by rw [cell_of_row _ w.heap.size 0 _ _ (0, 0) (heap_alloc_new w _)]; rfl
  have f1 : (w.alloc (.cells #[.int .i64 n, .int .i64 C, s] 49)).cell? ⟨w.heap.size, 1, none⟩ = some (.int .i64 C) := by rw [cell_of_row _ w.heap.size 1 _ _ (0, 0) (heap_alloc_new w _)]; rfl
  have hlt : w.heap.size < (w.alloc (.cells #[.int .i64 n, .int .i64 C, s] 49)).heap.size := by simp
  have HB0 := Lib.hid hb0
  clear hb0
  go_enter Try.func43, Try.ntmps43
  go_wp2
  obtain ⟨W, hW⟩ : ∃ W, W = w.alloc (.cells #[.int .i64 n, .int .i64 C, s] 49) := ⟨_, rfl⟩
  rw [← hW] at HB0 f0 f1 hlt ⊢
  clear hW
  refine wp_region_held_drew (S := fun wx => wx.cell? ⟨w.heap.size, 1, none⟩ = some (.int .i64 C)) (by kernel_rfl) (f1) (fun hHeld => ?_)
  refine wpAnyH_take (i := 0) (oi := { dst := some 8, op := _, type := _, pos := _, after := _, guard := _ }) (v := ?_) rfl (by kernel_rfl) (by kernel_rfl) (by kernel_rfl) (fun _ _ _ h => h) (Or.inl ⟨by rfl, ?_⟩) (by assumption) ?_
  case refine_2 => ((intro w hSw; (try dsimp only at hSw); go_simp); try with_reducible rfl)
  try simp only [Act.put, List.setIfInBounds_toArray, List.set_cons_zero, List.set_cons_succ]
  refine wpAnyH_take (i := 1) (oi := { dst := some 9, op := _, type := _, pos := _, after := _, guard := _ }) (v := ?_) rfl (by kernel_rfl) (by kernel_rfl) (by kernel_rfl) (fun _ _ _ h => h) (Or.inl ⟨by rfl, ?_⟩) (by assumption) ?_
  case refine_2 => ((intro w hSw; (try dsimp only at hSw); go_simp); try with_reducible rfl)
  try simp only [Act.put, List.setIfInBounds_toArray, List.set_cons_zero, List.set_cons_succ]
  refine wpAnyH_take (i := 2) (oi := { dst := some 10, op := _, type := _, pos := _, after := _, guard := _ }) (v := ?_) rfl (by kernel_rfl) (by kernel_rfl) (by kernel_rfl) (fun _ _ _ h => h) (Or.inl ⟨by rfl, ?_⟩) (by assumption) ?_
  case refine_2 => ((intro w hSw; (try dsimp only at hSw); go_simp); try with_reducible rfl)
  try simp only [Act.put, List.setIfInBounds_toArray, List.set_cons_zero, List.set_cons_succ]
  refine wpAnyH_take (i := 3) (oi := { dst := some 11, op := _, type := _, pos := _, after := _, guard := _ }) (v := ?_) rfl (by kernel_rfl) (by kernel_rfl) (by kernel_rfl) (fun _ _ _ h => h) (Or.inl ⟨by rfl, ?_⟩) (by assumption) ?_
  case refine_2 => ((intro w hSw; (try dsimp only at hSw); go_simp); try with_reducible rfl)
  try simp only [Act.put, List.setIfInBounds_toArray, List.set_cons_zero, List.set_cons_succ]
  refine wpAnyH_take (i := 4) (oi := { dst := some 12, op := _, type := _, pos := _, after := _, guard := _ }) (v := ?_) rfl (by kernel_rfl) (by kernel_rfl) (by kernel_rfl) (fun _ _ _ h => h) (Or.inl ⟨by rfl, ?_⟩) (by assumption) ?_
  case refine_2 => ((intro w hSw; (try dsimp only at hSw); go_simp); try with_reducible rfl)
  try simp only [Act.put, List.setIfInBounds_toArray, List.set_cons_zero, List.set_cons_succ]
  refine wpAnyH_take (i := 5) (oi := { dst := some 13, op := _, type := _, pos := _, after := _, guard := _ }) (v := ?_) rfl (by kernel_rfl) (by kernel_rfl) (by kernel_rfl) (fun _ _ _ h => h) (Or.inl ⟨by rfl, ?_⟩) (by assumption) ?_
  case refine_2 => ((intro w hSw; (try dsimp only at hSw); go_simp); try with_reducible rfl)
  try simp only [Act.put, List.setIfInBounds_toArray, List.set_cons_zero, List.set_cons_succ]
  refine wpAnyH_take (i := 6) (oi := { dst := some 14, op := _, type := _, pos := _, after := _, guard := _ }) (v := ?_) rfl (by kernel_rfl) (by kernel_rfl) (by kernel_rfl) (fun _ _ _ h => h) (Or.inl ⟨by rfl, ?_⟩) (by assumption) ?_
  case refine_2 => ((intro w hSw; (try dsimp only at hSw); go_simp); try with_reducible rfl)
  try simp only [Act.put, List.setIfInBounds_toArray, List.set_cons_zero, List.set_cons_succ]
  refine wpAnyH_take (i := 7) (oi := { dst := some 15, op := _, type := _, pos := _, after := _, guard := _ }) (v := ?_) rfl (by kernel_rfl) (by kernel_rfl) (by kernel_rfl) (fun _ _ _ h => h) (Or.inl ⟨by rfl, ?_⟩) (by assumption) ?_
  case refine_2 => ((intro w hSw; (try dsimp only at hSw); go_simp); try with_reducible rfl)
  try simp only [Act.put, List.setIfInBounds_toArray, List.set_cons_zero, List.set_cons_succ]
  refine wpAnyH_take (i := 8) (oi := { dst := some 5, op := _, type := _, pos := _, after := _, guard := _ }) (v := ?_) rfl (by kernel_rfl) (by kernel_rfl) (by kernel_rfl) (fun _ _ _ h => h) (Or.inl ⟨by rfl, ?_⟩) (by assumption) ?_
  case refine_2 => ((intro w hSw; (try dsimp only at hSw); go_simp); try with_reducible rfl)
  try simp only [Act.put, List.setIfInBounds_toArray, List.set_cons_zero, List.set_cons_succ]
  refine wpAnyH_take (i := 9) (oi := { dst := some 6, op := _, type := _, pos := _, after := _, guard := _ }) (v := ?_) rfl (by kernel_rfl) (by kernel_rfl) (by kernel_rfl) (fun _ _ _ h => h) (Or.inl ⟨by rfl, ?_⟩) (by assumption) ?_
  case refine_2 => ((intro w hSw; (try dsimp only at hSw); go_simp); try with_reducible rfl)
  try simp only [Act.put, List.setIfInBounds_toArray, List.set_cons_zero, List.set_cons_succ]
  refine wpAnyH_done (by kernel_rfl) ?_ _
  clear hHeld
  obtain ⟨i0, hi0, hz0, hz1, hz2⟩ := info_parts Try.infoInt
  have HI := Lib.hid hi0
  have HZ0 := Lib.hid hz0
  have HZ1 := Lib.hid hz1
  have HZ2 := Lib.hid hz2
  clear hi0 hz0 hz1 hz2
  have hsW : w.heap.size ≤ W.heap.size := by omega
  have HBw := HB0
  clear HB0
  have F0 := Lib.hid f0
  have F1 := Lib.hid f1
  go_upto_region 3 with (fail)
  obtain ⟨w0, hrun, ho0, hg0⟩ := run_make_own (P := Try.prog) W.drew W.heap.size 28 3 i0 (.int .i64 0) 1 Try.underlying28 HI.out HZ0.out HZ1.out .i64 .i64 4 (by rw [HZ2.out]; decide) (by decide) (Nat.le_refl _)
  rw [show Instr.makeSlice 28 (.int .i64 0) (.int .i64 4) = Instr.makeSlice 28 (.int .i64 0) (.int .i64 ((4 : Nat) : Int)) from rfl, hrun]
  obtain ⟨v0, hv0⟩ : ∃ v, v = Value.slice (some ⟨W.heap.size, 0, none⟩) 0 4 := ⟨_, rfl⟩
  have HO0 := Lib.hid (show Own w0 W.heap.size v0 ([] : List Int) from by rw [hv0]; exact ho0)
  have HB0 := Lib.hid (show Below W.heap.size W w0 from (below_drewN (Below.refl W.heap.size W) 1).trans (below_of_grown (w := W.drew) hg0 (Nat.le_refl _) (fun k e => by cases e)))
  have hs0 := HB0.out.size
  have f0 := (HB0.out.cell (p := ⟨w.heap.size, 0, none⟩) hlt).trans F0.out
  have f1 := (HB0.out.cell (p := ⟨w.heap.size, 1, none⟩) hlt).trans F1.out
  rw [show Value.slice (some ⟨W.drew.heap.size, 0, none⟩) 0 4 = v0 from hv0.symm]
  clear ho0 hg0 hv0 hrun
  go_upto_region 3 with (fail)
  by_cases c0 : C ≤ i
  · have d0 : (0 : Int) < (r : Int) := by have h := HR0.out; omega
    by_cases c1 : m + 1 < C
    · have d1 : (m : Int) + 1 < (C : Int) := by omega
      by_cases c2 : i < K
      · have d2 : (r : Int) + 1 < (n : Int) := by have h := HRn.out; omega
        by_cases c3 : 0 < m
        · have d3 : (0 : Int) < (m : Int) := by omega
          have HL := Lib.hid (show nearL n C i = [(i : Int) - C, (i : Int) + 1, (i : Int) + C, (i : Int) - 1] by rw [hG.out, if_pos c0, if_pos c1, if_pos c2, if_pos c3]; rfl)
          have l0 : ([] : List Int).length ≤ 1099511627776 := by simp
          have l1 : ([((i : Int) - C)] : List Int).length ≤ 1099511627776 := by simp
          have l2 : ([((i : Int) - C), ((i : Int) + 1)] : List Int).length ≤ 1099511627776 := by simp
          have l3 : ([((i : Int) - C), ((i : Int) + 1), ((i : Int) + C)] : List Int).length ≤ 1099511627776 := by simp
          go_wp2_with (first | (at_builtin; refine append1 (by rfl) _ _ (by rfl) (W.heap.size) _ (([] : List Int)) ((i : Int) - C) (by rfl) (by rfl) (HO0.out) (hs0) (l0) ?_; intro v1 w1 ho1 hg1; (have HO1 := Lib.hid (show Own w1 W.heap.size v1 (([] : List Int) ++ [(i : Int) - C]) from ho1)); (have HB1 := Lib.hid (below_own HB0.out HO0.out hs0 hg1)); (have hs1 := HB1.out.size); (have f0 := (HB1.out.cell (p := ⟨w.heap.size, 0, none⟩) hlt).trans F0.out); (have f1 := (HB1.out.cell (p := ⟨w.heap.size, 1, none⟩) hlt).trans F1.out); clear ho1 hg1) | (at_builtin; refine append1 (by rfl) _ _ (by rfl) (W.heap.size) _ (([((i : Int) - C)] : List Int)) ((i : Int) + 1) (by rfl) (by rfl) (HO1.out) (hs1) (l1) ?_; intro v2 w2 ho2 hg2; (have HO2 := Lib.hid (show Own w2 W.heap.size v2 (([((i : Int) - C)] : List Int) ++ [(i : Int) + 1]) from ho2)); (have HB2 := Lib.hid (below_own HB1.out HO1.out hs1 hg2)); (have hs2 := HB2.out.size); (have f0 := (HB2.out.cell (p := ⟨w.heap.size, 0, none⟩) hlt).trans F0.out); (have f1 := (HB2.out.cell (p := ⟨w.heap.size, 1, none⟩) hlt).trans F1.out); clear ho2 hg2) | (at_builtin; refine append1 (by rfl) _ _ (by rfl) (W.heap.size) _ (([((i : Int) - C), ((i : Int) + 1)] : List Int)) ((i : Int) + C) (by rfl) (by rfl) (HO2.out) (hs2) (l2) ?_; intro v3 w3 ho3 hg3; (have HO3 := Lib.hid (show Own w3 W.heap.size v3 (([((i : Int) - C), ((i : Int) + 1)] : List Int) ++ [(i : Int) + C]) from ho3)); (have HB3 := Lib.hid (below_own HB2.out HO2.out hs2 hg3)); (have hs3 := HB3.out.size); (have f0 := (HB3.out.cell (p := ⟨w.heap.size, 0, none⟩) hlt).trans F0.out); (have f1 := (HB3.out.cell (p := ⟨w.heap.size, 1, none⟩) hlt).trans F1.out); clear ho3 hg3) | (at_builtin; refine append1 (by rfl) _ _ (by rfl) (W.heap.size) _ (([((i : Int) - C), ((i : Int) + 1), ((i : Int) + C)] : List Int)) ((i : Int) - 1) (by rfl) (by rfl) (HO3.out) (hs3) (l3) ?_; intro v4 w4 ho4 hg4; (have HO4 := Lib.hid (show Own w4 W.heap.size v4 (([((i : Int) - C), ((i : Int) + 1), ((i : Int) + C)] : List Int) ++ [(i : Int) - 1]) from ho4)); (have HB4 := Lib.hid (below_own HB3.out HO3.out hs3 hg4)); (have hs4 := HB4.out.size); (have f0 := (HB4.out.cell (p := ⟨w.heap.size, 0, none⟩) hlt).trans F0.out); (have f1 := (HB4.out.cell (p := ⟨w.heap.size, 1, none⟩) hlt).trans F1.out); clear ho4 hg4))
          go_ret
          rw [HL.out]
          exact GivesRow.of (HO4.out.mono hsW) (HBw.out.trans (HB4.out.mono hsW))
        · have d3 : ¬ (0 : Int) < (m : Int) := by omega
          have HL := Lib.hid (show nearL n C i = [(i : Int) - C, (i : Int) + 1, (i : Int) + C] by rw [hG.out, if_pos c0, if_pos c1, if_pos c2, if_neg c3]; rfl)
          have l0 : ([] : List Int).length ≤ 1099511627776 := by simp
          have l1 : ([((i : Int) - C)] : List Int).length ≤ 1099511627776 := by simp
          have l2 : ([((i : Int) - C), ((i : Int) + 1)] : List Int).length ≤ 1099511627776 := by simp
          go_wp2_with (first | (at_builtin; refine append1 (by rfl) _ _ (by rfl) (W.heap.size) _ (([] : List Int)) ((i : Int) - C) (by rfl) (by rfl) (HO0.out) (hs0) (l0) ?_; intro v1 w1 ho1 hg1; (have HO1 := Lib.hid (show Own w1 W.heap.size v1 (([] : List Int) ++ [(i : Int) - C]) from ho1)); (have HB1 := Lib.hid (below_own HB0.out HO0.out hs0 hg1)); (have hs1 := HB1.out.size); (have f0 := (HB1.out.cell (p := ⟨w.heap.size, 0, none⟩) hlt).trans F0.out); (have f1 := (HB1.out.cell (p := ⟨w.heap.size, 1, none⟩) hlt).trans F1.out); clear ho1 hg1) | (at_builtin; refine append1 (by rfl) _ _ (by rfl) (W.heap.size) _ (([((i : Int) - C)] : List Int)) ((i : Int) + 1) (by rfl) (by rfl) (HO1.out) (hs1) (l1) ?_; intro v2 w2 ho2 hg2; (have HO2 := Lib.hid (show Own w2 W.heap.size v2 (([((i : Int) - C)] : List Int) ++ [(i : Int) + 1]) from ho2)); (have HB2 := Lib.hid (below_own HB1.out HO1.out hs1 hg2)); (have hs2 := HB2.out.size); (have f0 := (HB2.out.cell (p := ⟨w.heap.size, 0, none⟩) hlt).trans F0.out); (have f1 := (HB2.out.cell (p := ⟨w.heap.size, 1, none⟩) hlt).trans F1.out); clear ho2 hg2) | (at_builtin; refine append1 (by rfl) _ _ (by rfl) (W.heap.size) _ (([((i : Int) - C), ((i : Int) + 1)] : List Int)) ((i : Int) + C) (by rfl) (by rfl) (HO2.out) (hs2) (l2) ?_; intro v3 w3 ho3 hg3; (have HO3 := Lib.hid (show Own w3 W.heap.size v3 (([((i : Int) - C), ((i : Int) + 1)] : List Int) ++ [(i : Int) + C]) from ho3)); (have HB3 := Lib.hid (below_own HB2.out HO2.out hs2 hg3)); (have hs3 := HB3.out.size); (have f0 := (HB3.out.cell (p := ⟨w.heap.size, 0, none⟩) hlt).trans F0.out); (have f1 := (HB3.out.cell (p := ⟨w.heap.size, 1, none⟩) hlt).trans F1.out); clear ho3 hg3))
          go_ret
          rw [HL.out]
          exact GivesRow.of (HO3.out.mono hsW) (HBw.out.trans (HB3.out.mono hsW))
      · have d2 : ¬ (r : Int) + 1 < (n : Int) := by have h := HRn.out; omega
        by_cases c3 : 0 < m
        · have d3 : (0 : Int) < (m : Int) := by omega
          have HL := Lib.hid (show nearL n C i = [(i : Int) - C, (i : Int) + 1, (i : Int) - 1] by rw [hG.out, if_pos c0, if_pos c1, if_neg c2, if_pos c3]; rfl)
          have l0 : ([] : List Int).length ≤ 1099511627776 := by simp
          have l1 : ([((i : Int) - C)] : List Int).length ≤ 1099511627776 := by simp
          have l2 : ([((i : Int) - C), ((i : Int) + 1)] : List Int).length ≤ 1099511627776 := by simp
          go_wp2_with (first | (at_builtin; refine append1 (by rfl) _ _ (by rfl) (W.heap.size) _ (([] : List Int)) ((i : Int) - C) (by rfl) (by rfl) (HO0.out) (hs0) (l0) ?_; intro v1 w1 ho1 hg1; (have HO1 := Lib.hid (show Own w1 W.heap.size v1 (([] : List Int) ++ [(i : Int) - C]) from ho1)); (have HB1 := Lib.hid (below_own HB0.out HO0.out hs0 hg1)); (have hs1 := HB1.out.size); (have f0 := (HB1.out.cell (p := ⟨w.heap.size, 0, none⟩) hlt).trans F0.out); (have f1 := (HB1.out.cell (p := ⟨w.heap.size, 1, none⟩) hlt).trans F1.out); clear ho1 hg1) | (at_builtin; refine append1 (by rfl) _ _ (by rfl) (W.heap.size) _ (([((i : Int) - C)] : List Int)) ((i : Int) + 1) (by rfl) (by rfl) (HO1.out) (hs1) (l1) ?_; intro v2 w2 ho2 hg2; (have HO2 := Lib.hid (show Own w2 W.heap.size v2 (([((i : Int) - C)] : List Int) ++ [(i : Int) + 1]) from ho2)); (have HB2 := Lib.hid (below_own HB1.out HO1.out hs1 hg2)); (have hs2 := HB2.out.size); (have f0 := (HB2.out.cell (p := ⟨w.heap.size, 0, none⟩) hlt).trans F0.out); (have f1 := (HB2.out.cell (p := ⟨w.heap.size, 1, none⟩) hlt).trans F1.out); clear ho2 hg2) | (at_builtin; refine append1 (by rfl) _ _ (by rfl) (W.heap.size) _ (([((i : Int) - C), ((i : Int) + 1)] : List Int)) ((i : Int) - 1) (by rfl) (by rfl) (HO2.out) (hs2) (l2) ?_; intro v3 w3 ho3 hg3; (have HO3 := Lib.hid (show Own w3 W.heap.size v3 (([((i : Int) - C), ((i : Int) + 1)] : List Int) ++ [(i : Int) - 1]) from ho3)); (have HB3 := Lib.hid (below_own HB2.out HO2.out hs2 hg3)); (have hs3 := HB3.out.size); (have f0 := (HB3.out.cell (p := ⟨w.heap.size, 0, none⟩) hlt).trans F0.out); (have f1 := (HB3.out.cell (p := ⟨w.heap.size, 1, none⟩) hlt).trans F1.out); clear ho3 hg3))
          go_ret
          rw [HL.out]
          exact GivesRow.of (HO3.out.mono hsW) (HBw.out.trans (HB3.out.mono hsW))
        · have d3 : ¬ (0 : Int) < (m : Int) := by omega
          have HL := Lib.hid (show nearL n C i = [(i : Int) - C, (i : Int) + 1] by rw [hG.out, if_pos c0, if_pos c1, if_neg c2, if_neg c3]; rfl)
          have l0 : ([] : List Int).length ≤ 1099511627776 := by simp
          have l1 : ([((i : Int) - C)] : List Int).length ≤ 1099511627776 := by simp
          go_wp2_with (first | (at_builtin; refine append1 (by rfl) _ _ (by rfl) (W.heap.size) _ (([] : List Int)) ((i : Int) - C) (by rfl) (by rfl) (HO0.out) (hs0) (l0) ?_; intro v1 w1 ho1 hg1; (have HO1 := Lib.hid (show Own w1 W.heap.size v1 (([] : List Int) ++ [(i : Int) - C]) from ho1)); (have HB1 := Lib.hid (below_own HB0.out HO0.out hs0 hg1)); (have hs1 := HB1.out.size); (have f0 := (HB1.out.cell (p := ⟨w.heap.size, 0, none⟩) hlt).trans F0.out); (have f1 := (HB1.out.cell (p := ⟨w.heap.size, 1, none⟩) hlt).trans F1.out); clear ho1 hg1) | (at_builtin; refine append1 (by rfl) _ _ (by rfl) (W.heap.size) _ (([((i : Int) - C)] : List Int)) ((i : Int) + 1) (by rfl) (by rfl) (HO1.out) (hs1) (l1) ?_; intro v2 w2 ho2 hg2; (have HO2 := Lib.hid (show Own w2 W.heap.size v2 (([((i : Int) - C)] : List Int) ++ [(i : Int) + 1]) from ho2)); (have HB2 := Lib.hid (below_own HB1.out HO1.out hs1 hg2)); (have hs2 := HB2.out.size); (have f0 := (HB2.out.cell (p := ⟨w.heap.size, 0, none⟩) hlt).trans F0.out); (have f1 := (HB2.out.cell (p := ⟨w.heap.size, 1, none⟩) hlt).trans F1.out); clear ho2 hg2))
          go_ret
          rw [HL.out]
          exact GivesRow.of (HO2.out.mono hsW) (HBw.out.trans (HB2.out.mono hsW))
    · have d1 : ¬ (m : Int) + 1 < (C : Int) := by omega
      by_cases c2 : i < K
      · have d2 : (r : Int) + 1 < (n : Int) := by have h := HRn.out; omega
        by_cases c3 : 0 < m
        · have d3 : (0 : Int) < (m : Int) := by omega
          have HL := Lib.hid (show nearL n C i = [(i : Int) - C, (i : Int) + C, (i : Int) - 1] by rw [hG.out, if_pos c0, if_neg c1, if_pos c2, if_pos c3]; rfl)
          have l0 : ([] : List Int).length ≤ 1099511627776 := by simp
          have l1 : ([((i : Int) - C)] : List Int).length ≤ 1099511627776 := by simp
          have l2 : ([((i : Int) - C), ((i : Int) + C)] : List Int).length ≤ 1099511627776 := by simp
          go_wp2_with (first | (at_builtin; refine append1 (by rfl) _ _ (by rfl) (W.heap.size) _ (([] : List Int)) ((i : Int) - C) (by rfl) (by rfl) (HO0.out) (hs0) (l0) ?_; intro v1 w1 ho1 hg1; (have HO1 := Lib.hid (show Own w1 W.heap.size v1 (([] : List Int) ++ [(i : Int) - C]) from ho1)); (have HB1 := Lib.hid (below_own HB0.out HO0.out hs0 hg1)); (have hs1 := HB1.out.size); (have f0 := (HB1.out.cell (p := ⟨w.heap.size, 0, none⟩) hlt).trans F0.out); (have f1 := (HB1.out.cell (p := ⟨w.heap.size, 1, none⟩) hlt).trans F1.out); clear ho1 hg1) | (at_builtin; refine append1 (by rfl) _ _ (by rfl) (W.heap.size) _ (([((i : Int) - C)] : List Int)) ((i : Int) + C) (by rfl) (by rfl) (HO1.out) (hs1) (l1) ?_; intro v2 w2 ho2 hg2; (have HO2 := Lib.hid (show Own w2 W.heap.size v2 (([((i : Int) - C)] : List Int) ++ [(i : Int) + C]) from ho2)); (have HB2 := Lib.hid (below_own HB1.out HO1.out hs1 hg2)); (have hs2 := HB2.out.size); (have f0 := (HB2.out.cell (p := ⟨w.heap.size, 0, none⟩) hlt).trans F0.out); (have f1 := (HB2.out.cell (p := ⟨w.heap.size, 1, none⟩) hlt).trans F1.out); clear ho2 hg2) | (at_builtin; refine append1 (by rfl) _ _ (by rfl) (W.heap.size) _ (([((i : Int) - C), ((i : Int) + C)] : List Int)) ((i : Int) - 1) (by rfl) (by rfl) (HO2.out) (hs2) (l2) ?_; intro v3 w3 ho3 hg3; (have HO3 := Lib.hid (show Own w3 W.heap.size v3 (([((i : Int) - C), ((i : Int) + C)] : List Int) ++ [(i : Int) - 1]) from ho3)); (have HB3 := Lib.hid (below_own HB2.out HO2.out hs2 hg3)); (have hs3 := HB3.out.size); (have f0 := (HB3.out.cell (p := ⟨w.heap.size, 0, none⟩) hlt).trans F0.out); (have f1 := (HB3.out.cell (p := ⟨w.heap.size, 1, none⟩) hlt).trans F1.out); clear ho3 hg3))
          go_ret
          rw [HL.out]
          exact GivesRow.of (HO3.out.mono hsW) (HBw.out.trans (HB3.out.mono hsW))
        · have d3 : ¬ (0 : Int) < (m : Int) := by omega
          have HL := Lib.hid (show nearL n C i = [(i : Int) - C, (i : Int) + C] by rw [hG.out, if_pos c0, if_neg c1, if_pos c2, if_neg c3]; rfl)
          have l0 : ([] : List Int).length ≤ 1099511627776 := by simp
          have l1 : ([((i : Int) - C)] : List Int).length ≤ 1099511627776 := by simp
          go_wp2_with (first | (at_builtin; refine append1 (by rfl) _ _ (by rfl) (W.heap.size) _ (([] : List Int)) ((i : Int) - C) (by rfl) (by rfl) (HO0.out) (hs0) (l0) ?_; intro v1 w1 ho1 hg1; (have HO1 := Lib.hid (show Own w1 W.heap.size v1 (([] : List Int) ++ [(i : Int) - C]) from ho1)); (have HB1 := Lib.hid (below_own HB0.out HO0.out hs0 hg1)); (have hs1 := HB1.out.size); (have f0 := (HB1.out.cell (p := ⟨w.heap.size, 0, none⟩) hlt).trans F0.out); (have f1 := (HB1.out.cell (p := ⟨w.heap.size, 1, none⟩) hlt).trans F1.out); clear ho1 hg1) | (at_builtin; refine append1 (by rfl) _ _ (by rfl) (W.heap.size) _ (([((i : Int) - C)] : List Int)) ((i : Int) + C) (by rfl) (by rfl) (HO1.out) (hs1) (l1) ?_; intro v2 w2 ho2 hg2; (have HO2 := Lib.hid (show Own w2 W.heap.size v2 (([((i : Int) - C)] : List Int) ++ [(i : Int) + C]) from ho2)); (have HB2 := Lib.hid (below_own HB1.out HO1.out hs1 hg2)); (have hs2 := HB2.out.size); (have f0 := (HB2.out.cell (p := ⟨w.heap.size, 0, none⟩) hlt).trans F0.out); (have f1 := (HB2.out.cell (p := ⟨w.heap.size, 1, none⟩) hlt).trans F1.out); clear ho2 hg2))
          go_ret
          rw [HL.out]
          exact GivesRow.of (HO2.out.mono hsW) (HBw.out.trans (HB2.out.mono hsW))
      · have d2 : ¬ (r : Int) + 1 < (n : Int) := by have h := HRn.out; omega
        by_cases c3 : 0 < m
        · have d3 : (0 : Int) < (m : Int) := by omega
          have HL := Lib.hid (show nearL n C i = [(i : Int) - C, (i : Int) - 1] by rw [hG.out, if_pos c0, if_neg c1, if_neg c2, if_pos c3]; rfl)
          have l0 : ([] : List Int).length ≤ 1099511627776 := by simp
          have l1 : ([((i : Int) - C)] : List Int).length ≤ 1099511627776 := by simp
          go_wp2_with (first | (at_builtin; refine append1 (by rfl) _ _ (by rfl) (W.heap.size) _ (([] : List Int)) ((i : Int) - C) (by rfl) (by rfl) (HO0.out) (hs0) (l0) ?_; intro v1 w1 ho1 hg1; (have HO1 := Lib.hid (show Own w1 W.heap.size v1 (([] : List Int) ++ [(i : Int) - C]) from ho1)); (have HB1 := Lib.hid (below_own HB0.out HO0.out hs0 hg1)); (have hs1 := HB1.out.size); (have f0 := (HB1.out.cell (p := ⟨w.heap.size, 0, none⟩) hlt).trans F0.out); (have f1 := (HB1.out.cell (p := ⟨w.heap.size, 1, none⟩) hlt).trans F1.out); clear ho1 hg1) | (at_builtin; refine append1 (by rfl) _ _ (by rfl) (W.heap.size) _ (([((i : Int) - C)] : List Int)) ((i : Int) - 1) (by rfl) (by rfl) (HO1.out) (hs1) (l1) ?_; intro v2 w2 ho2 hg2; (have HO2 := Lib.hid (show Own w2 W.heap.size v2 (([((i : Int) - C)] : List Int) ++ [(i : Int) - 1]) from ho2)); (have HB2 := Lib.hid (below_own HB1.out HO1.out hs1 hg2)); (have hs2 := HB2.out.size); (have f0 := (HB2.out.cell (p := ⟨w.heap.size, 0, none⟩) hlt).trans F0.out); (have f1 := (HB2.out.cell (p := ⟨w.heap.size, 1, none⟩) hlt).trans F1.out); clear ho2 hg2))
          go_ret
          rw [HL.out]
          exact GivesRow.of (HO2.out.mono hsW) (HBw.out.trans (HB2.out.mono hsW))
        · have d3 : ¬ (0 : Int) < (m : Int) := by omega
          have HL := Lib.hid (show nearL n C i = [(i : Int) - C] by rw [hG.out, if_pos c0, if_neg c1, if_neg c2, if_neg c3]; rfl)
          have l0 : ([] : List Int).length ≤ 1099511627776 := by simp
          go_wp2_with (first | (at_builtin; refine append1 (by rfl) _ _ (by rfl) (W.heap.size) _ (([] : List Int)) ((i : Int) - C) (by rfl) (by rfl) (HO0.out) (hs0) (l0) ?_; intro v1 w1 ho1 hg1; (have HO1 := Lib.hid (show Own w1 W.heap.size v1 (([] : List Int) ++ [(i : Int) - C]) from ho1)); (have HB1 := Lib.hid (below_own HB0.out HO0.out hs0 hg1)); (have hs1 := HB1.out.size); (have f0 := (HB1.out.cell (p := ⟨w.heap.size, 0, none⟩) hlt).trans F0.out); (have f1 := (HB1.out.cell (p := ⟨w.heap.size, 1, none⟩) hlt).trans F1.out); clear ho1 hg1))
          go_ret
          rw [HL.out]
          exact GivesRow.of (HO1.out.mono hsW) (HBw.out.trans (HB1.out.mono hsW))
  · have d0 : ¬ (0 : Int) < (r : Int) := by have h := HR0.out; omega
    by_cases c1 : m + 1 < C
    · have d1 : (m : Int) + 1 < (C : Int) := by omega
      by_cases c2 : i < K
      · have d2 : (r : Int) + 1 < (n : Int) := by have h := HRn.out; omega
        by_cases c3 : 0 < m
        · have d3 : (0 : Int) < (m : Int) := by omega
          have HL := Lib.hid (show nearL n C i = [(i : Int) + 1, (i : Int) + C, (i : Int) - 1] by rw [hG.out, if_neg c0, if_pos c1, if_pos c2, if_pos c3]; rfl)
          have l0 : ([] : List Int).length ≤ 1099511627776 := by simp
          have l1 : ([((i : Int) + 1)] : List Int).length ≤ 1099511627776 := by simp
          have l2 : ([((i : Int) + 1), ((i : Int) + C)] : List Int).length ≤ 1099511627776 := by simp
          go_wp2_with (first | (at_builtin; refine append1 (by rfl) _ _ (by rfl) (W.heap.size) _ (([] : List Int)) ((i : Int) + 1) (by rfl) (by rfl) (HO0.out) (hs0) (l0) ?_; intro v1 w1 ho1 hg1; (have HO1 := Lib.hid (show Own w1 W.heap.size v1 (([] : List Int) ++ [(i : Int) + 1]) from ho1)); (have HB1 := Lib.hid (below_own HB0.out HO0.out hs0 hg1)); (have hs1 := HB1.out.size); (have f0 := (HB1.out.cell (p := ⟨w.heap.size, 0, none⟩) hlt).trans F0.out); (have f1 := (HB1.out.cell (p := ⟨w.heap.size, 1, none⟩) hlt).trans F1.out); clear ho1 hg1) | (at_builtin; refine append1 (by rfl) _ _ (by rfl) (W.heap.size) _ (([((i : Int) + 1)] : List Int)) ((i : Int) + C) (by rfl) (by rfl) (HO1.out) (hs1) (l1) ?_; intro v2 w2 ho2 hg2; (have HO2 := Lib.hid (show Own w2 W.heap.size v2 (([((i : Int) + 1)] : List Int) ++ [(i : Int) + C]) from ho2)); (have HB2 := Lib.hid (below_own HB1.out HO1.out hs1 hg2)); (have hs2 := HB2.out.size); (have f0 := (HB2.out.cell (p := ⟨w.heap.size, 0, none⟩) hlt).trans F0.out); (have f1 := (HB2.out.cell (p := ⟨w.heap.size, 1, none⟩) hlt).trans F1.out); clear ho2 hg2) | (at_builtin; refine append1 (by rfl) _ _ (by rfl) (W.heap.size) _ (([((i : Int) + 1), ((i : Int) + C)] : List Int)) ((i : Int) - 1) (by rfl) (by rfl) (HO2.out) (hs2) (l2) ?_; intro v3 w3 ho3 hg3; (have HO3 := Lib.hid (show Own w3 W.heap.size v3 (([((i : Int) + 1), ((i : Int) + C)] : List Int) ++ [(i : Int) - 1]) from ho3)); (have HB3 := Lib.hid (below_own HB2.out HO2.out hs2 hg3)); (have hs3 := HB3.out.size); (have f0 := (HB3.out.cell (p := ⟨w.heap.size, 0, none⟩) hlt).trans F0.out); (have f1 := (HB3.out.cell (p := ⟨w.heap.size, 1, none⟩) hlt).trans F1.out); clear ho3 hg3))
          go_ret
          rw [HL.out]
          exact GivesRow.of (HO3.out.mono hsW) (HBw.out.trans (HB3.out.mono hsW))
        · have d3 : ¬ (0 : Int) < (m : Int) := by omega
          have HL := Lib.hid (show nearL n C i = [(i : Int) + 1, (i : Int) + C] by rw [hG.out, if_neg c0, if_pos c1, if_pos c2, if_neg c3]; rfl)
          have l0 : ([] : List Int).length ≤ 1099511627776 := by simp
          have l1 : ([((i : Int) + 1)] : List Int).length ≤ 1099511627776 := by simp
          go_wp2_with (first | (at_builtin; refine append1 (by rfl) _ _ (by rfl) (W.heap.size) _ (([] : List Int)) ((i : Int) + 1) (by rfl) (by rfl) (HO0.out) (hs0) (l0) ?_; intro v1 w1 ho1 hg1; (have HO1 := Lib.hid (show Own w1 W.heap.size v1 (([] : List Int) ++ [(i : Int) + 1]) from ho1)); (have HB1 := Lib.hid (below_own HB0.out HO0.out hs0 hg1)); (have hs1 := HB1.out.size); (have f0 := (HB1.out.cell (p := ⟨w.heap.size, 0, none⟩) hlt).trans F0.out); (have f1 := (HB1.out.cell (p := ⟨w.heap.size, 1, none⟩) hlt).trans F1.out); clear ho1 hg1) | (at_builtin; refine append1 (by rfl) _ _ (by rfl) (W.heap.size) _ (([((i : Int) + 1)] : List Int)) ((i : Int) + C) (by rfl) (by rfl) (HO1.out) (hs1) (l1) ?_; intro v2 w2 ho2 hg2; (have HO2 := Lib.hid (show Own w2 W.heap.size v2 (([((i : Int) + 1)] : List Int) ++ [(i : Int) + C]) from ho2)); (have HB2 := Lib.hid (below_own HB1.out HO1.out hs1 hg2)); (have hs2 := HB2.out.size); (have f0 := (HB2.out.cell (p := ⟨w.heap.size, 0, none⟩) hlt).trans F0.out); (have f1 := (HB2.out.cell (p := ⟨w.heap.size, 1, none⟩) hlt).trans F1.out); clear ho2 hg2))
          go_ret
          rw [HL.out]
          exact GivesRow.of (HO2.out.mono hsW) (HBw.out.trans (HB2.out.mono hsW))
      · have d2 : ¬ (r : Int) + 1 < (n : Int) := by have h := HRn.out; omega
        by_cases c3 : 0 < m
        · have d3 : (0 : Int) < (m : Int) := by omega
          have HL := Lib.hid (show nearL n C i = [(i : Int) + 1, (i : Int) - 1] by rw [hG.out, if_neg c0, if_pos c1, if_neg c2, if_pos c3]; rfl)
          have l0 : ([] : List Int).length ≤ 1099511627776 := by simp
          have l1 : ([((i : Int) + 1)] : List Int).length ≤ 1099511627776 := by simp
          go_wp2_with (first | (at_builtin; refine append1 (by rfl) _ _ (by rfl) (W.heap.size) _ (([] : List Int)) ((i : Int) + 1) (by rfl) (by rfl) (HO0.out) (hs0) (l0) ?_; intro v1 w1 ho1 hg1; (have HO1 := Lib.hid (show Own w1 W.heap.size v1 (([] : List Int) ++ [(i : Int) + 1]) from ho1)); (have HB1 := Lib.hid (below_own HB0.out HO0.out hs0 hg1)); (have hs1 := HB1.out.size); (have f0 := (HB1.out.cell (p := ⟨w.heap.size, 0, none⟩) hlt).trans F0.out); (have f1 := (HB1.out.cell (p := ⟨w.heap.size, 1, none⟩) hlt).trans F1.out); clear ho1 hg1) | (at_builtin; refine append1 (by rfl) _ _ (by rfl) (W.heap.size) _ (([((i : Int) + 1)] : List Int)) ((i : Int) - 1) (by rfl) (by rfl) (HO1.out) (hs1) (l1) ?_; intro v2 w2 ho2 hg2; (have HO2 := Lib.hid (show Own w2 W.heap.size v2 (([((i : Int) + 1)] : List Int) ++ [(i : Int) - 1]) from ho2)); (have HB2 := Lib.hid (below_own HB1.out HO1.out hs1 hg2)); (have hs2 := HB2.out.size); (have f0 := (HB2.out.cell (p := ⟨w.heap.size, 0, none⟩) hlt).trans F0.out); (have f1 := (HB2.out.cell (p := ⟨w.heap.size, 1, none⟩) hlt).trans F1.out); clear ho2 hg2))
          go_ret
          rw [HL.out]
          exact GivesRow.of (HO2.out.mono hsW) (HBw.out.trans (HB2.out.mono hsW))
        · have d3 : ¬ (0 : Int) < (m : Int) := by omega
          have HL := Lib.hid (show nearL n C i = [(i : Int) + 1] by rw [hG.out, if_neg c0, if_pos c1, if_neg c2, if_neg c3]; rfl)
          have l0 : ([] : List Int).length ≤ 1099511627776 := by simp
          go_wp2_with (first | (at_builtin; refine append1 (by rfl) _ _ (by rfl) (W.heap.size) _ (([] : List Int)) ((i : Int) + 1) (by rfl) (by rfl) (HO0.out) (hs0) (l0) ?_; intro v1 w1 ho1 hg1; (have HO1 := Lib.hid (show Own w1 W.heap.size v1 (([] : List Int) ++ [(i : Int) + 1]) from ho1)); (have HB1 := Lib.hid (below_own HB0.out HO0.out hs0 hg1)); (have hs1 := HB1.out.size); (have f0 := (HB1.out.cell (p := ⟨w.heap.size, 0, none⟩) hlt).trans F0.out); (have f1 := (HB1.out.cell (p := ⟨w.heap.size, 1, none⟩) hlt).trans F1.out); clear ho1 hg1))
          go_ret
          rw [HL.out]
          exact GivesRow.of (HO1.out.mono hsW) (HBw.out.trans (HB1.out.mono hsW))
    · have d1 : ¬ (m : Int) + 1 < (C : Int) := by omega
      by_cases c2 : i < K
      · have d2 : (r : Int) + 1 < (n : Int) := by have h := HRn.out; omega
        by_cases c3 : 0 < m
        · have d3 : (0 : Int) < (m : Int) := by omega
          have HL := Lib.hid (show nearL n C i = [(i : Int) + C, (i : Int) - 1] by rw [hG.out, if_neg c0, if_neg c1, if_pos c2, if_pos c3]; rfl)
          have l0 : ([] : List Int).length ≤ 1099511627776 := by simp
          have l1 : ([((i : Int) + C)] : List Int).length ≤ 1099511627776 := by simp
          go_wp2_with (first | (at_builtin; refine append1 (by rfl) _ _ (by rfl) (W.heap.size) _ (([] : List Int)) ((i : Int) + C) (by rfl) (by rfl) (HO0.out) (hs0) (l0) ?_; intro v1 w1 ho1 hg1; (have HO1 := Lib.hid (show Own w1 W.heap.size v1 (([] : List Int) ++ [(i : Int) + C]) from ho1)); (have HB1 := Lib.hid (below_own HB0.out HO0.out hs0 hg1)); (have hs1 := HB1.out.size); (have f0 := (HB1.out.cell (p := ⟨w.heap.size, 0, none⟩) hlt).trans F0.out); (have f1 := (HB1.out.cell (p := ⟨w.heap.size, 1, none⟩) hlt).trans F1.out); clear ho1 hg1) | (at_builtin; refine append1 (by rfl) _ _ (by rfl) (W.heap.size) _ (([((i : Int) + C)] : List Int)) ((i : Int) - 1) (by rfl) (by rfl) (HO1.out) (hs1) (l1) ?_; intro v2 w2 ho2 hg2; (have HO2 := Lib.hid (show Own w2 W.heap.size v2 (([((i : Int) + C)] : List Int) ++ [(i : Int) - 1]) from ho2)); (have HB2 := Lib.hid (below_own HB1.out HO1.out hs1 hg2)); (have hs2 := HB2.out.size); (have f0 := (HB2.out.cell (p := ⟨w.heap.size, 0, none⟩) hlt).trans F0.out); (have f1 := (HB2.out.cell (p := ⟨w.heap.size, 1, none⟩) hlt).trans F1.out); clear ho2 hg2))
          go_ret
          rw [HL.out]
          exact GivesRow.of (HO2.out.mono hsW) (HBw.out.trans (HB2.out.mono hsW))
        · have d3 : ¬ (0 : Int) < (m : Int) := by omega
          have HL := Lib.hid (show nearL n C i = [(i : Int) + C] by rw [hG.out, if_neg c0, if_neg c1, if_pos c2, if_neg c3]; rfl)
          have l0 : ([] : List Int).length ≤ 1099511627776 := by simp
          go_wp2_with (first | (at_builtin; refine append1 (by rfl) _ _ (by rfl) (W.heap.size) _ (([] : List Int)) ((i : Int) + C) (by rfl) (by rfl) (HO0.out) (hs0) (l0) ?_; intro v1 w1 ho1 hg1; (have HO1 := Lib.hid (show Own w1 W.heap.size v1 (([] : List Int) ++ [(i : Int) + C]) from ho1)); (have HB1 := Lib.hid (below_own HB0.out HO0.out hs0 hg1)); (have hs1 := HB1.out.size); (have f0 := (HB1.out.cell (p := ⟨w.heap.size, 0, none⟩) hlt).trans F0.out); (have f1 := (HB1.out.cell (p := ⟨w.heap.size, 1, none⟩) hlt).trans F1.out); clear ho1 hg1))
          go_ret
          rw [HL.out]
          exact GivesRow.of (HO1.out.mono hsW) (HBw.out.trans (HB1.out.mono hsW))
      · have d2 : ¬ (r : Int) + 1 < (n : Int) := by have h := HRn.out; omega
        by_cases c3 : 0 < m
        · have d3 : (0 : Int) < (m : Int) := by omega
          have HL := Lib.hid (show nearL n C i = [(i : Int) - 1] by rw [hG.out, if_neg c0, if_neg c1, if_neg c2, if_pos c3]; rfl)
          have l0 : ([] : List Int).length ≤ 1099511627776 := by simp
          go_wp2_with (first | (at_builtin; refine append1 (by rfl) _ _ (by rfl) (W.heap.size) _ (([] : List Int)) ((i : Int) - 1) (by rfl) (by rfl) (HO0.out) (hs0) (l0) ?_; intro v1 w1 ho1 hg1; (have HO1 := Lib.hid (show Own w1 W.heap.size v1 (([] : List Int) ++ [(i : Int) - 1]) from ho1)); (have HB1 := Lib.hid (below_own HB0.out HO0.out hs0 hg1)); (have hs1 := HB1.out.size); (have f0 := (HB1.out.cell (p := ⟨w.heap.size, 0, none⟩) hlt).trans F0.out); (have f1 := (HB1.out.cell (p := ⟨w.heap.size, 1, none⟩) hlt).trans F1.out); clear ho1 hg1))
          go_ret
          rw [HL.out]
          exact GivesRow.of (HO1.out.mono hsW) (HBw.out.trans (HB1.out.mono hsW))
        · have d3 : ¬ (0 : Int) < (m : Int) := by omega
          have HL := Lib.hid (show nearL n C i = [] by rw [hG.out, if_neg c0, if_neg c1, if_neg c2, if_neg c3]; rfl)
          go_wp2
          go_ret
          rw [HL.out]
          exact GivesRow.of (HO0.out.mono hsW) (HBw.out.trans (HB0.out.mono hsW))

end Go.Proofs.Ytkhhloeemecokaa
