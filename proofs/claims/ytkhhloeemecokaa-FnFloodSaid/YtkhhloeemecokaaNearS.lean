/- Contract: l2Near of the reference. -/
import Derived.Test.YtkhhloeemecokaaNear0
namespace Go.Proofs.Ytkhhloeemecokaa
open Go.RowKit
set_option linter.unusedVariables false

set_option maxHeartbeats 4000000 in
theorem l2Near_any (v : Value) (g : List (List Int)) (i n C : Nat) (w : World) (hr : MRow w v g) (hn : n = g.length) (hC : C = colsG g) (h1 : 1 ≤ n) (h2 : n ≤ 7) (h3 : 1 ≤ C) (h4 : C ≤ 7) (hi : i < n * C) :
    Calls Try.prog 45 #[v, .int .i64 (i : Nat)] w (GivesRow (nearL n C i) w) := by
  obtain ⟨a, cap, rfl⟩ := hr.shape
  rw [← hn] at hr ⊢
  obtain ⟨b, off, a0, c0, rfl, hcell⟩ := hr.first (by omega)
  rw [← hC] at hcell
  have hi49 : i < 49 := Nat.lt_of_lt_of_le hi (Nat.mul_le_mul h2 h4)
  obtain ⟨m, hm⟩ : ∃ m, m = i % C := ⟨_, rfl⟩
  obtain ⟨K, hK⟩ : ∃ K, K = C * (n - 1) := ⟨_, rfl⟩
  have hmC : m < C := by rw [hm]; exact Nat.mod_lt _ h3
  have hKb : K ≤ 49 := by rw [hK]; exact Nat.le_trans (Nat.mul_le_mul h4 (Nat.le_trans (Nat.sub_le n 1) h2)) (by decide)
  have t1 : (i : Int).tmod (C : Int) = (m : Int) := by rw [hm]; rfl
  have t2 : (i : Int) % (C : Int) = (m : Int) := by rw [hm]; omega
  have t3 : (C : Int) * ((n : Int) - 1) = (K : Int) := by rw [hK, show (n : Int) - 1 = ((n - 1 : Nat) : Int) by omega]; simp
  have hG := Lib.hid (show nearL n C i = (if C ≤ i then [(i : Int) - C] else []) ++ ((if m + 1 < C then [(i : Int) + 1] else []) ++ ((if i < K then [(i : Int) + C] else []) ++ (if 0 < m then [(i : Int) - 1] else []))) by unfold nearL; rw [hm, hK])
  have lt0 := World.block_lt_of_cell? _ _ hcell
  have HO0 := Lib.hid (Own.emptyLit w w.heap.size (Nat.le_refl _))
  have hbA := Below.alloc (Below.refl w.heap.size w) (Nat.le_refl _) (.cells #[] 3)
  have hcA := (hbA.cell (p := ⟨b, off, none⟩) lt0).trans hcell
  have hs0 := hbA.size
  have HB0 := Lib.hid hbA
  have n0 : 0 < n := by omega
  clear hr hn hC hm hK hbA hi
  by_cases c0 : C ≤ i
  · have d0 : (C : Int) ≤ (i : Int) := by omega
    by_cases c1 : m + 1 < C
    · have d1 : (m : Int) < (C : Int) - 1 := by omega
      by_cases c2 : i < K
      · have d2 : (i : Int) < (K : Int) := by omega
        by_cases c3 : 0 < m
        · have d3 : (0 : Int) < (m : Int) := by omega
          have HL := Lib.hid (show nearL n C i = [(i : Int) - C, (i : Int) + 1, (i : Int) + C, (i : Int) - 1] by rw [hG.out, if_pos c0, if_pos c1, if_pos c2, if_pos c3]; rfl)
          have l0 : ([] : List Int).length ≤ 1099511627776 := by simp
          have l1 : ([((i : Int) - C)] : List Int).length ≤ 1099511627776 := by simp
          have l2 : ([((i : Int) - C), ((i : Int) + 1)] : List Int).length ≤ 1099511627776 := by simp
          have l3 : ([((i : Int) - C), ((i : Int) + 1), ((i : Int) + C)] : List Int).length ≤ 1099511627776 := by simp
          go_enter Try.func45, Try.ntmps45
          go_upto_region 2 with (fail)
          obtain ⟨v0, hv0⟩ : ∃ v, v = Value.slice (some ⟨w.heap.size, 0, none⟩) 0 0 := ⟨_, rfl⟩
          rw [← hv0]
          rw [← hv0] at HO0
          obtain ⟨W0, hW0⟩ : ∃ W, W = w.alloc (.cells #[] 3) := ⟨_, rfl⟩
          rw [← hW0]
          rw [← hW0] at HO0 hcA hs0 HB0
          clear hv0 hW0
          go_wp2_with (first | (at_builtin; refine append1 (by rfl) _ _ (by rfl) (w.heap.size) _ (([] : List Int)) ((i : Int) - C) (by rfl) (by rfl) (HO0.out) (hs0) (l0) ?_; intro v1 w1 ho1 hg1; (have HO1 := Lib.hid (show Own w1 w.heap.size v1 (([] : List Int) ++ [(i : Int) - C]) from ho1)); (have HB1 := Lib.hid (below_own HB0.out HO0.out hs0 hg1)); (have hs1 := HB1.out.size); clear ho1 hg1) | (at_builtin; refine append1 (by rfl) _ _ (by rfl) (w.heap.size) _ (([((i : Int) - C)] : List Int)) ((i : Int) + 1) (by rfl) (by rfl) (HO1.out) (hs1) (l1) ?_; intro v2 w2 ho2 hg2; (have HO2 := Lib.hid (show Own w2 w.heap.size v2 (([((i : Int) - C)] : List Int) ++ [(i : Int) + 1]) from ho2)); (have HB2 := Lib.hid (below_own HB1.out HO1.out hs1 hg2)); (have hs2 := HB2.out.size); clear ho2 hg2) | (at_builtin; refine append1 (by rfl) _ _ (by rfl) (w.heap.size) _ (([((i : Int) - C), ((i : Int) + 1)] : List Int)) ((i : Int) + C) (by rfl) (by rfl) (HO2.out) (hs2) (l2) ?_; intro v3 w3 ho3 hg3; (have HO3 := Lib.hid (show Own w3 w.heap.size v3 (([((i : Int) - C), ((i : Int) + 1)] : List Int) ++ [(i : Int) + C]) from ho3)); (have HB3 := Lib.hid (below_own HB2.out HO2.out hs2 hg3)); (have hs3 := HB3.out.size); clear ho3 hg3) | (at_builtin; refine append1 (by rfl) _ _ (by rfl) (w.heap.size) _ (([((i : Int) - C), ((i : Int) + 1), ((i : Int) + C)] : List Int)) ((i : Int) - 1) (by rfl) (by rfl) (HO3.out) (hs3) (l3) ?_; intro v4 w4 ho4 hg4; (have HO4 := Lib.hid (show Own w4 w.heap.size v4 (([((i : Int) - C), ((i : Int) + 1), ((i : Int) + C)] : List Int) ++ [(i : Int) - 1]) from ho4)); (have HB4 := Lib.hid (below_own HB3.out HO3.out hs3 hg4)); (have hs4 := HB4.out.size); clear ho4 hg4))
          go_ret
          rw [HL.out]
          exact GivesRow.of HO4.out HB4.out
        · have d3 : ¬ (0 : Int) < (m : Int) := by omega
          have HL := Lib.hid (show nearL n C i = [(i : Int) - C, (i : Int) + 1, (i : Int) + C] by rw [hG.out, if_pos c0, if_pos c1, if_pos c2, if_neg c3]; rfl)
          have l0 : ([] : List Int).length ≤ 1099511627776 := by simp
          have l1 : ([((i : Int) - C)] : List Int).length ≤ 1099511627776 := by simp
          have l2 : ([((i : Int) - C), ((i : Int) + 1)] : List Int).length ≤ 1099511627776 := by simp
          go_enter Try.func45, Try.ntmps45
          go_upto_region 2 with (fail)
          obtain ⟨v0, hv0⟩ : ∃ v, v = Value.slice (some ⟨w.heap.size, 0, none⟩) 0 0 := ⟨_, rfl⟩
          rw [← hv0]
          rw [← hv0] at HO0
          obtain ⟨W0, hW0⟩ : ∃ W, W = w.alloc (.cells #[] 3) := ⟨_, rfl⟩
          rw [← hW0]
          rw [← hW0] at HO0 hcA hs0 HB0
          clear hv0 hW0
          go_wp2_with (first | (at_builtin; refine append1 (by rfl) _ _ (by rfl) (w.heap.size) _ (([] : List Int)) ((i : Int) - C) (by rfl) (by rfl) (HO0.out) (hs0) (l0) ?_; intro v1 w1 ho1 hg1; (have HO1 := Lib.hid (show Own w1 w.heap.size v1 (([] : List Int) ++ [(i : Int) - C]) from ho1)); (have HB1 := Lib.hid (below_own HB0.out HO0.out hs0 hg1)); (have hs1 := HB1.out.size); clear ho1 hg1) | (at_builtin; refine append1 (by rfl) _ _ (by rfl) (w.heap.size) _ (([((i : Int) - C)] : List Int)) ((i : Int) + 1) (by rfl) (by rfl) (HO1.out) (hs1) (l1) ?_; intro v2 w2 ho2 hg2; (have HO2 := Lib.hid (show Own w2 w.heap.size v2 (([((i : Int) - C)] : List Int) ++ [(i : Int) + 1]) from ho2)); (have HB2 := Lib.hid (below_own HB1.out HO1.out hs1 hg2)); (have hs2 := HB2.out.size); clear ho2 hg2) | (at_builtin; refine append1 (by rfl) _ _ (by rfl) (w.heap.size) _ (([((i : Int) - C), ((i : Int) + 1)] : List Int)) ((i : Int) + C) (by rfl) (by rfl) (HO2.out) (hs2) (l2) ?_; intro v3 w3 ho3 hg3; (have HO3 := Lib.hid (show Own w3 w.heap.size v3 (([((i : Int) - C), ((i : Int) + 1)] : List Int) ++ [(i : Int) + C]) from ho3)); (have HB3 := Lib.hid (below_own HB2.out HO2.out hs2 hg3)); (have hs3 := HB3.out.size); clear ho3 hg3))
          go_ret
          rw [HL.out]
          exact GivesRow.of HO3.out HB3.out
      · have d2 : ¬ (i : Int) < (K : Int) := by omega
        by_cases c3 : 0 < m
        · have d3 : (0 : Int) < (m : Int) := by omega
          have HL := Lib.hid (show nearL n C i = [(i : Int) - C, (i : Int) + 1, (i : Int) - 1] by rw [hG.out, if_pos c0, if_pos c1, if_neg c2, if_pos c3]; rfl)
          have l0 : ([] : List Int).length ≤ 1099511627776 := by simp
          have l1 : ([((i : Int) - C)] : List Int).length ≤ 1099511627776 := by simp
          have l2 : ([((i : Int) - C), ((i : Int) + 1)] : List Int).length ≤ 1099511627776 := by simp
          go_enter Try.func45, Try.ntmps45
          go_upto_region 2 with (fail)
          obtain ⟨v0, hv0⟩ : ∃ v, v = Value.slice (some ⟨w.heap.size, 0, none⟩) 0 0 := ⟨_, rfl⟩
          rw [← hv0]
          rw [← hv0] at HO0
          obtain ⟨W0, hW0⟩ : ∃ W, W = w.alloc (.cells #[] 3) := ⟨_, rfl⟩
          rw [← hW0]
          rw [← hW0] at HO0 hcA hs0 HB0
          clear hv0 hW0
          go_wp2_with (first | (at_builtin; refine append1 (by rfl) _ _ (by rfl) (w.heap.size) _ (([] : List Int)) ((i : Int) - C) (by rfl) (by rfl) (HO0.out) (hs0) (l0) ?_; intro v1 w1 ho1 hg1; (have HO1 := Lib.hid (show Own w1 w.heap.size v1 (([] : List Int) ++ [(i : Int) - C]) from ho1)); (have HB1 := Lib.hid (below_own HB0.out HO0.out hs0 hg1)); (have hs1 := HB1.out.size); clear ho1 hg1) | (at_builtin; refine append1 (by rfl) _ _ (by rfl) (w.heap.size) _ (([((i : Int) - C)] : List Int)) ((i : Int) + 1) (by rfl) (by rfl) (HO1.out) (hs1) (l1) ?_; intro v2 w2 ho2 hg2; (have HO2 := Lib.hid (show Own w2 w.heap.size v2 (([((i : Int) - C)] : List Int) ++ [(i : Int) + 1]) from ho2)); (have HB2 := Lib.hid (below_own HB1.out HO1.out hs1 hg2)); (have hs2 := HB2.out.size); clear ho2 hg2) | (at_builtin; refine append1 (by rfl) _ _ (by rfl) (w.heap.size) _ (([((i : Int) - C), ((i : Int) + 1)] : List Int)) ((i : Int) - 1) (by rfl) (by rfl) (HO2.out) (hs2) (l2) ?_; intro v3 w3 ho3 hg3; (have HO3 := Lib.hid (show Own w3 w.heap.size v3 (([((i : Int) - C), ((i : Int) + 1)] : List Int) ++ [(i : Int) - 1]) from ho3)); (have HB3 := Lib.hid (below_own HB2.out HO2.out hs2 hg3)); (have hs3 := HB3.out.size); clear ho3 hg3))
          go_ret
          rw [HL.out]
          exact GivesRow.of HO3.out HB3.out
        · have d3 : ¬ (0 : Int) < (m : Int) := by omega
          have HL := Lib.hid (show nearL n C i = [(i : Int) - C, (i : Int) + 1] by rw [hG.out, if_pos c0, if_pos c1, if_neg c2, if_neg c3]; rfl)
          have l0 : ([] : List Int).length ≤ 1099511627776 := by simp
          have l1 : ([((i : Int) - C)] : List Int).length ≤ 1099511627776 := by simp
          go_enter Try.func45, Try.ntmps45
          go_upto_region 2 with (fail)
          obtain ⟨v0, hv0⟩ : ∃ v, v = Value.slice (some ⟨w.heap.size, 0, none⟩) 0 0 := ⟨_, rfl⟩
          rw [← hv0]
          rw [← hv0] at HO0
          obtain ⟨W0, hW0⟩ : ∃ W, W = w.alloc (.cells #[] 3) := ⟨_, rfl⟩
          rw [← hW0]
          rw [← hW0] at HO0 hcA hs0 HB0
          clear hv0 hW0
          go_wp2_with (first | (at_builtin; refine append1 (by rfl) _ _ (by rfl) (w.heap.size) _ (([] : List Int)) ((i : Int) - C) (by rfl) (by rfl) (HO0.out) (hs0) (l0) ?_; intro v1 w1 ho1 hg1; (have HO1 := Lib.hid (show Own w1 w.heap.size v1 (([] : List Int) ++ [(i : Int) - C]) from ho1)); (have HB1 := Lib.hid (below_own HB0.out HO0.out hs0 hg1)); (have hs1 := HB1.out.size); clear ho1 hg1) | (at_builtin; refine append1 (by rfl) _ _ (by rfl) (w.heap.size) _ (([((i : Int) - C)] : List Int)) ((i : Int) + 1) (by rfl) (by rfl) (HO1.out) (hs1) (l1) ?_; intro v2 w2 ho2 hg2; (have HO2 := Lib.hid (show Own w2 w.heap.size v2 (([((i : Int) - C)] : List Int) ++ [(i : Int) + 1]) from ho2)); (have HB2 := Lib.hid (below_own HB1.out HO1.out hs1 hg2)); (have hs2 := HB2.out.size); clear ho2 hg2))
          go_ret
          rw [HL.out]
          exact GivesRow.of HO2.out HB2.out
    · have d1 : ¬ (m : Int) < (C : Int) - 1 := by omega
      by_cases c2 : i < K
      · have d2 : (i : Int) < (K : Int) := by omega
        by_cases c3 : 0 < m
        · have d3 : (0 : Int) < (m : Int) := by omega
          have HL := Lib.hid (show nearL n C i = [(i : Int) - C, (i : Int) + C, (i : Int) - 1] by rw [hG.out, if_pos c0, if_neg c1, if_pos c2, if_pos c3]; rfl)
          have l0 : ([] : List Int).length ≤ 1099511627776 := by simp
          have l1 : ([((i : Int) - C)] : List Int).length ≤ 1099511627776 := by simp
          have l2 : ([((i : Int) - C), ((i : Int) + C)] : List Int).length ≤ 1099511627776 := by simp
          go_enter Try.func45, Try.ntmps45
          go_upto_region 2 with (fail)
          obtain ⟨v0, hv0⟩ : ∃ v, v = Value.slice (some ⟨w.heap.size, 0, none⟩) 0 0 := ⟨_, rfl⟩
          rw [← hv0]
          rw [← hv0] at HO0
          obtain ⟨W0, hW0⟩ : ∃ W, W = w.alloc (.cells #[] 3) := ⟨_, rfl⟩
          rw [← hW0]
          rw [← hW0] at HO0 hcA hs0 HB0
          clear hv0 hW0
          go_wp2_with (first | (at_builtin; refine append1 (by rfl) _ _ (by rfl) (w.heap.size) _ (([] : List Int)) ((i : Int) - C) (by rfl) (by rfl) (HO0.out) (hs0) (l0) ?_; intro v1 w1 ho1 hg1; (have HO1 := Lib.hid (show Own w1 w.heap.size v1 (([] : List Int) ++ [(i : Int) - C]) from ho1)); (have HB1 := Lib.hid (below_own HB0.out HO0.out hs0 hg1)); (have hs1 := HB1.out.size); clear ho1 hg1) | (at_builtin; refine append1 (by rfl) _ _ (by rfl) (w.heap.size) _ (([((i : Int) - C)] : List Int)) ((i : Int) + C) (by rfl) (by rfl) (HO1.out) (hs1) (l1) ?_; intro v2 w2 ho2 hg2; (have HO2 := Lib.hid (show Own w2 w.heap.size v2 (([((i : Int) - C)] : List Int) ++ [(i : Int) + C]) from ho2)); (have HB2 := Lib.hid (below_own HB1.out HO1.out hs1 hg2)); (have hs2 := HB2.out.size); clear ho2 hg2) | (at_builtin; refine append1 (by rfl) _ _ (by rfl) (w.heap.size) _ (([((i : Int) - C), ((i : Int) + C)] : List Int)) ((i : Int) - 1) (by rfl) (by rfl) (HO2.out) (hs2) (l2) ?_; intro v3 w3 ho3 hg3; (have HO3 := Lib.hid (show Own w3 w.heap.size v3 (([((i : Int) - C), ((i : Int) + C)] : List Int) ++ [(i : Int) - 1]) from ho3)); (have HB3 := Lib.hid (below_own HB2.out HO2.out hs2 hg3)); (have hs3 := HB3.out.size); clear ho3 hg3))
          go_ret
          rw [HL.out]
          exact GivesRow.of HO3.out HB3.out
        · have d3 : ¬ (0 : Int) < (m : Int) := by omega
          have HL := Lib.hid (show nearL n C i = [(i : Int) - C, (i : Int) + C] by rw [hG.out, if_pos c0, if_neg c1, if_pos c2, if_neg c3]; rfl)
          have l0 : ([] : List Int).length ≤ 1099511627776 := by simp
          have l1 : ([((i : Int) - C)] : List Int).length ≤ 1099511627776 := by simp
          go_enter Try.func45, Try.ntmps45
          go_upto_region 2 with (fail)
          obtain ⟨v0, hv0⟩ : ∃ v, v = Value.slice (some ⟨w.heap.size, 0, none⟩) 0 0 := ⟨_, rfl⟩
          rw [← hv0]
          rw [← hv0] at HO0
          obtain ⟨W0, hW0⟩ : ∃ W, W = w.alloc (.cells #[] 3) := ⟨_, rfl⟩
          rw [← hW0]
          rw [← hW0] at HO0 hcA hs0 HB0
          clear hv0 hW0
          go_wp2_with (first | (at_builtin; refine append1 (by rfl) _ _ (by rfl) (w.heap.size) _ (([] : List Int)) ((i : Int) - C) (by rfl) (by rfl) (HO0.out) (hs0) (l0) ?_; intro v1 w1 ho1 hg1; (have HO1 := Lib.hid (show Own w1 w.heap.size v1 (([] : List Int) ++ [(i : Int) - C]) from ho1)); (have HB1 := Lib.hid (below_own HB0.out HO0.out hs0 hg1)); (have hs1 := HB1.out.size); clear ho1 hg1) | (at_builtin; refine append1 (by rfl) _ _ (by rfl) (w.heap.size) _ (([((i : Int) - C)] : List Int)) ((i : Int) + C) (by rfl) (by rfl) (HO1.out) (hs1) (l1) ?_; intro v2 w2 ho2 hg2; (have HO2 := Lib.hid (show Own w2 w.heap.size v2 (([((i : Int) - C)] : List Int) ++ [(i : Int) + C]) from ho2)); (have HB2 := Lib.hid (below_own HB1.out HO1.out hs1 hg2)); (have hs2 := HB2.out.size); clear ho2 hg2))
          go_ret
          rw [HL.out]
          exact GivesRow.of HO2.out HB2.out
      · have d2 : ¬ (i : Int) < (K : Int) := by omega
        by_cases c3 : 0 < m
        · have d3 : (0 : Int) < (m : Int) := by omega
          have HL := Lib.hid (show nearL n C i = [(i : Int) - C, (i : Int) - 1] by rw [hG.out, if_pos c0, if_neg c1, if_neg c2, if_pos c3]; rfl)
          have l0 : ([] : List Int).length ≤ 1099511627776 := by simp
          have l1 : ([((i : Int) - C)] : List Int).length ≤ 1099511627776 := by simp
          go_enter Try.func45, Try.ntmps45
          go_upto_region 2 with (fail)
          obtain ⟨v0, hv0⟩ : ∃ v, v = Value.slice (some ⟨w.heap.size, 0, none⟩) 0 0 := ⟨_, rfl⟩
          rw [← hv0]
          rw [← hv0] at HO0
          obtain ⟨W0, hW0⟩ : ∃ W, W = w.alloc (.cells #[] 3) := ⟨_, rfl⟩
          rw [← hW0]
          rw [← hW0] at HO0 hcA hs0 HB0
          clear hv0 hW0
          go_wp2_with (first | (at_builtin; refine append1 (by rfl) _ _ (by rfl) (w.heap.size) _ (([] : List Int)) ((i : Int) - C) (by rfl) (by rfl) (HO0.out) (hs0) (l0) ?_; intro v1 w1 ho1 hg1; (have HO1 := Lib.hid (show Own w1 w.heap.size v1 (([] : List Int) ++ [(i : Int) - C]) from ho1)); (have HB1 := Lib.hid (below_own HB0.out HO0.out hs0 hg1)); (have hs1 := HB1.out.size); clear ho1 hg1) | (at_builtin; refine append1 (by rfl) _ _ (by rfl) (w.heap.size) _ (([((i : Int) - C)] : List Int)) ((i : Int) - 1) (by rfl) (by rfl) (HO1.out) (hs1) (l1) ?_; intro v2 w2 ho2 hg2; (have HO2 := Lib.hid (show Own w2 w.heap.size v2 (([((i : Int) - C)] : List Int) ++ [(i : Int) - 1]) from ho2)); (have HB2 := Lib.hid (below_own HB1.out HO1.out hs1 hg2)); (have hs2 := HB2.out.size); clear ho2 hg2))
          go_ret
          rw [HL.out]
          exact GivesRow.of HO2.out HB2.out
        · have d3 : ¬ (0 : Int) < (m : Int) := by omega
          have HL := Lib.hid (show nearL n C i = [(i : Int) - C] by rw [hG.out, if_pos c0, if_neg c1, if_neg c2, if_neg c3]; rfl)
          have l0 : ([] : List Int).length ≤ 1099511627776 := by simp
          go_enter Try.func45, Try.ntmps45
          go_upto_region 2 with (fail)
          obtain ⟨v0, hv0⟩ : ∃ v, v = Value.slice (some ⟨w.heap.size, 0, none⟩) 0 0 := ⟨_, rfl⟩
          rw [← hv0]
          rw [← hv0] at HO0
          obtain ⟨W0, hW0⟩ : ∃ W, W = w.alloc (.cells #[] 3) := ⟨_, rfl⟩
          rw [← hW0]
          rw [← hW0] at HO0 hcA hs0 HB0
          clear hv0 hW0
          go_wp2_with (first | (at_builtin; refine append1 (by rfl) _ _ (by rfl) (w.heap.size) _ (([] : List Int)) ((i : Int) - C) (by rfl) (by rfl) (HO0.out) (hs0) (l0) ?_; intro v1 w1 ho1 hg1; (have HO1 := Lib.hid (show Own w1 w.heap.size v1 (([] : List Int) ++ [(i : Int) - C]) from ho1)); (have HB1 := Lib.hid (below_own HB0.out HO0.out hs0 hg1)); (have hs1 := HB1.out.size); clear ho1 hg1))
          go_ret
          rw [HL.out]
          exact GivesRow.of HO1.out HB1.out
  · have d0 : ¬ (C : Int) ≤ (i : Int) := by omega
    by_cases c1 : m + 1 < C
    · have d1 : (m : Int) < (C : Int) - 1 := by omega
      by_cases c2 : i < K
      · have d2 : (i : Int) < (K : Int) := by omega
        by_cases c3 : 0 < m
        · have d3 : (0 : Int) < (m : Int) := by omega
          have HL := Lib.hid (show nearL n C i = [(i : Int) + 1, (i : Int) + C, (i : Int) - 1] by rw [hG.out, if_neg c0, if_pos c1, if_pos c2, if_pos c3]; rfl)
          have l0 : ([] : List Int).length ≤ 1099511627776 := by simp
          have l1 : ([((i : Int) + 1)] : List Int).length ≤ 1099511627776 := by simp
          have l2 : ([((i : Int) + 1), ((i : Int) + C)] : List Int).length ≤ 1099511627776 := by simp
          go_enter Try.func45, Try.ntmps45
          go_upto_region 2 with (fail)
          obtain ⟨v0, hv0⟩ : ∃ v, v = Value.slice (some ⟨w.heap.size, 0, none⟩) 0 0 := ⟨_, rfl⟩
          rw [← hv0]
          rw [← hv0] at HO0
          obtain ⟨W0, hW0⟩ : ∃ W, W = w.alloc (.cells #[] 3) := ⟨_, rfl⟩
          rw [← hW0]
          rw [← hW0] at HO0 hcA hs0 HB0
          clear hv0 hW0
          go_wp2_with (first | (at_builtin; refine append1 (by rfl) _ _ (by rfl) (w.heap.size) _ (([] : List Int)) ((i : Int) + 1) (by rfl) (by rfl) (HO0.out) (hs0) (l0) ?_; intro v1 w1 ho1 hg1; (have HO1 := Lib.hid (show Own w1 w.heap.size v1 (([] : List Int) ++ [(i : Int) + 1]) from ho1)); (have HB1 := Lib.hid (below_own HB0.out HO0.out hs0 hg1)); (have hs1 := HB1.out.size); clear ho1 hg1) | (at_builtin; refine append1 (by rfl) _ _ (by rfl) (w.heap.size) _ (([((i : Int) + 1)] : List Int)) ((i : Int) + C) (by rfl) (by rfl) (HO1.out) (hs1) (l1) ?_; intro v2 w2 ho2 hg2; (have HO2 := Lib.hid (show Own w2 w.heap.size v2 (([((i : Int) + 1)] : List Int) ++ [(i : Int) + C]) from ho2)); (have HB2 := Lib.hid (below_own HB1.out HO1.out hs1 hg2)); (have hs2 := HB2.out.size); clear ho2 hg2) | (at_builtin; refine append1 (by rfl) _ _ (by rfl) (w.heap.size) _ (([((i : Int) + 1), ((i : Int) + C)] : List Int)) ((i : Int) - 1) (by rfl) (by rfl) (HO2.out) (hs2) (l2) ?_; intro v3 w3 ho3 hg3; (have HO3 := Lib.hid (show Own w3 w.heap.size v3 (([((i : Int) + 1), ((i : Int) + C)] : List Int) ++ [(i : Int) - 1]) from ho3)); (have HB3 := Lib.hid (below_own HB2.out HO2.out hs2 hg3)); (have hs3 := HB3.out.size); clear ho3 hg3))
          go_ret
          rw [HL.out]
          exact GivesRow.of HO3.out HB3.out
        · have d3 : ¬ (0 : Int) < (m : Int) := by omega
          have HL := Lib.hid (show nearL n C i = [(i : Int) + 1, (i : Int) + C] by rw [hG.out, if_neg c0, if_pos c1, if_pos c2, if_neg c3]; rfl)
          have l0 : ([] : List Int).length ≤ 1099511627776 := by simp
          have l1 : ([((i : Int) + 1)] : List Int).length ≤ 1099511627776 := by simp
          go_enter Try.func45, Try.ntmps45
          go_upto_region 2 with (fail)
          obtain ⟨v0, hv0⟩ : ∃ v, v = Value.slice (some ⟨w.heap.size, 0, none⟩) 0 0 := ⟨_, rfl⟩
          rw [← hv0]
          rw [← hv0] at HO0
          obtain ⟨W0, hW0⟩ : ∃ W, W = w.alloc (.cells #[] 3) := ⟨_, rfl⟩
          rw [← hW0]
          rw [← hW0] at HO0 hcA hs0 HB0
          clear hv0 hW0
          go_wp2_with (first | (at_builtin; refine append1 (by rfl) _ _ (by rfl) (w.heap.size) _ (([] : List Int)) ((i : Int) + 1) (by rfl) (by rfl) (HO0.out) (hs0) (l0) ?_; intro v1 w1 ho1 hg1; (have HO1 := Lib.hid (show Own w1 w.heap.size v1 (([] : List Int) ++ [(i : Int) + 1]) from ho1)); (have HB1 := Lib.hid (below_own HB0.out HO0.out hs0 hg1)); (have hs1 := HB1.out.size); clear ho1 hg1) | (at_builtin; refine append1 (by rfl) _ _ (by rfl) (w.heap.size) _ (([((i : Int) + 1)] : List Int)) ((i : Int) + C) (by rfl) (by rfl) (HO1.out) (hs1) (l1) ?_; intro v2 w2 ho2 hg2; (have HO2 := Lib.hid (show Own w2 w.heap.size v2 (([((i : Int) + 1)] : List Int) ++ [(i : Int) + C]) from ho2)); (have HB2 := Lib.hid (below_own HB1.out HO1.out hs1 hg2)); (have hs2 := HB2.out.size); clear ho2 hg2))
          go_ret
          rw [HL.out]
          exact GivesRow.of HO2.out HB2.out
      · have d2 : ¬ (i : Int) < (K : Int) := by omega
        by_cases c3 : 0 < m
        · have d3 : (0 : Int) < (m : Int) := by omega
          have HL := Lib.hid (show nearL n C i = [(i : Int) + 1, (i : Int) - 1] by rw [hG.out, if_neg c0, if_pos c1, if_neg c2, if_pos c3]; rfl)
          have l0 : ([] : List Int).length ≤ 1099511627776 := by simp
          have l1 : ([((i : Int) + 1)] : List Int).length ≤ 1099511627776 := by simp
          go_enter Try.func45, Try.ntmps45
          go_upto_region 2 with (fail)
          obtain ⟨v0, hv0⟩ : ∃ v, v = Value.slice (some ⟨w.heap.size, 0, none⟩) 0 0 := ⟨_, rfl⟩
          rw [← hv0]
          rw [← hv0] at HO0
          obtain ⟨W0, hW0⟩ : ∃ W, W = w.alloc (.cells #[] 3) := ⟨_, rfl⟩
          rw [← hW0]
          rw [← hW0] at HO0 hcA hs0 HB0
          clear hv0 hW0
          go_wp2_with (first | (at_builtin; refine append1 (by rfl) _ _ (by rfl) (w.heap.size) _ (([] : List Int)) ((i : Int) + 1) (by rfl) (by rfl) (HO0.out) (hs0) (l0) ?_; intro v1 w1 ho1 hg1; (have HO1 := Lib.hid (show Own w1 w.heap.size v1 (([] : List Int) ++ [(i : Int) + 1]) from ho1)); (have HB1 := Lib.hid (below_own HB0.out HO0.out hs0 hg1)); (have hs1 := HB1.out.size); clear ho1 hg1) | (at_builtin; refine append1 (by rfl) _ _ (by rfl) (w.heap.size) _ (([((i : Int) + 1)] : List Int)) ((i : Int) - 1) (by rfl) (by rfl) (HO1.out) (hs1) (l1) ?_; intro v2 w2 ho2 hg2; (have HO2 := Lib.hid (show Own w2 w.heap.size v2 (([((i : Int) + 1)] : List Int) ++ [(i : Int) - 1]) from ho2)); (have HB2 := Lib.hid (below_own HB1.out HO1.out hs1 hg2)); (have hs2 := HB2.out.size); clear ho2 hg2))
          go_ret
          rw [HL.out]
          exact GivesRow.of HO2.out HB2.out
        · have d3 : ¬ (0 : Int) < (m : Int) := by omega
          have HL := Lib.hid (show nearL n C i = [(i : Int) + 1] by rw [hG.out, if_neg c0, if_pos c1, if_neg c2, if_neg c3]; rfl)
          have l0 : ([] : List Int).length ≤ 1099511627776 := by simp
          go_enter Try.func45, Try.ntmps45
          go_upto_region 2 with (fail)
          obtain ⟨v0, hv0⟩ : ∃ v, v = Value.slice (some ⟨w.heap.size, 0, none⟩) 0 0 := ⟨_, rfl⟩
          rw [← hv0]
          rw [← hv0] at HO0
          obtain ⟨W0, hW0⟩ : ∃ W, W = w.alloc (.cells #[] 3) := ⟨_, rfl⟩
          rw [← hW0]
          rw [← hW0] at HO0 hcA hs0 HB0
          clear hv0 hW0
          go_wp2_with (first | (at_builtin; refine append1 (by rfl) _ _ (by rfl) (w.heap.size) _ (([] : List Int)) ((i : Int) + 1) (by rfl) (by rfl) (HO0.out) (hs0) (l0) ?_; intro v1 w1 ho1 hg1; (have HO1 := Lib.hid (show Own w1 w.heap.size v1 (([] : List Int) ++ [(i : Int) + 1]) from ho1)); (have HB1 := Lib.hid (below_own HB0.out HO0.out hs0 hg1)); (have hs1 := HB1.out.size); clear ho1 hg1))
          go_ret
          rw [HL.out]
          exact GivesRow.of HO1.out HB1.out
    · have d1 : ¬ (m : Int) < (C : Int) - 1 := by omega
      by_cases c2 : i < K
      · have d2 : (i : Int) < (K : Int) := by omega
        by_cases c3 : 0 < m
        · have d3 : (0 : Int) < (m : Int) := by omega
          have HL := Lib.hid (show nearL n C i = [(i : Int) + C, (i : Int) - 1] by rw [hG.out, if_neg c0, if_neg c1, if_pos c2, if_pos c3]; rfl)
          have l0 : ([] : List Int).length ≤ 1099511627776 := by simp
          have l1 : ([((i : Int) + C)] : List Int).length ≤ 1099511627776 := by simp
          go_enter Try.func45, Try.ntmps45
          go_upto_region 2 with (fail)
          obtain ⟨v0, hv0⟩ : ∃ v, v = Value.slice (some ⟨w.heap.size, 0, none⟩) 0 0 := ⟨_, rfl⟩
          rw [← hv0]
          rw [← hv0] at HO0
          obtain ⟨W0, hW0⟩ : ∃ W, W = w.alloc (.cells #[] 3) := ⟨_, rfl⟩
          rw [← hW0]
          rw [← hW0] at HO0 hcA hs0 HB0
          clear hv0 hW0
          go_wp2_with (first | (at_builtin; refine append1 (by rfl) _ _ (by rfl) (w.heap.size) _ (([] : List Int)) ((i : Int) + C) (by rfl) (by rfl) (HO0.out) (hs0) (l0) ?_; intro v1 w1 ho1 hg1; (have HO1 := Lib.hid (show Own w1 w.heap.size v1 (([] : List Int) ++ [(i : Int) + C]) from ho1)); (have HB1 := Lib.hid (below_own HB0.out HO0.out hs0 hg1)); (have hs1 := HB1.out.size); clear ho1 hg1) | (at_builtin; refine append1 (by rfl) _ _ (by rfl) (w.heap.size) _ (([((i : Int) + C)] : List Int)) ((i : Int) - 1) (by rfl) (by rfl) (HO1.out) (hs1) (l1) ?_; intro v2 w2 ho2 hg2; (have HO2 := Lib.hid (show Own w2 w.heap.size v2 (([((i : Int) + C)] : List Int) ++ [(i : Int) - 1]) from ho2)); (have HB2 := Lib.hid (below_own HB1.out HO1.out hs1 hg2)); (have hs2 := HB2.out.size); clear ho2 hg2))
          go_ret
          rw [HL.out]
          exact GivesRow.of HO2.out HB2.out
        · have d3 : ¬ (0 : Int) < (m : Int) := by omega
          have HL := Lib.hid (show nearL n C i = [(i : Int) + C] by rw [hG.out, if_neg c0, if_neg c1, if_pos c2, if_neg c3]; rfl)
          have l0 : ([] : List Int).length ≤ 1099511627776 := by simp
          go_enter Try.func45, Try.ntmps45
          go_upto_region 2 with (fail)
          obtain ⟨v0, hv0⟩ : ∃ v, v = Value.slice (some ⟨w.heap.size, 0, none⟩) 0 0 := ⟨_, rfl⟩
          rw [← hv0]
          rw [← hv0] at HO0
          obtain ⟨W0, hW0⟩ : ∃ W, W = w.alloc (.cells #[] 3) := ⟨_, rfl⟩
          rw [← hW0]
          rw [← hW0] at HO0 hcA hs0 HB0
          clear hv0 hW0
          go_wp2_with (first | (at_builtin; refine append1 (by rfl) _ _ (by rfl) (w.heap.size) _ (([] : List Int)) ((i : Int) + C) (by rfl) (by rfl) (HO0.out) (hs0) (l0) ?_; intro v1 w1 ho1 hg1; (have HO1 := Lib.hid (show Own w1 w.heap.size v1 (([] : List Int) ++ [(i : Int) + C]) from ho1)); (have HB1 := Lib.hid (below_own HB0.out HO0.out hs0 hg1)); (have hs1 := HB1.out.size); clear ho1 hg1))
          go_ret
          rw [HL.out]
          exact GivesRow.of HO1.out HB1.out
      · have d2 : ¬ (i : Int) < (K : Int) := by omega
        by_cases c3 : 0 < m
        · have d3 : (0 : Int) < (m : Int) := by omega
          have HL := Lib.hid (show nearL n C i = [(i : Int) - 1] by rw [hG.out, if_neg c0, if_neg c1, if_neg c2, if_pos c3]; rfl)
          have l0 : ([] : List Int).length ≤ 1099511627776 := by simp
          go_enter Try.func45, Try.ntmps45
          go_upto_region 2 with (fail)
          obtain ⟨v0, hv0⟩ : ∃ v, v = Value.slice (some ⟨w.heap.size, 0, none⟩) 0 0 := ⟨_, rfl⟩
          rw [← hv0]
          rw [← hv0] at HO0
          obtain ⟨W0, hW0⟩ : ∃ W, W = w.alloc (.cells #[] 3) := ⟨_, rfl⟩
          rw [← hW0]
          rw [← hW0] at HO0 hcA hs0 HB0
          clear hv0 hW0
          go_wp2_with (first | (at_builtin; refine append1 (by rfl) _ _ (by rfl) (w.heap.size) _ (([] : List Int)) ((i : Int) - 1) (by rfl) (by rfl) (HO0.out) (hs0) (l0) ?_; intro v1 w1 ho1 hg1; (have HO1 := Lib.hid (show Own w1 w.heap.size v1 (([] : List Int) ++ [(i : Int) - 1]) from ho1)); (have HB1 := Lib.hid (below_own HB0.out HO0.out hs0 hg1)); (have hs1 := HB1.out.size); clear ho1 hg1))
          go_ret
          rw [HL.out]
          exact GivesRow.of HO1.out HB1.out
        · have d3 : ¬ (0 : Int) < (m : Int) := by omega
          have HL := Lib.hid (show nearL n C i = [] by rw [hG.out, if_neg c0, if_neg c1, if_neg c2, if_neg c3]; rfl)
          go_enter Try.func45, Try.ntmps45
          go_upto_region 2 with (fail)
          obtain ⟨v0, hv0⟩ : ∃ v, v = Value.slice (some ⟨w.heap.size, 0, none⟩) 0 0 := ⟨_, rfl⟩
          rw [← hv0]
          rw [← hv0] at HO0
          obtain ⟨W0, hW0⟩ : ∃ W, W = w.alloc (.cells #[] 3) := ⟨_, rfl⟩
          rw [← hW0]
          rw [← hW0] at HO0 hcA hs0 HB0
          clear hv0 hW0
          go_wp2
          go_ret
          rw [HL.out]
          exact GivesRow.of HO0.out HB0.out

end Go.Proofs.Ytkhhloeemecokaa
