/- Contracts of the draw of a grid and a peak: PeakList of the reference gives some list; l91Peak, DrawPeakKey. -/
import Derived.Test.YtkhhloeemecokaaDPair2
import Derived.Test.YtkhhloeemecokaaSPeak
import Derived.Test.YtkhhloeemecokaaApp
namespace Go.Proofs.Ytkhhloeemecokaa
open Go.RowKit
set_option linter.unusedVariables false

/-- Some list of at most 49 numbers. -/
def GivesSome (w : World) (e : Ending) (w' : World) : Prop := ∃ L, L.length ≤ 49 ∧ GivesRow L w e w'
def Idx (N : Nat) (L : List Int) : Prop := ∀ x ∈ L, ∃ j : Nat, x = j ∧ j < N
theorem Idx.ins {N i m : Nat} {L : List Int} (h : Idx N L) (hi : i < N) : Idx N ((L.take m ++ [(i : Int)]) ++ L.drop m) := by
  intro x hx
  rcases List.mem_append.1 hx with e | e
  · rcases List.mem_append.1 e with e | e
    · exact h x (List.mem_of_mem_take e)
    · exact ⟨i, by simpa using e, hi⟩
  · exact h x (List.mem_of_mem_drop e)
set_option maxRecDepth 4000 in
set_option maxHeartbeats 4000000 in
theorem dpeakList_any (v : Value) (g : List (List Int)) (w : World) (hr : MRow w v g) (h1 : g.length ≤ 1048576) (h2 : tot g ≤ 1048576) :
    Calls Try.prog 70 #[v] w (GivesSome w) := by
  have HV := Lib.hid (fun (wr : World) (hb : Below w.heap.size w wr) => sgval_any v g wr (hr.below hb) h1 h2)
  have hbA := Below.alloc (Below.refl w.heap.size w) (Nat.le_refl _) (.cells #[] 3)
  have HE0 := Lib.hid (Own.emptyLit w w.heap.size (Nat.le_refl _))
  have HBA := Lib.hid hbA
  clear hbA
  cases hv : gvalB g
  · rw [hv] at HV
    clear hr hv
    go_enter Try.func70, Try.ntmps70
    go_wp2_with (go_at_call 73; refine (HV.out _ HBA.out).mono ?_; rintro e w1 ⟨rfl, hb1⟩)
    go_ret
    exact ⟨[], by simp, GivesRow.mk rfl (HE0.out.below hb1) (HBA.out.trans (hb1.mono HBA.out.size))⟩
  · rw [hv] at HV
    obtain ⟨n, hn⟩ : ∃ n, n = g.length := ⟨_, rfl⟩
    obtain ⟨C, hC⟩ : ∃ C, C = colsG g := ⟨_, rfl⟩
    obtain ⟨N, hN⟩ : ∃ N, N = n * C := ⟨_, rfl⟩
    obtain ⟨p1, p2, p3, p4⟩ := gval_rows hv
    rw [← hn] at p1 p2
    rw [← hC] at p3 p4
    have hN49 : N ≤ 49 := by rw [hN]; exact Nat.mul_le_mul p2 p4
    have hrow : ∀ r, r < n → (g.getD r []).length = C := fun r hr => by rw [hC]; exact gval_len hv r (by omega)
    have HCl := Lib.hid (fun (wr : World) (hb : Below w.heap.size w wr) => l2Cells_any v g n C N wr (hr.below hb) hn hC hN p1 p2 (by omega))
    have HPk := Lib.hid (fun (i : Nat) (wr : World) (hi : i < N) (hb : Below w.heap.size w wr) => l4Peak_any v g n C i wr (hr.below hb) hv hn hC (by rw [← hN]; exact hi))
    have HHi := Lib.hid (fun (i j : Nat) (wr : World) (hi : i < N) (hj : j < N) (hb : Below w.heap.size w wr) => l4Higher_any v g j i n C wr (hr.below hb) hn hC p3 p2 p4 (by rw [← hN]; exact hj) (by rw [← hN]; exact hi) hrow)
    clear hr hv hn hC hN hrow p1 p2 p3 p4
    go_enter Try.func70, Try.ntmps70
    go_wp2_with (go_at_call 73; refine (HV.out _ HBA.out).mono ?_; rintro e w1 ⟨rfl, hb1⟩)
    have HE1 := Lib.hid (HE0.out.below hb1)
    have HB1 := Lib.hid (HBA.out.trans (hb1.mono HBA.out.size))
    clear hb1
    go_loopw [3, 4] (fun s q wr => ∃ (i G cap : Nat) (L : List Int), i ≤ N ∧ q = .int .i64 i ∧ L.length ≤ i ∧ Idx N L ∧ s = .slice (some ⟨G, 0, none⟩) L.length cap ∧ Own wr w.heap.size s L ∧ Below w.heap.size w wr) (fun _ q _ => N - (intOf q).toNat)
    case atStart => exact ⟨0, _, _, [], Nat.zero_le _, rfl, Nat.zero_le _, fun x hx => by simp at hx, rfl, HE1.out, HB1.out⟩
    case round =>
      obtain ⟨i, G, cap, L, hiN, rfl, hL, hix, rfl, ho, hb⟩ := hrel
      clear HE1 HB1
      have HO := Lib.hid ho
      have HB := Lib.hid hb
      have HIx := Lib.hid hix
      clear ho hb hix
      obtain ⟨l, hl⟩ : ∃ l, l = L.length := ⟨_, rfl⟩
      have HLl := Lib.hid hl
      rw [← hl] at HO hL ⊢
      clear hl
      by_cases hlt : i < N
      · have d1 : (i : Int) < (N : Int) := by omega
        have HPi := Lib.hid (HPk.out i wr hlt HB.out)
        cases hp : peakH (nearL n C i) (hgtG g C) i
        · rw [hp] at HPi
          clear hp
          go_wp2_with (first | (go_at_call 66; refine (HCl.out _ HB.out).mono ?_; rintro e w2 ⟨rfl, rfl⟩) | (go_at_call 72; refine HPi.out.mono ?_; rintro e w3 ⟨rfl, hb3⟩))
          go_roundw
          case rel => exact ⟨i + 1, G, cap, L, by omega, by go_num, by have := HLl.out; omega, HIx.out, by rw [HLl.out], HO.out.below hb3, HB.out.trans (hb3.mono HB.out.size)⟩
          case measure => simp [intOf]; omega
        · rw [hp] at HPi
          clear hp
          go_wp2_with (first | (go_at_call 66; refine (HCl.out _ HB.out).mono ?_; rintro e w2 ⟨rfl, rfl⟩) | (go_at_call 72; refine HPi.out.mono ?_; rintro e w3 ⟨rfl, hb3⟩))
          have HO3 := Lib.hid (HO.out.below hb3)
          have HB3 := Lib.hid (HB.out.trans (hb3.mono HB.out.size))
          clear hb3 HO HB HPi
          go_loopw [5] (fun q wr => ∃ m : Nat, m ≤ l ∧ q = .int .i64 m ∧ Below w3.heap.size w3 wr) (fun q _ => l - (intOf q).toNat)
          case atStart => exact ⟨0, Nat.zero_le _, rfl, Below.refl _ _⟩
          case round =>
            obtain ⟨m, hm, rfl, hbm⟩ := hrel
            have HO := Lib.hid (HO3.out.below hbm)
            have HB := Lib.hid (HB3.out.trans (hbm.mono HB3.out.size))
            have HBm := Lib.hid hbm
            clear hbm
            by_cases hlt2 : m < l
            · obtain ⟨j, hj, hjN⟩ := HIx.out (L.getD m 0) (by rw [List.getD_eq_getElem?_getD, List.getElem?_eq_getElem (by rw [← HLl.out]; exact hlt2)]; simp)
              have cm := HO.out.cellAt m hlt2
              rw [hj] at cm
              have d2 : (m : Int) < (l : Int) := by omega
              have HHj := Lib.hid (HHi.out i j wr hlt hjN HB.out)
              clear hj
              cases hq : hiB g C j i
              · rw [hq] at HHj
                clear hq
                go_upto_region 11 with (go_at_call 53; refine HHj.out.mono ?_; rintro e w4 ⟨rfl, hb4⟩)
                replace HO := Lib.hid (HO.out.below hb4)
                replace HB := Lib.hid (HB.out.trans (hb4.mono HB.out.size))
                clear hb4 cm HO3 HB3 HBm HHj d2
                have HBs := Lib.hid HB.out.size
                have hGlt := (HO.out.lt G rfl).2
                have HC := Lib.hid (show ∀ k, k < l → w4.cell? ⟨G, k, none⟩ = some (.int .i64 (L.getD k 0)) from fun k hk => HO.out.cellAt k hk)
                have HCap := Lib.hid (show l ≤ cap from by rcases HO.out.2 with ⟨hv0, _⟩ | ⟨g1, cap1, cur1, hv1, _, _, hc1, _⟩; (simp at hv0); (simp only [Value.slice.injEq] at hv1; have := HLl.out; omega))
                have HN1 := Lib.hid (Own.emptyLit w4 w4.heap.size (Nat.le_refl _))
                have hbA := Below.alloc (Below.refl w4.heap.size w4) (Nat.le_refl _) (.cells #[] 3)
                have HOa := Lib.hid (HO.out.below hbA)
                have HBa := Lib.hid (HB.out.trans (hbA.mono HB.out.size))
                have hsA := hbA.size
                have HCa := Lib.hid (show ∀ k, k < m → (w4.alloc (.cells #[] 3)).cell? ⟨G, 0 + k, none⟩ = some (.int .i64 ((L.take m).getD k 0)) from fun k hk => by
                  rw [Nat.zero_add, HOa.out.cellAt k (by omega)]
                  simp [List.getD_eq_getElem?_getD, hk])
                have hm1 : (L.take m).length = m := by rw [List.length_take, ← HLl.out]; omega
                have hmc : (m : Int) ≤ (cap : Int) := by have := HCap.out; omega
                have hmc2 : m ≤ cap := by have := HCap.out; omega
                clear hbA
                obtain ⟨A4, hA4⟩ : ∃ x : World, x = w4.alloc (.cells #[] 3) := ⟨_, rfl⟩
                go_wp2_with (at_builtin; refine appN (by rfl) _ _ (by rfl) w4.heap.size (.slice (some ⟨w4.heap.size, 0, none⟩) 0 0) [] (L.take m) G 0 m cap ?k1h1 ?k1h2 ?k1h3 ?k1h4 ?k1h5 ?k1h6 ?k1h7 ?k1h8)
                case k1h1 => rfl
                case k1h2 => rfl
                case k1h3 => exact hm1
                case k1h4 => exact HCa.out
                case k1h5 => exact HN1.out
                case k1h6 => exact hsA
                case k1h7 => simp; omega
                intro v5 w5 ho5 hg5
                have HN5 := Lib.hid (show Own w5 w4.heap.size v5 (L.take m) from ho5)
                have HO5 := Lib.hid (HOa.out.kept hg5 (fun k hk e => by simp only [Value.ownBlock, Option.some.injEq] at hk e; omega))
                have HB5 := Lib.hid (HBa.out.grown hg5 HBa.out.size (fun k e => by simp only [Value.ownBlock, Option.some.injEq] at e; have := HB.out.size; omega))
                have hs5 := Nat.le_trans hsA hg5.size
                obtain ⟨a5, c5, rfl⟩ := (show Own w5 w4.heap.size v5 (L.take m) from ho5).shape
                rw [hm1] at HN5 ⊢
                clear ho5 hg5 hA4 A4 HOa HBa HCa HN1 HO HB HC
                go_upto_region 12 with (fail)
                have hbA := Below.alloc (Below.refl w5.heap.size w5) (Nat.le_refl _) (.cells #[.int .i64 (i : Int)] 3)
                have HN6 := Lib.hid (HN5.out.below hbA)
                have HO6 := Lib.hid (HO5.out.below hbA)
                have HB6 := Lib.hid (HB5.out.trans (hbA.mono HB5.out.size))
                have hs6 := Nat.le_trans hs5 hbA.size
                have HNc := Lib.hid (show ∀ q, q < 1 → (w5.alloc (.cells #[.int .i64 (i : Int)] 3)).cell? ⟨w5.heap.size, 0 + q, none⟩ = some (.int .i64 (([(i : Int)] : List Int).getD q 0)) from fun q hq => by
                  have : q = 0 := by omega
                  subst this
                  rw [cell_of_row _ w5.heap.size 0 _ _ (0, 0) (heap_alloc_new w5 _)]; rfl)
                have hml : m ≤ 1000 := by omega
                clear hbA HN5 HO5 HB5
                go_wp2_with (at_builtin; refine appN (by rfl) _ _ (by rfl) w4.heap.size (.slice a5 m c5) (L.take m) [(i : Int)] w5.heap.size 0 1 1 ?k2h1 ?k2h2 ?k2h3 ?k2h4 ?k2h5 ?k2h6 ?k2h7 ?k2h8)
                case k2h1 => rfl
                case k2h2 => rfl
                case k2h3 => rfl
                case k2h4 => exact HNc.out
                case k2h5 => exact HN6.out
                case k2h6 => exact hs6
                case k2h7 => rw [hm1]; omega
                intro v7 w7 ho7 hg7
                have HN7 := Lib.hid ho7
                have HO7 := Lib.hid (HO6.out.kept hg7 (fun k hk e => by have := (HN6.out.lt k e).1; simp only [Value.ownBlock, Option.some.injEq] at hk; omega))
                have HB7 := Lib.hid (HB6.out.grown hg7 HB6.out.size (fun k e => by have := (HN6.out.lt k e).1; have := HBs.out; omega))
                have hs7 := Nat.le_trans hs6 hg7.size
                obtain ⟨a7, c7, rfl⟩ := ho7.shape
                have hm3 : (L.take m ++ [(i : Int)]).length = m + 1 := by rw [List.length_append, hm1]; rfl
                rw [hm3] at HN7 ⊢
                clear ho7 hg7 HN6 HO6 HB6 HNc
                go_upto_region 13 with (fail)
                have hm2 : (L.drop m).length = l - m := by rw [List.length_drop, ← HLl.out]
                by_cases hcm : m = cap
                · subst hcm
                  have HCd := Lib.hid (show ∀ k, k < l - m → w7.cell? ⟨G, 0 + k, none⟩ = some (.int .i64 ((L.drop m).getD k 0)) from fun k hk => by have := HCap.out; omega)
                  go_wp2_with (at_builtin; refine appN (by rfl) _ _ (by rfl) w4.heap.size (.slice a7 (m + 1) c7) (L.take m ++ [(i : Int)]) (L.drop m) G 0 (l - m) (m - m) ?k3h1 ?k3h2 ?k3h3 ?k3h4 ?k3h5 ?k3h6 ?k3h7 ?k3h8)
                  case k3h1 => rfl
                  case k3h2 => first | rfl | simp [Act.eval]
                  case k3h3 => exact hm2
                  case k3h4 => exact HCd.out
                  case k3h5 => exact HN7.out
                  case k3h6 => exact hs7
                  case k3h7 => rw [List.length_append, hm1]; simp; omega
                  intro v8 w8 ho8 hg8
                  have HB8 := Lib.hid (HB7.out.grown hg8 HB7.out.size (fun k e => by have := (HN7.out.lt k e).1; have := HBs.out; omega))
                  have hlen : ((L.take m ++ [(i : Int)]) ++ L.drop m).length = l + 1 := by rw [List.length_append, List.length_append, hm1, hm2]; simp; omega
                  have HN8 := Lib.hid (show Own w8 w4.heap.size v8 ((L.take m ++ [(i : Int)]) ++ L.drop m) from by first | exact ho8 | simpa using ho8)
                  obtain ⟨G8, cap8, rfl, -, -, -, -⟩ := HN8.out.form (by omega)
                  clear ho8 hg8
                  go_wp2_with fail
                  go_roundw
                  case rel => exact ⟨i + 1, G8, cap8, _, by omega, by go_num, by rw [hlen]; omega, HIx.out.ins hlt, rfl, HN8.out.mono (by have := HBs.out; omega), HB8.out⟩
                  case measure => simp [intOf]; omega
                · have hcm2 : ¬ cap = m := fun e => hcm e.symm
                  have HCd := Lib.hid (show ∀ k, k < l - m → w7.cell? ⟨G, m + k, none⟩ = some (.int .i64 ((L.drop m).getD k 0)) from fun k hk => by
                    rw [HO7.out.cellAt (m + k) (by omega)]
                    simp [List.getD_eq_getElem?_getD])
                  go_wp2_with (at_builtin; refine appN (by rfl) _ _ (by rfl) w4.heap.size (.slice a7 (m + 1) c7) (L.take m ++ [(i : Int)]) (L.drop m) G m (l - m) (cap - m) ?k4h1 ?k4h2 ?k4h3 ?k4h4 ?k4h5 ?k4h6 ?k4h7 ?k4h8)
                  case k4h1 => rfl
                  case k4h2 => rfl
                  case k4h3 => exact hm2
                  case k4h4 => exact HCd.out
                  case k4h5 => exact HN7.out
                  case k4h6 => exact hs7
                  case k4h7 => rw [List.length_append, hm1]; simp; omega
                  intro v8 w8 ho8 hg8
                  have HB8 := Lib.hid (HB7.out.grown hg8 HB7.out.size (fun k e => by have := (HN7.out.lt k e).1; have := HBs.out; omega))
                  have hlen : ((L.take m ++ [(i : Int)]) ++ L.drop m).length = l + 1 := by rw [List.length_append, List.length_append, hm1, hm2]; simp; omega
                  have HN8 := Lib.hid (show Own w8 w4.heap.size v8 ((L.take m ++ [(i : Int)]) ++ L.drop m) from by first | exact ho8 | simpa using ho8)
                  obtain ⟨G8, cap8, rfl, -, -, -, -⟩ := HN8.out.form (by omega)
                  clear ho8 hg8
                  go_wp2_with fail
                  go_roundw
                  case rel => exact ⟨i + 1, G8, cap8, _, by omega, by go_num, by rw [hlen]; omega, HIx.out.ins hlt, rfl, HN8.out.mono (by have := HBs.out; omega), HB8.out⟩
                  case measure => simp [intOf]; omega
              · rw [hq] at HHj
                clear hq
                go_wp2_with (go_at_call 53; refine HHj.out.mono ?_; rintro e w4 ⟨rfl, hb4⟩)
                go_roundw
                case rel => exact ⟨m + 1, by omega, by go_num, HBm.out.trans (hb4.mono HBm.out.size)⟩
                case measure => simp [intOf]; omega
            · have d2 : ¬ (m : Int) < (l : Int) := by omega
              go_upto_region 11 with (fail)
              obtain ⟨w4, hw4⟩ : ∃ x : World, x = wr := ⟨_, rfl⟩
              rw [← hw4] at HO HB ⊢
              clear hw4 HO3 HB3 HBm d2
              have HBs := Lib.hid HB.out.size
              have hGlt := (HO.out.lt G rfl).2
              have HC := Lib.hid (show ∀ k, k < l → w4.cell? ⟨G, k, none⟩ = some (.int .i64 (L.getD k 0)) from fun k hk => HO.out.cellAt k hk)
              have HCap := Lib.hid (show l ≤ cap from by rcases HO.out.2 with ⟨hv0, _⟩ | ⟨g1, cap1, cur1, hv1, _, _, hc1, _⟩; (simp at hv0); (simp only [Value.slice.injEq] at hv1; have := HLl.out; omega))
              have HN1 := Lib.hid (Own.emptyLit w4 w4.heap.size (Nat.le_refl _))
              have hbA := Below.alloc (Below.refl w4.heap.size w4) (Nat.le_refl _) (.cells #[] 3)
              have HOa := Lib.hid (HO.out.below hbA)
              have HBa := Lib.hid (HB.out.trans (hbA.mono HB.out.size))
              have hsA := hbA.size
              have HCa := Lib.hid (show ∀ k, k < m → (w4.alloc (.cells #[] 3)).cell? ⟨G, 0 + k, none⟩ = some (.int .i64 ((L.take m).getD k 0)) from fun k hk => by
                rw [Nat.zero_add, HOa.out.cellAt k (by omega)]
                simp [List.getD_eq_getElem?_getD, hk])
              have hm1 : (L.take m).length = m := by rw [List.length_take, ← HLl.out]; omega
              have hmc : (m : Int) ≤ (cap : Int) := by have := HCap.out; omega
              have hmc2 : m ≤ cap := by have := HCap.out; omega
              clear hbA
              obtain ⟨A4, hA4⟩ : ∃ x : World, x = w4.alloc (.cells #[] 3) := ⟨_, rfl⟩
              go_wp2_with (at_builtin; refine appN (by rfl) _ _ (by rfl) w4.heap.size (.slice (some ⟨w4.heap.size, 0, none⟩) 0 0) [] (L.take m) G 0 m cap ?k5h1 ?k5h2 ?k5h3 ?k5h4 ?k5h5 ?k5h6 ?k5h7 ?k5h8)
              case k5h1 => rfl
              case k5h2 => rfl
              case k5h3 => exact hm1
              case k5h4 => exact HCa.out
              case k5h5 => exact HN1.out
              case k5h6 => exact hsA
              case k5h7 => simp; omega
              intro v5 w5 ho5 hg5
              have HN5 := Lib.hid (show Own w5 w4.heap.size v5 (L.take m) from ho5)
              have HO5 := Lib.hid (HOa.out.kept hg5 (fun k hk e => by simp only [Value.ownBlock, Option.some.injEq] at hk e; omega))
              have HB5 := Lib.hid (HBa.out.grown hg5 HBa.out.size (fun k e => by simp only [Value.ownBlock, Option.some.injEq] at e; have := HB.out.size; omega))
              have hs5 := Nat.le_trans hsA hg5.size
              obtain ⟨a5, c5, rfl⟩ := (show Own w5 w4.heap.size v5 (L.take m) from ho5).shape
              rw [hm1] at HN5 ⊢
              clear ho5 hg5 hA4 A4 HOa HBa HCa HN1 HO HB HC
              go_upto_region 12 with (fail)
              have hbA := Below.alloc (Below.refl w5.heap.size w5) (Nat.le_refl _) (.cells #[.int .i64 (i : Int)] 3)
              have HN6 := Lib.hid (HN5.out.below hbA)
              have HO6 := Lib.hid (HO5.out.below hbA)
              have HB6 := Lib.hid (HB5.out.trans (hbA.mono HB5.out.size))
              have hs6 := Nat.le_trans hs5 hbA.size
              have HNc := Lib.hid (show ∀ q, q < 1 → (w5.alloc (.cells #[.int .i64 (i : Int)] 3)).cell? ⟨w5.heap.size, 0 + q, none⟩ = some (.int .i64 (([(i : Int)] : List Int).getD q 0)) from fun q hq => by
                have : q = 0 := by omega
                subst this
                rw [cell_of_row _ w5.heap.size 0 _ _ (0, 0) (heap_alloc_new w5 _)]; rfl)
              have hml : m ≤ 1000 := by omega
              clear hbA HN5 HO5 HB5
              go_wp2_with (at_builtin; refine appN (by rfl) _ _ (by rfl) w4.heap.size (.slice a5 m c5) (L.take m) [(i : Int)] w5.heap.size 0 1 1 ?k6h1 ?k6h2 ?k6h3 ?k6h4 ?k6h5 ?k6h6 ?k6h7 ?k6h8)
              case k6h1 => rfl
              case k6h2 => rfl
              case k6h3 => rfl
              case k6h4 => exact HNc.out
              case k6h5 => exact HN6.out
              case k6h6 => exact hs6
              case k6h7 => rw [hm1]; omega
              intro v7 w7 ho7 hg7
              have HN7 := Lib.hid ho7
              have HO7 := Lib.hid (HO6.out.kept hg7 (fun k hk e => by have := (HN6.out.lt k e).1; simp only [Value.ownBlock, Option.some.injEq] at hk; omega))
              have HB7 := Lib.hid (HB6.out.grown hg7 HB6.out.size (fun k e => by have := (HN6.out.lt k e).1; have := HBs.out; omega))
              have hs7 := Nat.le_trans hs6 hg7.size
              obtain ⟨a7, c7, rfl⟩ := ho7.shape
              have hm3 : (L.take m ++ [(i : Int)]).length = m + 1 := by rw [List.length_append, hm1]; rfl
              rw [hm3] at HN7 ⊢
              clear ho7 hg7 HN6 HO6 HB6 HNc
              go_upto_region 13 with (fail)
              have hm2 : (L.drop m).length = l - m := by rw [List.length_drop, ← HLl.out]
              by_cases hcm : m = cap
              · subst hcm
                have HCd := Lib.hid (show ∀ k, k < l - m → w7.cell? ⟨G, 0 + k, none⟩ = some (.int .i64 ((L.drop m).getD k 0)) from fun k hk => by have := HCap.out; omega)
                go_wp2_with (at_builtin; refine appN (by rfl) _ _ (by rfl) w4.heap.size (.slice a7 (m + 1) c7) (L.take m ++ [(i : Int)]) (L.drop m) G 0 (l - m) (m - m) ?k7h1 ?k7h2 ?k7h3 ?k7h4 ?k7h5 ?k7h6 ?k7h7 ?k7h8)
                case k7h1 => rfl
                case k7h2 => first | rfl | simp [Act.eval]
                case k7h3 => exact hm2
                case k7h4 => exact HCd.out
                case k7h5 => exact HN7.out
                case k7h6 => exact hs7
                case k7h7 => rw [List.length_append, hm1]; simp; omega
                intro v8 w8 ho8 hg8
                have HB8 := Lib.hid (HB7.out.grown hg8 HB7.out.size (fun k e => by have := (HN7.out.lt k e).1; have := HBs.out; omega))
                have hlen : ((L.take m ++ [(i : Int)]) ++ L.drop m).length = l + 1 := by rw [List.length_append, List.length_append, hm1, hm2]; simp; omega
                have HN8 := Lib.hid (show Own w8 w4.heap.size v8 ((L.take m ++ [(i : Int)]) ++ L.drop m) from by first | exact ho8 | simpa using ho8)
                obtain ⟨G8, cap8, rfl, -, -, -, -⟩ := HN8.out.form (by omega)
                clear ho8 hg8
                go_wp2_with fail
                go_roundw
                case rel => exact ⟨i + 1, G8, cap8, _, by omega, by go_num, by rw [hlen]; omega, HIx.out.ins hlt, rfl, HN8.out.mono (by have := HBs.out; omega), HB8.out⟩
                case measure => simp [intOf]; omega
              · have hcm2 : ¬ cap = m := fun e => hcm e.symm
                have HCd := Lib.hid (show ∀ k, k < l - m → w7.cell? ⟨G, m + k, none⟩ = some (.int .i64 ((L.drop m).getD k 0)) from fun k hk => by
                  rw [HO7.out.cellAt (m + k) (by omega)]
                  simp [List.getD_eq_getElem?_getD])
                go_wp2_with (at_builtin; refine appN (by rfl) _ _ (by rfl) w4.heap.size (.slice a7 (m + 1) c7) (L.take m ++ [(i : Int)]) (L.drop m) G m (l - m) (cap - m) ?k8h1 ?k8h2 ?k8h3 ?k8h4 ?k8h5 ?k8h6 ?k8h7 ?k8h8)
                case k8h1 => rfl
                case k8h2 => rfl
                case k8h3 => exact hm2
                case k8h4 => exact HCd.out
                case k8h5 => exact HN7.out
                case k8h6 => exact hs7
                case k8h7 => rw [List.length_append, hm1]; simp; omega
                intro v8 w8 ho8 hg8
                have HB8 := Lib.hid (HB7.out.grown hg8 HB7.out.size (fun k e => by have := (HN7.out.lt k e).1; have := HBs.out; omega))
                have hlen : ((L.take m ++ [(i : Int)]) ++ L.drop m).length = l + 1 := by rw [List.length_append, List.length_append, hm1, hm2]; simp; omega
                have HN8 := Lib.hid (show Own w8 w4.heap.size v8 ((L.take m ++ [(i : Int)]) ++ L.drop m) from by first | exact ho8 | simpa using ho8)
                obtain ⟨G8, cap8, rfl, -, -, -, -⟩ := HN8.out.form (by omega)
                clear ho8 hg8
                go_wp2_with fail
                go_roundw
                case rel => exact ⟨i + 1, G8, cap8, _, by omega, by go_num, by rw [hlen]; omega, HIx.out.ins hlt, rfl, HN8.out.mono (by have := HBs.out; omega), HB8.out⟩
                case measure => simp [intOf]; omega
      · have hie : N = i := by omega
        subst hie
        go_wp2_with (go_at_call 66; refine (HCl.out _ HB.out).mono ?_; rintro e w2 ⟨rfl, rfl⟩)
        go_ret
        exact ⟨L, by rw [← HLl.out]; omega, GivesRow.mk HLl.out HO.out HB.out⟩

set_option maxRecDepth 4000 in
set_option maxHeartbeats 4000000 in
theorem peak_draw (w0 : World) (a : Option Addr) (m cap R q : Nat) (w1 w : World) (hb : Bytes w0 a m) (hm : m ≤ 2000) (hr : Drawn w0 a m cap R w1 q w) (hq : q ≤ 8000) :
    Calls Try.prog 48 #[.pointer (some ⟨R, 0, none⟩)] w (fun e w' => ∃ g ad cp n x, e = .returned (.tuple #[.slice ad n cp, .int .i64 x]) ∧ n = g.length ∧ SmallG g ∧ MRow w' (.slice ad n cp) g ∧ Drawn w0 a m cap R w (q + 90) w') := by
  have HD0 := Lib.hid (show Drawn w0 a m cap R w q w from by obtain ⟨h0, ⟨q', h1, h2⟩, h3⟩ := hr; exact (Drawn.refl h2).more h1)
  have HB := Lib.hid hb
  have HG := Lib.hid (index_draw w0 a m cap R q w1 w hb hm hr (by omega))
  clear hr hb
  go_enter Try.func48, Try.ntmps48
  go_wp2_with fail
  go_at_call 57
  with_reducible refine HG.out.mono ?_
  rintro e w2 ⟨g, ad, cp, n, x, rfl, hn, hs, hM, hd⟩
  have HN := Lib.hid hn
  have HS := Lib.hid hs
  have HM2 := Lib.hid hM
  have HD2 := Lib.hid (HD0.out.trans hd)
  have HPL := Lib.hid (dpeakList_any (.slice ad n cp) g w2 hM.mrow (by have := hs.2.1; omega) hs.tot)
  clear hn hs hM hd HG
  go_wp2_with fail
  go_at_call 70
  refine HPL.out.mono ?_
  rintro e w3 ⟨L, hL49, aL, cL, rfl, hoL, hb3⟩
  have HM3 := Lib.hid (HM2.out.below hb3)
  have HD3 := Lib.hid (HD2.out.below hb3)
  obtain ⟨l, hl⟩ : ∃ l, l = L.length := ⟨_, rfl⟩
  rw [← hl] at hoL hL49 ⊢
  have HOL := Lib.hid hoL
  clear hb3 hoL HM2 HD2 hl HPL
  by_cases hl0 : l = 0
  · subst hl0
    go_wp2_with fail
    go_ret2
    exact ⟨g, ad, cp, n, _, rfl, HN.out, HS.out, HM3.out.mrow, HD3.out.more (by omega)⟩
  · have d0 : (0 : Int) < (l : Int) := by omega
    have d0n : 0 < l := by omega
    have HPi := Lib.hid (pickD w0 a m cap R (q + 80) 5 w w3 HB.out hm HD3.out (by omega) (by omega) (by omega))
    go_wp2_with fail
    go_at_call 58
    refine HPi.out.mono ?_
    rintro e w4 ⟨c, hc, rfl, hd⟩
    have HD4 := Lib.hid (HD3.out.trans hd)
    have HM4 := Lib.hid (HM3.out.over HD3.out hd)
    have HOL4 := Lib.hid (HOL.out.over HD3.out hd)
    clear hd HPi
    by_cases hc0 : c = 0
    · subst hc0
      go_wp2_with fail
      go_ret2
      exact ⟨g, ad, cp, n, _, rfl, HN.out, HS.out, HM4.out.mrow, HD4.out.more (by omega)⟩
    · have d1 : (0 : Int) < (c : Int) := by omega
      have d1n : 0 < c := by omega
      go_upto_region 4 with (fail)
      obtain ⟨GL, rfl⟩ := HOL4.out.addr (by omega)
      refine wp_region_held_drew (S := fun _ => True) (by kernel_rfl) (trivial) (fun hHeld => ?_)
      refine wpAnyH_take (i := 0) (oi := { dst := some 22, op := _, type := _, pos := _, after := _, guard := _ }) (v := ?_) rfl (by kernel_rfl) (by kernel_rfl) (by kernel_rfl) (fun _ _ _ h => h) (Or.inl ⟨by rfl, ?_⟩) (by assumption) ?_
      case refine_2 => ((intro w hSw; (try dsimp only at hSw); go_simp); try with_reducible rfl)
      try simp only [Act.put, List.setIfInBounds_toArray, List.set_cons_zero, List.set_cons_succ]
      refine wpAnyH_take (i := 1) (oi := { dst := some 23, op := _, type := _, pos := _, after := _, guard := _ }) (v := ?_) rfl (by kernel_rfl) (by kernel_rfl) (by kernel_rfl) (fun _ _ _ h => h) (Or.inl ⟨by rfl, ?_⟩) (by assumption) ?_
      case refine_2 => ((intro w hSw; (try dsimp only at hSw); go_simp); try with_reducible rfl)
      try simp only [Act.put, List.setIfInBounds_toArray, List.set_cons_zero, List.set_cons_succ]
      refine wpAnyH_take (i := 2) (oi := { dst := some 24, op := _, type := _, pos := _, after := _, guard := _ }) (v := ?_) rfl (by kernel_rfl) (by kernel_rfl) (by kernel_rfl) (fun _ _ _ h => h) (Or.inl ⟨by rfl, ?_⟩) (by assumption) ?_
      case refine_2 => ((intro w hSw; (try dsimp only at hSw); go_simp); try with_reducible rfl)
      try simp only [Act.put, List.setIfInBounds_toArray, List.set_cons_zero, List.set_cons_succ]
      refine wpAnyH_take (i := 3) (oi := { dst := some 25, op := _, type := _, pos := _, after := _, guard := _ }) (v := ?_) rfl (by kernel_rfl) (by kernel_rfl) (by kernel_rfl) (fun _ _ _ h => h) (Or.inl ⟨by rfl, ?_⟩) (by assumption) ?_
      case refine_2 => ((intro w hSw; (try dsimp only at hSw); go_simp); try with_reducible rfl)
      try simp only [Act.put, List.setIfInBounds_toArray, List.set_cons_zero, List.set_cons_succ]
      refine wpAnyH_take (i := 4) (oi := { dst := some 26, op := _, type := _, pos := _, after := _, guard := _ }) (v := ?_) rfl (by kernel_rfl) (by kernel_rfl) (by kernel_rfl) (fun _ _ _ h => h) (Or.inl ⟨by rfl, ?_⟩) (by assumption) ?_
      case refine_2 => ((intro w hSw; (try dsimp only at hSw); go_simp); try with_reducible rfl)
      try simp only [Act.put, List.setIfInBounds_toArray, List.set_cons_zero, List.set_cons_succ]
      refine wpAnyH_ready (rs := [5]) (by kernel_rfl) (by simp) ?_
      refine AllReadyH.cons (o := { dst := some 27, op := _, type := _, pos := _, after := _, guard := _ }) rfl (fun K hK => ?_) AllReadyH.nil
      go_simp
      go_at_call 58
      have hbd : Below w4.heap.size w4 w4.drew := below_drewN (Below.refl _ _) 1
      refine (pickD w0 a m cap R (q + 81) l w _ HB.out hm ((HD4.out.below hbd).more (by omega)) (by omega) (by omega) (by omega)).mono ?_
      rintro e w5 ⟨c5, hc5, rfl, hd⟩
      have HD5 := Lib.hid (((HD4.out.below hbd).more (show _ ≤ q + 81 by omega)).trans hd)
      have HM5 := Lib.hid ((HM4.out.below hbd).over (HD4.out.below hbd) hd)
      have HOL5 := Lib.hid ((HOL4.out.below hbd).over (HD4.out.below hbd) hd)
      have i0 : (0 : Int) ≤ (c5 : Int) := by omega
      clear hd hbd
      refine hK.out _ _ (trivial) (fun hHeld => ?_)
      clear hK K
      try simp only [Act.put, List.setIfInBounds_toArray, List.set_cons_zero, List.set_cons_succ]
      refine wpAnyH_take (i := 6) (oi := { dst := some 28, op := _, type := _, pos := _, after := _, guard := _ }) (v := ?_) rfl (by kernel_rfl) (by kernel_rfl) (by kernel_rfl) (fun _ _ _ h => h) (Or.inl ⟨by rfl, ?_⟩) (by assumption) ?_
      case refine_2 => ((intro w hSw; (try dsimp only at hSw); go_simp); try with_reducible rfl)
      try simp only [Act.put, List.setIfInBounds_toArray, List.set_cons_zero, List.set_cons_succ]
      refine wpAnyH_take (i := 8) (oi := { dst := some 2, op := _, type := _, pos := _, after := _, guard := _ }) (v := ?_) rfl (by kernel_rfl) (by kernel_rfl) (by kernel_rfl) (fun _ _ _ h => h) (Or.inl ⟨by rfl, ?_⟩) (by assumption) ?_
      case refine_2 => ((intro w hSw; (try dsimp only at hSw); go_simp); try with_reducible rfl)
      try simp only [Act.put, List.setIfInBounds_toArray, List.set_cons_zero, List.set_cons_succ]
      refine wpAnyH_ready (rs := [7]) (by kernel_rfl) (by simp) ?_
      refine AllReadyH.cons (o := { dst := some 29, op := _, type := _, pos := _, after := _, guard := _ }) rfl (fun K hK => ?_) AllReadyH.nil
      have x1 := HOL5.out.cellAt c5 (by omega)
      go_simp
      clear x1
      refine hK.out _ _ (trivial) (fun hHeld => ?_)
      clear hK K
      try simp only [Act.put, List.setIfInBounds_toArray, List.set_cons_zero, List.set_cons_succ]
      refine wpAnyH_take (i := 9) (oi := { dst := some 3, op := _, type := _, pos := _, after := _, guard := _ }) (v := ?_) rfl (by kernel_rfl) (by kernel_rfl) (by kernel_rfl) (fun _ _ _ h => h) (Or.inl ⟨by rfl, ?_⟩) (by assumption) ?_
      case refine_2 => ((intro w hSw; (try dsimp only at hSw); go_simp); try with_reducible rfl)
      try simp only [Act.put, List.setIfInBounds_toArray, List.set_cons_zero, List.set_cons_succ]
      refine wpAnyH_done (by kernel_rfl) ?_ _
      clear hHeld
      go_wp2_with fail
      go_ret2
      exact ⟨g, ad, cp, n, _, rfl, HN.out, HS.out, HM5.out.mrow, HD5.out.more (by omega)⟩
theorem dPeakKey_any (v : Value) (zs : List Int) (w : World) (hr : RowB w v zs) (hf : ∀ n ∈ zs, (Lit.int .u8 n).wf = true) :
    Calls Try.prog 26 #[v] w (fun e w' => ∃ g ad cp n x, e = .returned (.tuple #[.slice ad n cp, .int .i64 x]) ∧ n = g.length ∧ SmallG g ∧ MRow w' (.slice ad n cp) g ∧ Below w.heap.size w w') := by
  have HO := Lib.hid (open_any v zs w hr hf)
  clear hr hf
  go_enter Try.func26, Try.ntmps26
  go_wp2_with fail
  refine HO.out.mono ?_
  rintro e w1 ⟨a, m, cap, hm, hb, rfl, hrd⟩
  have HP := Lib.hid (peak_draw w a m cap w.heap.size 0 w1 w1 hb hm (Drawn.refl hrd) (by omega))
  clear hb hrd
  go_wp2_with fail
  go_at_call 48
  with_reducible refine HP.out.mono ?_
  rintro e w2 ⟨g, ad, cp, n, x, rfl, hn, hs, hM, hd⟩
  have HN := Lib.hid hn
  have HS := Lib.hid hs
  have HM := Lib.hid hM
  have HB := Lib.hid hd.bel
  clear hn hs hM hd
  go_wp2_with fail
  go_ret2
  exact ⟨g, ad, cp, n, x, rfl, HN.out, HS.out, HM.out, HB.out⟩

end Go.Proofs.Ytkhhloeemecokaa
