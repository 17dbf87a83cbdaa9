/- Contract: l4Steps of the reference. -/
import Derived.Test.YtkhhloeemecokaaSPasses
import Derived.Test.YtkhhloeemecokaaPlainSt
import Derived.Test.YtkhhloeemecokaaQueue
import Derived.Deep.RegionHeld3
import Derived.IntWalk
namespace Go.Proofs.Ytkhhloeemecokaa
open Go.RowKit
set_option linter.unusedVariables false

/-- The memory of the loop over the list. -/
structure LMem (w : World) (N : Nat) (far list : List Int) (v : Value) (wr : World) : Prop where
  own : Own wr w.heap.size (.slice (some ⟨w.heap.size, 0, none⟩) N N) far
  lst : QAt wr (w.heap.size + 1) v list
  bel : Below w.heap.size w wr
theorem LMem.below {w : World} {N : Nat} {far list : List Int} {v : Value} {wr w' : World} (p : LMem w N far list v wr) (hb : Below wr.heap.size wr w') : LMem w N far list v w' :=
  ⟨p.own.below hb, p.lst.below hb, p.bel.trans (hb.mono p.bel.size)⟩
theorem LMem.store {w : World} {N : Nat} {far list : List Int} {v : Value} {wr : World} (p : LMem w N far list v wr) (k : Nat) (x : Int) : LMem w N (far.set k x) list v (wr.setCell ⟨w.heap.size, k, none⟩ (.int .i64 x)) := by
  have h1 := p.own.store k x
  exact ⟨h1.1, p.lst.kept (fun k' hk => heap_setCell_other wr ⟨w.heap.size, k, none⟩ k' _ (by have := (p.lst.lt k' hk).1; simp; omega)), p.bel.setCell (by simp) _⟩
theorem LMem.app {w : World} {N : Nat} {far list list' : List Int} {v v' : Value} {wr w' : World} (p : LMem w N far list v wr) (hq : QAt w' (w.heap.size + 1) v' list') (hg : wr.grownBy w' v.ownBlock) : LMem w N far list' v' w' :=
  ⟨p.own.kept hg (fun k hk e => by simp only [Value.ownBlock, Option.some.injEq] at hk; subst hk; have := (p.lst.lt _ e).1; omega), hq, p.bel.grown hg p.bel.size (fun k e => by have := (p.lst.lt k e).1; omega)⟩

set_option maxRecDepth 4000 in
set_option maxHeartbeats 4000000 in
theorem l4Steps_any (v : Value) (g : List (List Int)) (n C N a : Nat) (lev : Int) (w : World) (hr : MRow w v g) (hv : gvalB g = true) (hn : n = g.length) (hC : C = colsG g) (hN : N = n * C) (ha : a < N) (hlev : lev ≤ hgtG g C a) :
    Calls Try.prog 44 #[v, .int .i64 lev, .int .i64 (a : Nat)] w (GivesRow (stepsL N (nearL n C) (hgtG g C) lev a) w) := by
  have hG := grVal hv hn hC
  obtain ⟨h1, h2, h3, h4⟩ := gval_rows hv
  rw [← hn] at h1 h2
  rw [← hC] at h3 h4
  have hrow : ∀ r, r < n → (g.getD r []).length = C := fun r hr => by rw [hC]; exact gval_len hv r (by omega)
  have hN49 : N ≤ 49 := by rw [hN]; exact Nat.mul_le_mul h2 h4
  have HCl := Lib.hid (l2Cells_any v g n C N w hr hn hC hN h1 h2 (by omega))
  have HHt := Lib.hid (fun (i : Nat) (wr : World) (hi : i < N) (hb : Below w.heap.size w wr) => l2Height_any v g i n C wr (hr.below hb) hn hC h3 h2 h4 (by rw [← hN]; exact hi) hrow)
  have HNr := Lib.hid (fun (i : Nat) (wr : World) (hi : i < N) (hb : Below w.heap.size w wr) => l2Near_any v g i n C wr (hr.below hb) hn hC h1 h2 h3 h4 (by rw [← hN]; exact hi))
  rw [← hN] at hG
  have HG := Lib.hid hG
  obtain ⟨h, hh⟩ : ∃ h : Nat → Int, h = hgtG g C := ⟨_, rfl⟩
  rw [← hh] at HG HHt hlev ⊢
  have HEnd := Lib.hid (fun k c far list => @steps_end N (nearL n C) h lev a k c far list)
  have HSt := Lib.hid (BMid.start (N := N) (nb := nearL n C) ha hlev a)
  obtain ⟨P, hP⟩ : ∃ P, P = stepsL N (nearL n C) h lev a := ⟨_, rfl⟩
  rw [← hP] at HEnd ⊢
  obtain ⟨i0, hi, hz0, hz1, hz2⟩ := info_parts Try.infoInt
  clear hr hN hG hP hh hrow hn hC hv hlev
  go_enter Try.func44, Try.ntmps44
  go_wp2_with (first | (go_at_call 66; refine HCl.out.mono ?_; rintro e w' ⟨rfl, rfl⟩) | (at_make; refine wpList_make_full _ rfl _ _ 28 rfl w.heap.size 3 i0 (.int .i64 0) 1 Try.underlying28 hi hz0 hz1 .i64 .i64 _ _ N rfl rfl rfl rfl (by rw [hz2]; omega) (by unfold maxLen; omega) (Nat.le_refl _) ?_; intro w1 hown hgrow; (have B1 := Lib.hid ((Below.refl w.heap.size w).grown hgrow (Nat.le_refl _) (fun k e => by cases e))); (have O1 := Lib.hid (show Own w1 w.heap.size (.slice (some ⟨w.heap.size, 0, none⟩) N N) (List.replicate N 0) from Own.made (by simpa using hown))); clear hown hgrow))
  go_loopw [8] (fun i wr => ∃ k : Nat, k ≤ N ∧ i = .int .i64 k ∧ Own wr w.heap.size (.slice (some ⟨w.heap.size, 0, none⟩) N N) (List.replicate k (-1) ++ List.replicate (N - k) 0) ∧ Below w.heap.size w wr) (fun i _ => N - (intOf i).toNat)
  case atStart => exact ⟨0, Nat.zero_le _, rfl, by simpa using O1.out, B1.out⟩
  case round =>
    obtain ⟨k, hk, rfl, ho, hbw⟩ := hrel
    clear O1 B1
    have HO := Lib.hid ho
    have HB := Lib.hid hbw
    clear hbw
    by_cases hlt : k < N
    · have hfr := ho.frozenAt k
      have hold := ho.cellAt k hlt
      clear ho
      go_wp2
      go_roundw
      case rel => exact ⟨k + 1, by omega, by go_num, by have := (HO.out.store k (-1)).1; rw [neg_step N k hlt] at this; exact this, HB.out.setCell (by simp) _⟩
      case measure => simp [intOf]; omega
    · have hke : N = k := by omega
      subst hke
      have HO2 := Lib.hid (show Own wr w.heap.size (.slice (some ⟨w.heap.size, 0, none⟩) N N) (List.replicate N (-1)) from by simpa using ho)
      clear ho HO
      have k0 := HO2.out.cellAt a ha
      have k1 := HO2.out.frozenAt a
      have d0 : (a : Int) < (N : Int) := by omega
      go_upto_region 7 with (fail)
      obtain ⟨W2, hW2⟩ : ∃ W2, W2 = wr.setCell ⟨w.heap.size, a, none⟩ (.int .i64 0) := ⟨_, rfl⟩
      have hO3 := HO2.out.store a 0
      rw [← hW2] at hO3 ⊢
      have HO3 := Lib.hid hO3.1
      have HB3 := Lib.hid (show Below w.heap.size w W2 from by rw [hW2]; exact HB.out.setCell (by simp) _)
      have hlt2 : w.heap.size < W2.heap.size := (HO3.out.lt _ rfl).2
      have hbn := Below.alloc (Below.refl W2.heap.size W2) (Nat.le_refl _) (.cells #[.int .i64 (a : Int)] 3)
      have HM := Lib.hid (show LMem w N ((List.replicate N (-1)).set a 0) [(a : Int)] (.slice (some ⟨W2.heap.size, 0, none⟩) 1 1) (W2.alloc (.cells #[.int .i64 (a : Int)] 3)) from ⟨HO3.out.below hbn, QAt.ofOwn (Own.lit1 W2 (w.heap.size + 1) (a : Int) (by omega)) (by simp), HB3.out.trans (hbn.mono HB3.out.size)⟩)
      clear hW2 hO3 hbn HO2 HB HO3 HB3 k0 k1 hlt2
      go_wp2_with fail
      go_loopw [9, 10] (fun q t wr => ∃ (k c : Nat) (far list : List Int), t = .int .i64 k ∧ SB N (nearL n C) h lev a k = (far, list) ∧ BMid N (nearL n C) h lev a k c [] far list ∧ LMem w N far list q wr) (fun _ t _ => N - (intOf t).toNat)
      case atStart => exact ⟨0, a, _, _, rfl, rfl, HSt.out, HM.out⟩
      case round =>
        obtain ⟨k, c, far, list, rfl, hS, hp, hm⟩ := hrel
        clear HM HSt
        have HS := Lib.hid hS
        have HP := Lib.hid hp
        have HM := Lib.hid hm
        clear hS hp
        obtain ⟨qg, qo, qc, rfl, hqB, hqlt, hqc⟩ := hm.lst.form
        clear hm hqc
        have hcnt := HP.out.cnt
        have hkle := HP.out.kle
        obtain ⟨l, hll⟩ : ∃ l, l = list.length := ⟨_, rfl⟩
        have HLl := Lib.hid hll
        rw [← hll] at hcnt hkle HM ⊢
        have hl49 : l ≤ N := by omega
        clear hll hcnt
        by_cases hk : k < l
        · obtain ⟨i, hi, hiN, hi0⟩ := HP.out.mem (list.getD k 0) (by rw [List.getD_eq_getElem?_getD, List.getElem?_eq_getElem (by rw [← HLl.out]; exact hk)]; simp)
          have HI := Lib.hid hi
          have hcell := (HM.out.lst.cell k hk).2
          rw [hi] at hcell
          clear hi
          have HNk := Lib.hid (HNr.out i wr hiN HM.out.bel)
          obtain ⟨X, hX⟩ : ∃ X, X = nearL n C i := ⟨_, rfl⟩
          rw [← hX] at HNk
          have HXe := Lib.hid hX
          have HX4 := Lib.hid (show X.length ≤ 4 by rw [hX]; exact nearL_len n C i)
          have hdk : (k : Int) < (l : Int) := by omega
          clear hX
          go_wp2_with fail
          go_at_call 45
          refine HNk.out.mono ?_
          rintro e w7 ⟨aX, cX, rfl, ho, hb7⟩
          obtain ⟨x, hx⟩ : ∃ x, x = X.length := ⟨_, rfl⟩
          rw [← hx] at ho HX4 ⊢
          have HXl := Lib.hid hx
          have HRX := Lib.hid ho.row
          have HOX := Lib.hid ho
          have HM7 := Lib.hid (HM.out.below hb7)
          have HV7 := Lib.hid (show ∀ kk, (Value.slice (some ⟨qg, qo, none⟩) l qc).ownBlock = some kk → kk < wr.heap.size from fun kk e => (HM.out.lst.lt kk e).2)
          have hw2 : w.heap.size < wr.heap.size := (HM.out.own.lt _ rfl).2
          have HLg := Lib.hid (show ∀ m, m < l → list.getD m 0 = list.getD m 0 from fun _ _ => rfl)
          clear hx ho hb7 HNk hcell
          obtain ⟨v0, hv0⟩ : ∃ v0, v0 = Value.slice (some ⟨qg, qo, none⟩) l qc := ⟨_, rfl⟩
          rw [← hv0] at HM7 HV7 ⊢
          obtain ⟨wo, hwo⟩ : ∃ wo : World, wo = wr := ⟨_, rfl⟩
          rw [← hwo] at HV7 HOX hw2
          clear hv0 hwo HM HLg
          go_wp2_with fail
          go_loopw [9, 12] (fun q t wr => ∃ (m : Nat) (far' list' : List Int), m ≤ x ∧ t = .int .i64 m ∧ (X.take m).foldl (visitB h lev i) (far, list) = (far', list') ∧ BMid N (nearL n C) h lev a (k + 1) i (X.drop m) far' list' ∧ 0 ≤ far'.getD i 0 ∧ list'.getD k 0 = i ∧ LMem w N far' list' q wr ∧ (∀ i, wo.heap.size ≤ i → i < w7.heap.size → wr.heap[i]? = w7.heap[i]?) ∧ w7.heap.size ≤ wr.heap.size ∧ ∀ kk, q.ownBlock = some kk → kk < wo.heap.size ∨ w7.heap.size ≤ kk) (fun _ t _ => x - (intOf t).toNat)
          case atStart => exact ⟨0, far, list, Nat.zero_le _, rfl, rfl, by rw [List.drop_zero, HXe.out]; exact HP.out.enter (by rw [← HLl.out]; exact hk) HI.out, hi0, HI.out, HM7.out, fun _ _ _ => rfl, Nat.le_refl _, fun kk e => .inl (HV7.out kk e)⟩
          case round =>
            obtain ⟨m, far', list', hmx, rfl, hfo, hp, hi0', hli, hm, hke, hsz, hvo⟩ := hrel
            have HFo := Lib.hid hfo
            have HP3 := Lib.hid hp
            have HM3 := Lib.hid hm
            have HKe := Lib.hid hke
            have HSz := Lib.hid hsz
            have HVo := Lib.hid hvo
            have HI0 := Lib.hid hi0'
            have HLi := Lib.hid hli
            have hx4 := HX4.out
            clear HM7 HV7 hfo hp hm hke hsz hvo hi0' hli
            have hkl2 := HP3.out.kle
            obtain ⟨qg2, qo2, qc2, rfl, hqB2, hqlt2, hqc2⟩ := HM3.out.lst.form
            clear hqc2
            obtain ⟨l2, hll⟩ : ∃ l2, l2 = list'.length := ⟨_, rfl⟩
            have HLl2 := Lib.hid hll
            rw [← hll] at hkl2 HM3 ⊢
            have hlc : l2 ≤ N := by have := HP3.out.cnt; omega
            clear hll
            by_cases hlt : m < x
            · obtain ⟨-, hcx⟩ := HRX.out.cells
              obtain ⟨gX, oX, rfl, hxm⟩ := hcx m hlt
              obtain ⟨gX2, hgX⟩ := HOX.out.addr (by omega)
              simp only [Option.some.injEq, Addr.mk.injEq, and_true] at hgX
              obtain ⟨rfl, rfl⟩ := hgX
              have hgl := HOX.out.lt gX rfl
              have hmem : X.getD m 0 ∈ nearL n C i := by rw [← HXe.out, List.getD_eq_getElem?_getD, List.getElem?_eq_getElem (by rw [← HXl.out]; exact hlt)]; simp
              obtain ⟨j, hj, hjN⟩ := HG.out.inb i hiN _ hmem
              rw [hj] at hxm hmem
              have HDr := Lib.hid (show X.drop m = (j : Int) :: X.drop (m + 1) by rw [← hj, List.drop_eq_getElem_cons (by rw [← HXl.out]; exact hlt), List.getD_eq_getElem?_getD, List.getElem?_eq_getElem (by rw [← HXl.out]; exact hlt)]; rfl)
              have HTk := Lib.hid (show (X.take (m + 1)).foldl (visitB h lev i) (far, list) = visitB h lev i (far', list') (j : Int) by rw [fold_step (by rw [← HXl.out]; exact hlt) hj, HFo.out])
              have HMe := Lib.hid hmem
              rw [← cell_same (HKe.out gX (by omega) hgl.2)] at hxm
              simp only [Nat.zero_add] at hxm
              clear hcx hj hmem
              rw [HDr.out] at HP3
              have kj := HM3.out.own.cellAt j hjN
              obtain ⟨y, hy⟩ : ∃ y, y = far'.getD j 0 := ⟨_, rfl⟩
              obtain ⟨z, hz⟩ : ∃ z, z = far'.getD i 0 := ⟨_, rfl⟩
              obtain ⟨hj', hhj⟩ : ∃ hj', hj' = h j := ⟨_, rfl⟩
              have hz0 : 0 ≤ z := by rw [hz]; exact HI0.out
              have hz1 : z < 49 := by
                have h1 := HP3.out.up i hiN
                have h2 := HP3.out.cnt
                rw [hz]
                omega
              rw [← hy] at kj
              have HHj2 := Lib.hid (HHt.out j wr hjN HM3.out.bel)
              rw [← hhj] at HHj2
              have HY := Lib.hid hy
              have HZ := Lib.hid hz
              have HHj := Lib.hid hhj
              have d1 : (i : Int) < (N : Int) := by omega
              have d2 : (j : Int) < (N : Int) := by omega
              have d3 : (m : Int) < (x : Int) := by omega
              clear hy hz hhj
              by_cases c1 : y < 0
              · by_cases c2 : hj' ≥ lev
                · have HYe := Lib.hid (visit_yes (h := h) (lev := lev) (src := i) (j := j) (far := far') (list := list') (by rw [← HY.out]; exact c1) (by rw [← HHj.out]; exact c2))
                  have HPs := Lib.hid (HP3.out.put hjN (by rw [← HY.out]; exact c1) (by rw [← HHj.out]; exact c2) HMe.out hiN HI0.out)
                  rw [← HZ.out] at HYe HPs
                  have hij : i ≠ j := fun e => by
                    have h1 := HZ.out
                    have h2 := HY.out
                    subst e
                    omega
                  have HI1 := Lib.hid (show 0 ≤ (far'.set j (z + 1)).getD i 0 by rw [set_get (by rw [HP3.out.len]; exact hjN)]; have := HI0.out; split <;> omega)
                  have HLi1 := Lib.hid (show (list' ++ [(j : Int)]).getD k 0 = i by rw [app_get (by rw [← HLl2.out]; omega)]; exact HLi.out)
                  have hmw : wr.heap.size = wr.heap.size := rfl
                  go_upto_region 16 with (go_at_call 55; refine HHj2.out.mono ?_; rintro e w8 ⟨rfl, rfl⟩)
                  clear hmw
                  have HM4 := Lib.hid (HM3.out.below (show Below wr.heap.size wr wr.drew from below_drewN (Below.refl _ _) 1))
                  obtain ⟨W3, hW3⟩ : ∃ W3, W3 = wr.drew := ⟨_, rfl⟩
                  rw [← hW3] at HM4 ⊢
                  have HKe4 := Lib.hid (show ∀ i, wo.heap.size ≤ i → i < w7.heap.size → W3.heap[i]? = w7.heap[i]? from fun i h1 h2 => by rw [hW3]; exact HKe.out i h1 h2)
                  have HSz4 := Lib.hid (show w7.heap.size ≤ W3.heap.size from by rw [hW3]; exact HSz.out)
                  have hxm3 : W3.cell? ⟨gX, m, none⟩ = some (.int .i64 j) := by rw [hW3]; exact hxm
                  have ki := HM4.out.own.cellAt i hiN
                  have kf := HM4.out.own.frozenAt j
                  have kj4 := HM4.out.own.cellAt j hjN
                  have kl := (HM4.out.lst.cell k (by omega)).2
                  rw [← HZ.out] at ki
                  rw [← HY.out] at kj4
                  rw [HLi.out] at kl
                  have dk2 : (k : Int) < (l2 : Int) := by omega
                  have hgB := HM4.out.lst.lt qg2 rfl
                  have hwz : IntKind.i64.wrap (z + 1) = z + 1 := IntWalk.i64_in _ (by omega)
                  have HC3 := Lib.hid (show (W3.setCell ⟨w.heap.size, j, none⟩ (.int .i64 (z + 1))).drew.cell? ⟨w.heap.size, i, none⟩ = some (.int .i64 z) from by
                    have q := (HM4.out.store j (z + 1)).own.cellAt i hiN
                    rw [set_get (by rw [HP3.out.len]; exact hjN), if_neg (fun e => hij e.symm), ← HZ.out] at q
                    exact q)
                  clear hW3 kj hxm HHj2

                  refine wp_region_held_drew (S := fun wx => wx.cell? ⟨gX, m, none⟩ = some (.int .i64 j) ∧ wx.cell? ⟨qg2, qo2 + k, none⟩ = some (.int .i64 i) ∧ wx.cell? ⟨w.heap.size, i, none⟩ = some (.int .i64 z)) (by kernel_rfl) (⟨hxm3, kl, ki⟩) (fun hHeld => ?_)
                  refine wpAnyH_take (i := 0) (oi := { dst := some 66, op := _, type := _, pos := _, after := _, guard := _ }) (v := ?_) rfl (by kernel_rfl) (by kernel_rfl) (by kernel_rfl) (fun _ _ _ h => h) (Or.inl ⟨by rfl, ?_⟩) (by assumption) ?_
                  case refine_2 => ((intro w hSw; (try dsimp only at hSw); go_simp); try with_reducible rfl)
                  try simp only [Act.put, List.setIfInBounds_toArray, List.set_cons_zero, List.set_cons_succ]
                  refine wpAnyH_take (i := 1) (oi := { dst := some 67, op := _, type := _, pos := _, after := _, guard := _ }) (v := ?_) rfl (by kernel_rfl) (by kernel_rfl) (by kernel_rfl) (fun _ _ _ h => h) (Or.inl ⟨by rfl, ?_⟩) (by assumption) ?_
                  case refine_2 => ((intro w hSw; (try dsimp only at hSw); go_simp); try with_reducible rfl)
                  try simp only [Act.put, List.setIfInBounds_toArray, List.set_cons_zero, List.set_cons_succ]
                  refine wpAnyH_take (i := 2) (oi := { dst := some 68, op := _, type := _, pos := _, after := _, guard := _ }) (v := ?_) rfl (by kernel_rfl) (by kernel_rfl) (by kernel_rfl) (fun _ _ _ h => h) (Or.inl ⟨by rfl, ?_⟩) (by assumption) ?_
                  case refine_2 => ((intro w hSw; (try dsimp only at hSw); go_simp); try with_reducible rfl)
                  try simp only [Act.put, List.setIfInBounds_toArray, List.set_cons_zero, List.set_cons_succ]
                  refine wpAnyH_take (i := 3) (oi := { dst := some 69, op := _, type := _, pos := _, after := _, guard := _ }) (v := ?_) rfl (by kernel_rfl) (by kernel_rfl) (by kernel_rfl) (fun _ _ _ h => h) (Or.inl ⟨by rfl, ?_⟩) (by assumption) ?_
                  case refine_2 => ((intro w hSw; (try dsimp only at hSw); go_simp); try with_reducible rfl)
                  try simp only [Act.put, List.setIfInBounds_toArray, List.set_cons_zero, List.set_cons_succ]
                  refine wpAnyH_take (i := 4) (oi := { dst := some 70, op := _, type := _, pos := _, after := _, guard := _ }) (v := ?_) rfl (by kernel_rfl) (by kernel_rfl) (by kernel_rfl) (fun _ _ _ h => h) (Or.inl ⟨by rfl, ?_⟩) (by assumption) ?_
                  case refine_2 => ((intro w hSw; (try dsimp only at hSw); go_simp); try with_reducible rfl)
                  try simp only [Act.put, List.setIfInBounds_toArray, List.set_cons_zero, List.set_cons_succ]
                  refine wpAnyH_take (i := 5) (oi := { dst := some 71, op := _, type := _, pos := _, after := _, guard := _ }) (v := ?_) rfl (by kernel_rfl) (by kernel_rfl) (by kernel_rfl) (fun _ _ _ h => h) (Or.inl ⟨by rfl, ?_⟩) (by assumption) ?_
                  case refine_2 => ((intro w hSw; (try dsimp only at hSw); go_simp); try with_reducible rfl)
                  try simp only [Act.put, List.setIfInBounds_toArray, List.set_cons_zero, List.set_cons_succ]
                  refine wpAnyH_take (i := 6) (oi := { dst := some 72, op := _, type := _, pos := _, after := _, guard := _ }) (v := ?_) rfl (by kernel_rfl) (by kernel_rfl) (by kernel_rfl) (fun _ _ _ h => h) (Or.inl ⟨by rfl, ?_⟩) (by assumption) ?_
                  case refine_2 => ((intro w hSw; (try dsimp only at hSw); go_simp); try with_reducible rfl)
                  try simp only [Act.put, List.setIfInBounds_toArray, List.set_cons_zero, List.set_cons_succ]
                  refine wpAnyH_take (i := 7) (oi := { dst := some 73, op := _, type := _, pos := _, after := _, guard := _ }) (v := ?_) rfl (by kernel_rfl) (by kernel_rfl) (by kernel_rfl) (fun _ _ _ h => h) (Or.inl ⟨by rfl, ?_⟩) (by assumption) ?_
                  case refine_2 => ((intro w hSw; (try dsimp only at hSw); go_simp); try with_reducible rfl)
                  try simp only [Act.put, List.setIfInBounds_toArray, List.set_cons_zero, List.set_cons_succ]
                  refine wpAnyH_take (i := 8) (oi := { dst := some 74, op := _, type := _, pos := _, after := _, guard := _ }) (v := ?_) rfl (by kernel_rfl) (by kernel_rfl) (by kernel_rfl) (fun _ _ _ h => h) (Or.inl ⟨by rfl, ?_⟩) (by assumption) ?_
                  case refine_2 => ((intro w hSw; (try dsimp only at hSw); go_simp); try with_reducible rfl)
                  try simp only [Act.put, List.setIfInBounds_toArray, List.set_cons_zero, List.set_cons_succ]
                  refine wpAnyH_take (i := 9) (oi := { dst := some 75, op := _, type := _, pos := _, after := _, guard := _ }) (v := ?_) rfl (by kernel_rfl) (by kernel_rfl) (by kernel_rfl) (fun _ _ _ h => h) (Or.inl ⟨by rfl, ?_⟩) (by assumption) ?_
                  case refine_2 => ((intro w hSw; (try dsimp only at hSw); go_simp); try with_reducible rfl)
                  try simp only [Act.put, List.setIfInBounds_toArray, List.set_cons_zero, List.set_cons_succ]
                  refine wpAnyH_take (i := 10) (oi := { dst := some 76, op := _, type := _, pos := _, after := _, guard := _ }) (v := ?_) rfl (by kernel_rfl) (by kernel_rfl) (by kernel_rfl) (fun _ _ _ h => h) (Or.inl ⟨by rfl, ?_⟩) (by assumption) ?_
                  case refine_2 => ((intro w hSw; (try dsimp only at hSw); go_simp); try with_reducible rfl)
                  try simp only [Act.put, List.setIfInBounds_toArray, List.set_cons_zero, List.set_cons_succ]
                  refine wpAnyH_take (i := 11) (oi := { dst := some 77, op := _, type := _, pos := _, after := _, guard := _ }) (v := ?_) rfl (by kernel_rfl) (by kernel_rfl) (by kernel_rfl) (fun _ _ _ h => h) (Or.inl ⟨by rfl, ?_⟩) (by assumption) ?_
                  case refine_2 => ((intro w hSw; (try dsimp only at hSw); go_simp); try with_reducible rfl)
                  try simp only [Act.put, List.setIfInBounds_toArray, List.set_cons_zero, List.set_cons_succ]
                  refine wpAnyH_take (i := 12) (oi := { dst := some 78, op := _, type := _, pos := _, after := _, guard := _ }) (v := ?_) rfl (by kernel_rfl) (by kernel_rfl) (by kernel_rfl) (fun _ _ _ h => h) (Or.inl ⟨by rfl, ?_⟩) (by assumption) ?_
                  case refine_2 => ((intro w hSw; (try dsimp only at hSw); go_simp); try with_reducible rfl)
                  try simp only [Act.put, List.setIfInBounds_toArray, List.set_cons_zero, List.set_cons_succ]
                  refine wpAnyH_take (i := 13) (oi := { dst := some 79, op := _, type := _, pos := _, after := _, guard := _ }) (v := ?_) rfl (by kernel_rfl) (by kernel_rfl) (by kernel_rfl) (fun _ _ _ h => h) (Or.inl ⟨by rfl, ?_⟩) (by assumption) ?_
                  case refine_2 => ((intro w hSw; (try dsimp only at hSw); go_simp); try with_reducible rfl)
                  try simp only [Act.put, List.setIfInBounds_toArray, List.set_cons_zero, List.set_cons_succ]
                  refine wpAnyH_ready (rs := [14]) (by kernel_rfl) (by simp) ?_
                  refine AllReadyH.cons (o := { dst := none, op := _, type := _, pos := _, after := _, guard := _ }) rfl (fun K hK => ?_) AllReadyH.nil
                  go_simp
                  refine hK.out _ _ (⟨(cell_same (heap_setCell_other W3 ⟨w.heap.size, j, none⟩ gX _ (by simp; omega)) m).trans hxm3, (cell_same (heap_setCell_other W3 ⟨w.heap.size, j, none⟩ qg2 _ (by simp; omega)) (qo2 + k)).trans kl, HC3.out⟩) (fun hHeld => ?_)
                  clear hK K
                  try simp only [Act.put, List.setIfInBounds_toArray, List.set_cons_zero, List.set_cons_succ]
                  refine wpAnyH_done (by kernel_rfl) ?_ _
                  clear hHeld
                  skip
                  obtain ⟨W5, hW5⟩ : ∃ W5, W5 = (W3.setCell ⟨w.heap.size, j, none⟩ (.int .i64 (z + 1))).drew := ⟨_, rfl⟩
                  rw [← hW5]
                  have HM5 := Lib.hid (show LMem w N (far'.set j (z + 1)) list' (.slice (some ⟨qg2, qo2, none⟩) l2 qc2) W5 from by rw [hW5]; exact (HM4.out.store j (z + 1)).below (show Below _ _ (World.drew _) from below_drewN (Below.refl _ _) 1))
                  have HKe5 := Lib.hid (show ∀ i, wo.heap.size ≤ i → i < w7.heap.size → W5.heap[i]? = w7.heap[i]? from fun i h1 h2 => by rw [← HKe4.out i h1 h2, hW5]; exact heap_setCell_other W3 ⟨w.heap.size, j, none⟩ i _ (by simp; omega))
                  have HSz5 := Lib.hid (show w7.heap.size ≤ W5.heap.size from by rw [hW5]; have := HSz4.out; simpa using this)
                  have hxm5 : W5.cell? ⟨gX, m, none⟩ = some (.int .i64 j) := by rw [hW5]; exact (cell_same (heap_setCell_other W3 ⟨w.heap.size, j, none⟩ gX _ (by simp; omega)) m).trans hxm3
                  have hbA := Below.alloc (Below.refl W5.heap.size W5) (Nat.le_refl _) (.cells #[.int .i64 (j : Int)] 3)
                  have HM6 := Lib.hid (HM5.out.below hbA)
                  have HbA := Lib.hid hbA
                  have hsA := hbA.size
                  have hB5 := Nat.le_trans (show w.heap.size + 1 ≤ W5.heap.size from (HM5.out.own.lt _ rfl).2) hsA
                  have HNc := Lib.hid (show (W5.alloc (.cells #[.int .i64 (j : Int)] 3)).cell? ⟨W5.heap.size, 0, none⟩ = some (.int .i64 (j : Int)) from by rw [cell_of_row _ W5.heap.size 0 _ _ (0, 0) (heap_alloc_new W5 _)]; rfl)
                  have HLn := Lib.hid (show list'.length ≤ 100000 by rw [← HLl2.out]; omega)
                  clear hbA hW5 hxm3 ki kf kj4 kl
                  go_wp2_with (at_builtin; refine appQ (by rfl) _ _ (by rfl) (w.heap.size + 1) (.slice (some ⟨qg2, qo2, none⟩) l2 qc2) list' (j : Int) W5.heap.size 1 ?h1 ?h2 ?h4 ?h5 ?h6 ?h7 ?h8)
                  case h1 => rfl
                  case h2 => rfl
                  case h4 => exact HNc.out
                  case h5 => exact HM6.out.lst
                  case h6 => exact hB5
                  case h7 => exact HLn.out
                  intro v8 w8 hq8 hg8 hv8
                  have HM8 := Lib.hid (HM6.out.app hq8 hg8)
                  have HG8 := Lib.hid hg8
                  have hs8 := hg8.size
                  have HV8 := Lib.hid (show ∀ kk, v8.ownBlock = some kk → kk < wo.heap.size ∨ w7.heap.size ≤ kk from fun kk e => by
                    rcases hv8 kk e with q | q
                    · exact HVo.out kk q
                    · have := HSz5.out; omega)
                  clear hq8 hg8 hv8
                  go_wp2_with fail
                  go_roundw
                  case rel =>
                    refine ⟨m + 1, far'.set j (z + 1), list' ++ [(j : Int)], by omega, by go_num, by rw [HTk.out, HYe.out], HPs.out, HI1.out, HLi1.out, HM8.out, fun i h1 h2 => ?_, ?_, HV8.out⟩
                    · rw [← HKe5.out i h1 h2, ← HbA.out.block i (by have := HSz5.out; omega)]
                      exact HG8.out.block i (by have := HSz5.out; omega) (fun e => by have := HVo.out i e.symm; omega)
                    · have := HSz5.out; omega
                  case measure => simp [intOf]; omega
                · have HNo := Lib.hid (visit_no (h := h) (lev := lev) (src := i) (j := j) (far := far') (list := list') (by rw [← HHj.out]; omega))
                  have HPs := Lib.hid (HP3.out.pass (by rw [← HHj.out]; omega))
                  go_wp2_with (go_at_call 55; refine HHj2.out.mono ?_; rintro e w8 ⟨rfl, rfl⟩)
                  go_roundw
                  case rel => exact ⟨m + 1, far', list', by omega, by go_num, by rw [HTk.out, HNo.out], HPs.out, HI0.out, HLi.out, HM3.out.below (show Below wr.heap.size wr wr.drew from below_drewN (Below.refl _ _) 1), HKe.out, HSz.out, HVo.out⟩
                  case measure => simp [intOf]; omega
              · have HNo := Lib.hid (visit_no (h := h) (lev := lev) (src := i) (j := j) (far := far') (list := list') (by rw [← HY.out]; omega))
                have HPs := Lib.hid (HP3.out.pass (by rw [← HY.out]; omega))
                go_wp2_with fail
                go_roundw
                case rel => exact ⟨m + 1, far', list', by omega, by go_num, by rw [HTk.out, HNo.out], HPs.out, HI0.out, HLi.out, HM3.out, HKe.out, HSz.out, HVo.out⟩
                case measure => simp [intOf]; omega
            · have hmx2 : x = m := by omega
              subst hmx2
              rw [HXl.out, List.take_length, HXe.out] at HFo
              rw [HXl.out, List.drop_length] at HP3
              go_wp2_with fail
              go_roundw
              case rel => exact ⟨k + 1, i, far', list', by go_num, (SB_next HS.out (by rw [← HLl.out]; exact hk) HI.out).trans HFo.out, HP3.out, HM3.out⟩
              case measure => simp [intOf]; omega
        · have hkl : list.length = k := by rw [← HLl.out]; omega
          have HE := Lib.hid (HEnd.out k c far list HP.out HS.out hkl)
          clear hkl
          go_wp2_with fail
          go_ret
          refine GivesRow.mk (by rw [← HE.out]; exact HP.out.len.symm) ?_ HM.out.bel
          rw [← HE.out]
          exact HM.out.own

end Go.Proofs.Ytkhhloeemecokaa
