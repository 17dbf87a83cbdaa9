/- Contract: l4Passes of the reference. -/
import Derived.Test.YtkhhloeemecokaaPasses
import Derived.Test.YtkhhloeemecokaaNearS
import Derived.Test.YtkhhloeemecokaaHgt
import Derived.Test.YtkhhloeemecokaaPlainKey
import Derived.Deep.RegionHeld3
namespace Go.Proofs.Ytkhhloeemecokaa
open Go.RowKit
set_option linter.unusedVariables false

set_option maxRecDepth 4000 in
set_option maxHeartbeats 4000000 in
theorem l4Passes_any (v : Value) (g : List (List Int)) (n C N a : Nat) (w : World) (hr : MRow w v g) (hv : gvalB g = true) (hn : n = g.length) (hC : C = colsG g) (hN : N = n * C) (ha : a < N) :
    Calls Try.prog 52 #[v, .int .i64 (a : Nat)] w (GivesRow (passL N (nearL n C) (hgtG g C) a) w) := by
  have hG := grVal hv hn hC
  obtain ⟨h1, h2, h3, h4⟩ := gval_rows hv
  rw [← hn] at h1 h2
  rw [← hC] at h3 h4
  have hrow : ∀ r, r < n → (g.getD r []).length = C := fun r hr => by rw [hC]; exact gval_len hv r (by omega)
  have hN49 : N ≤ 49 := by rw [hN]; exact Nat.mul_le_mul h2 h4
  have HCl := Lib.hid (l2Cells_any v g n C N w hr hn hC hN h1 h2 (by omega))
  have HHt := Lib.hid (fun (i : Nat) (wr : World) (hi : i < N) (hb : Below w.heap.size w wr) => l2Height_any v g i n C wr (hr.below hb) hn hC h3 h2 h4 (by rw [← hN]; exact hi) hrow)
  have HNr := Lib.hid (fun (i : Nat) (wr : World) (hi : i < N) (hb : Below w.heap.size w wr) => l2Near_any v g i n C wr (hr.below hb) hn hC h1 h2 h3 h4 (by rw [← hN]; exact hi))
  rw [← hN] at hG
  have HG := Lib.hid hG
  have HX := Lib.hid (fun (l : List Int) => @passL_eq N (nearL n C) (hgtG g C) a l)
  obtain ⟨P, hP⟩ : ∃ P, P = passL N (nearL n C) (hgtG g C) a := ⟨_, rfl⟩
  rw [← hP] at HX ⊢
  obtain ⟨h, hh⟩ : ∃ h : Nat → Int, h = hgtG g C := ⟨_, rfl⟩
  rw [← hh] at HX HG HHt
  obtain ⟨i0, hi, hz0, hz1, hz2⟩ := info_parts Try.infoInt
  clear hr hN hG hP hh hrow hn hC hv
  go_enter Try.func52, Try.ntmps52
  go_wp2_with (first | (go_at_call 66; refine HCl.out.mono ?_; rintro e w' ⟨rfl, rfl⟩) | (at_make; refine wpList_make_full _ rfl _ _ 28 rfl w.heap.size 3 i0 (.int .i64 0) 1 Try.underlying28 hi hz0 hz1 .i64 .i64 _ _ N rfl rfl rfl rfl (by rw [hz2]; omega) (by unfold maxLen; omega) (Nat.le_refl _) ?_; intro w1 hown hgrow; (have B1 := Lib.hid ((Below.refl w.heap.size w).grown hgrow (Nat.le_refl _) (fun k e => by cases e))); (have O1 := Lib.hid (show Own w1 w.heap.size (.slice (some ⟨w.heap.size, 0, none⟩) N N) (List.replicate N 0) from Own.made (by simpa using hown))); clear hown hgrow))
  go_loopw [6] (fun i wr => ∃ k : Nat, k ≤ N ∧ i = .int .i64 k ∧ Own wr w.heap.size (.slice (some ⟨w.heap.size, 0, none⟩) N N) (List.replicate k (-1) ++ List.replicate (N - k) 0) ∧ Below w.heap.size w wr) (fun i _ => N - (intOf i).toNat)
  case atStart => exact ⟨0, Nat.zero_le _, rfl, by simpa using O1.out, B1.out⟩
  case round =>
    obtain ⟨k, hk, rfl, ho, hbw⟩ := hrel
    clear O1 B1
    have HO := Lib.hid ho
    have HB := Lib.hid hbw
    clear hbw
    by_cases hlt : k < N
    · have hfr := ho.frozenAt k
      have hold := ho.cellAt k hlt
      clear ho
      go_wp2
      go_roundw
      case rel => exact ⟨k + 1, by omega, by go_num, by have := (HO.out.store k (-1)).1; rw [neg_step N k hlt] at this; exact this, HB.out.setCell (by simp) _⟩
      case measure => simp [intOf]; omega
    · have hke : N = k := by omega
      subst hke
      have HO2 := Lib.hid (show Own wr w.heap.size (.slice (some ⟨w.heap.size, 0, none⟩) N N) (List.replicate N (-1)) from by simpa using ho)
      clear ho HO
      have k0 := HO2.out.cellAt a ha
      have k1 := HO2.out.frozenAt a
      have HHa := Lib.hid (HHt.out a wr ha HB.out)
      have d0 : (a : Int) < (N : Int) := by omega
      go_wp2_with (go_at_call 55; refine HHa.out.mono ?_; rintro e w2 ⟨rfl, rfl⟩)
      skip
      go_loopw [7] (fun q wr => ∃ (r : Nat) (out : List Int), r ≤ N ∧ q = .int .i64 r ∧ Own wr w.heap.size (.slice (some ⟨w.heap.size, 0, none⟩) N N) out ∧ RMid N (nearL n C) h a r 0 [] out ∧ Below w.heap.size w wr) (fun q _ => N - (intOf q).toNat)
      case atStart =>
        refine ⟨0, (List.replicate N (-1)).set a (h a), Nat.zero_le _, rfl, (HO2.out.drewN 1 |>.store a (h a)).1, RMid.start HG.out ha, ?_⟩
        exact (HB.out.trans ((below_drewN (Below.refl wr.heap.size wr) 1).mono HB.out.size)).setCell (by simp) _
      case round =>
        clear HO2 HB k0 k1 HHa
        obtain ⟨r, out, hrN, rfl, ho, hm, hbw⟩ := hrel
        have HO := Lib.hid ho
        have HM := Lib.hid hm
        have HB := Lib.hid hbw
        clear ho hm hbw
        by_cases hlt : r < N
        · skip
          go_wp2_with fail
          obtain ⟨wo, rfl⟩ : ∃ wo : World, wo = wr := ⟨_, rfl⟩
          go_loopw [8] (fun q wr => ∃ (i : Nat) (out : List Int), i ≤ N ∧ q = .int .i64 i ∧ Own wr w.heap.size (.slice (some ⟨w.heap.size, 0, none⟩) N N) out ∧ RMid N (nearL n C) h a r i [] out ∧ Below w.heap.size w wr) (fun q _ => N - (intOf q).toNat)
          case atStart => exact ⟨0, out, Nat.zero_le _, rfl, HO.out, HM.out, HB.out⟩
          case round =>
            clear HO HM HB out
            obtain ⟨i, out, hiN, rfl, ho, hm, hbw⟩ := hrel
            have HO := Lib.hid ho
            have HM := Lib.hid hm
            have HB := Lib.hid hbw
            clear ho hm hbw
            by_cases hlt2 : i < N
            · skip
              have HNi := Lib.hid (HNr.out i wr hlt2 HB.out)
              obtain ⟨X, hX⟩ : ∃ X, X = nearL n C i := ⟨_, rfl⟩
              rw [← hX] at HNi
              have HXe := Lib.hid hX
              have HX4 := Lib.hid (show X.length ≤ 4 by rw [hX]; exact nearL_len n C i)
              clear hX
              go_wp2_with fail
              go_at_call 45
              refine HNi.out.mono ?_
              rintro e w7 ⟨aX, cX, rfl, hox, hb7⟩
              obtain ⟨x, hx⟩ : ∃ x, x = X.length := ⟨_, rfl⟩
              rw [← hx] at hox HX4 ⊢
              have HXl := Lib.hid hx
              clear hx
              have HRX := Lib.hid hox.row
              have HOX := Lib.hid hox
              have HO7 := Lib.hid (HO.out.below hb7)
              have HB7 := Lib.hid (HB.out.trans (hb7.mono HB.out.size))
              have hltB := (HO.out.lt _ rfl).2
              clear hox hb7 HNi HO HB
              go_wp2_with fail
              go_loopw [10] (fun q wr => ∃ (m : Nat) (out : List Int), m ≤ x ∧ q = .int .i64 m ∧ Own wr w.heap.size (.slice (some ⟨w.heap.size, 0, none⟩) N N) out ∧ RMid N (nearL n C) h a r i (X.take m) out ∧ Below w.heap.size w wr ∧ w7.heap.size ≤ wr.heap.size ∧ ∀ k, w.heap.size < k → k < w7.heap.size → wr.heap[k]? = w7.heap[k]?) (fun q _ => x - (intOf q).toNat)
              case atStart => exact ⟨0, out, Nat.zero_le _, rfl, HO7.out, by rw [List.take_zero]; exact HM.out, HB7.out, Nat.le_refl _, fun _ _ _ => rfl⟩
              case round =>
                obtain ⟨wr1, hwr1⟩ : ∃ x : World, x = wr := ⟨_, rfl⟩
                rw [← hwr1] at hrel ⊢
                clear hwr1
                obtain ⟨m, out, hmx, rfl, ho, hm, hbw, hsz, hke⟩ := hrel
                clear HO7 HM HB7
                have HO := Lib.hid ho
                have HM := Lib.hid hm
                have HB := Lib.hid hbw
                have HSz := Lib.hid hsz
                have HKe := Lib.hid hke
                clear ho hm hbw hsz hke
                have hx4 := HX4.out
                by_cases hlt3 : m < x
                · skip
                  obtain ⟨-, hcx⟩ := HRX.out.cells
                  obtain ⟨gX, oX, rfl, hxm⟩ := hcx m hlt3
                  obtain ⟨gX2, hgX⟩ := HOX.out.addr (by omega)
                  simp only [Option.some.injEq, Addr.mk.injEq, and_true] at hgX
                  obtain ⟨rfl, rfl⟩ := hgX
                  have hgl := HOX.out.lt gX rfl
                  have hmem : X.getD m 0 ∈ nearL n C i := by rw [← HXe.out, List.getD_eq_getElem?_getD, List.getElem?_eq_getElem (by rw [← HXl.out]; exact hlt3)]; simp
                  obtain ⟨j, hj, hjN⟩ := HG.out.inb i hlt2 _ hmem
                  rw [hj] at hxm hmem
                  have HTk := Lib.hid (show X.take (m + 1) = X.take m ++ [(j : Int)] by rw [List.take_succ_eq_append_getElem (by rw [← HXl.out]; exact hlt3), ← hj, List.getD_eq_getElem?_getD, List.getElem?_eq_getElem (by rw [← HXl.out]; exact hlt3)]; rfl)
                  have HMe := Lib.hid hmem
                  rw [← cell_same (HKe.out gX (by omega) hgl.2)] at hxm
                  simp only [Nat.zero_add] at hxm
                  clear hcx hj hmem
                  have ki := HO.out.cellAt i hlt2
                  have kj := HO.out.cellAt j hjN
                  have kf := HO.out.frozenAt i
                  obtain ⟨y, hy⟩ : ∃ y, y = out.getD i 0 := ⟨_, rfl⟩
                  obtain ⟨z, hz⟩ : ∃ z, z = out.getD j 0 := ⟨_, rfl⟩
                  rw [← hy] at ki
                  rw [← hz] at kj
                  have HY := Lib.hid hy
                  have HZ := Lib.hid hz
                  clear hy hz
                  have HHi := Lib.hid (HHt.out i wr1.drew hlt2 (show Below w.heap.size w wr1.drew from HB.out.trans ((below_drewN (Below.refl wr1.heap.size wr1) 1).mono HB.out.size)))
                  have d1 : (i : Int) < (N : Int) := by omega
                  have d2 : (j : Int) < (N : Int) := by omega
                  have d3 : (m : Int) < (x : Int) := by omega
                  go_upto_region 17 with (fail)
                  refine wp_region_held_drew (S := fun wx => wx.cell? ⟨gX, m, none⟩ = some (.int .i64 j)) (by kernel_rfl) (hxm) (fun hHeld => ?_)
                  refine wpAnyH_take (i := 0) (oi := { dst := some 50, op := _, type := _, pos := _, after := _, guard := _ }) (v := ?_) rfl (by kernel_rfl) (by kernel_rfl) (by kernel_rfl) (fun _ _ _ h => h) (Or.inl ⟨by rfl, ?_⟩) (by assumption) ?_
                  case refine_2 => ((intro w hSw; (try dsimp only at hSw); go_simp); try with_reducible rfl)
                  try simp only [Act.put, List.setIfInBounds_toArray, List.set_cons_zero, List.set_cons_succ]
                  refine wpAnyH_take (i := 1) (oi := { dst := some 51, op := _, type := _, pos := _, after := _, guard := _ }) (v := ?_) rfl (by kernel_rfl) (by kernel_rfl) (by kernel_rfl) (fun _ _ _ h => h) (Or.inl ⟨by rfl, ?_⟩) (by assumption) ?_
                  case refine_2 => ((intro w hSw; (try dsimp only at hSw); go_simp); try with_reducible rfl)
                  try simp only [Act.put, List.setIfInBounds_toArray, List.set_cons_zero, List.set_cons_succ]
                  refine wpAnyH_take (i := 2) (oi := { dst := some 52, op := _, type := _, pos := _, after := _, guard := _ }) (v := ?_) rfl (by kernel_rfl) (by kernel_rfl) (by kernel_rfl) (fun _ _ _ h => h) (Or.inl ⟨by rfl, ?_⟩) (by assumption) ?_
                  case refine_2 => ((intro w hSw; (try dsimp only at hSw); go_simp); try with_reducible rfl)
                  try simp only [Act.put, List.setIfInBounds_toArray, List.set_cons_zero, List.set_cons_succ]
                  refine wpAnyH_take (i := 3) (oi := { dst := some 53, op := _, type := _, pos := _, after := _, guard := _ }) (v := ?_) rfl (by kernel_rfl) (by kernel_rfl) (by kernel_rfl) (fun _ _ _ h => h) (Or.inl ⟨by rfl, ?_⟩) (by assumption) ?_
                  case refine_2 => ((intro w hSw; (try dsimp only at hSw); go_simp); try with_reducible rfl)
                  try simp only [Act.put, List.setIfInBounds_toArray, List.set_cons_zero, List.set_cons_succ]
                  refine wpAnyH_take (i := 4) (oi := { dst := some 54, op := _, type := _, pos := _, after := _, guard := _ }) (v := ?_) rfl (by kernel_rfl) (by kernel_rfl) (by kernel_rfl) (fun _ _ _ h => h) (Or.inl ⟨by rfl, ?_⟩) (by assumption) ?_
                  case refine_2 => ((intro w hSw; (try dsimp only at hSw); go_simp); try with_reducible rfl)
                  try simp only [Act.put, List.setIfInBounds_toArray, List.set_cons_zero, List.set_cons_succ]
                  refine wpAnyH_take (i := 6) (oi := { dst := some 56, op := _, type := _, pos := _, after := _, guard := _ }) (v := ?_) rfl (by kernel_rfl) (by kernel_rfl) (by kernel_rfl) (fun _ _ _ h => h) (Or.inl ⟨by rfl, ?_⟩) (by assumption) ?_
                  case refine_2 => ((intro w hSw; (try dsimp only at hSw); go_simp); try with_reducible rfl)
                  try simp only [Act.put, List.setIfInBounds_toArray, List.set_cons_zero, List.set_cons_succ]
                  refine wpAnyH_take (i := 7) (oi := { dst := some 57, op := _, type := _, pos := _, after := _, guard := _ }) (v := ?_) rfl (by kernel_rfl) (by kernel_rfl) (by kernel_rfl) (fun _ _ _ h => h) (Or.inl ⟨by rfl, ?_⟩) (by assumption) ?_
                  case refine_2 => ((intro w hSw; (try dsimp only at hSw); go_simp); try with_reducible rfl)
                  try simp only [Act.put, List.setIfInBounds_toArray, List.set_cons_zero, List.set_cons_succ]
                  refine wpAnyH_take (i := 9) (oi := { dst := some 59, op := _, type := _, pos := _, after := _, guard := _ }) (v := ?_) rfl (by kernel_rfl) (by kernel_rfl) (by kernel_rfl) (fun _ _ _ h => h) (Or.inl ⟨by rfl, ?_⟩) (by assumption) ?_
                  case refine_2 => ((intro w hSw; (try dsimp only at hSw); go_simp); try with_reducible rfl)
                  try simp only [Act.put, List.setIfInBounds_toArray, List.set_cons_zero, List.set_cons_succ]
                  refine wpAnyH_take (i := 10) (oi := { dst := some 60, op := _, type := _, pos := _, after := _, guard := _ }) (v := ?_) rfl (by kernel_rfl) (by kernel_rfl) (by kernel_rfl) (fun _ _ _ h => h) (Or.inl ⟨by rfl, ?_⟩) (by assumption) ?_
                  case refine_2 => ((intro w hSw; (try dsimp only at hSw); go_simp); try with_reducible rfl)
                  try simp only [Act.put, List.setIfInBounds_toArray, List.set_cons_zero, List.set_cons_succ]
                  refine wpAnyH_take (i := 11) (oi := { dst := some 61, op := _, type := _, pos := _, after := _, guard := _ }) (v := ?_) rfl (by kernel_rfl) (by kernel_rfl) (by kernel_rfl) (fun _ _ _ h => h) (Or.inl ⟨by rfl, ?_⟩) (by assumption) ?_
                  case refine_2 => ((intro w hSw; (try dsimp only at hSw); go_simp); try with_reducible rfl)
                  try simp only [Act.put, List.setIfInBounds_toArray, List.set_cons_zero, List.set_cons_succ]
                  refine wpAnyH_take (i := 12) (oi := { dst := some 62, op := _, type := _, pos := _, after := _, guard := _ }) (v := ?_) rfl (by kernel_rfl) (by kernel_rfl) (by kernel_rfl) (fun _ _ _ h => h) (Or.inl ⟨by rfl, ?_⟩) (by assumption) ?_
                  case refine_2 => ((intro w hSw; (try dsimp only at hSw); go_simp); try with_reducible rfl)
                  try simp only [Act.put, List.setIfInBounds_toArray, List.set_cons_zero, List.set_cons_succ]
                  refine wpAnyH_take (i := 13) (oi := { dst := some 63, op := _, type := _, pos := _, after := _, guard := _ }) (v := ?_) rfl (by kernel_rfl) (by kernel_rfl) (by kernel_rfl) (fun _ _ _ h => h) (Or.inl ⟨by rfl, ?_⟩) (by assumption) ?_
                  case refine_2 => ((intro w hSw; (try dsimp only at hSw); go_simp); try with_reducible rfl)
                  try simp only [Act.put, List.setIfInBounds_toArray, List.set_cons_zero, List.set_cons_succ]
                  refine wpAnyH_take (i := 14) (oi := { dst := some 64, op := _, type := _, pos := _, after := _, guard := _ }) (v := ?_) rfl (by kernel_rfl) (by kernel_rfl) (by kernel_rfl) (fun _ _ _ h => h) (Or.inl ⟨by rfl, ?_⟩) (by assumption) ?_
                  case refine_2 => ((intro w hSw; (try dsimp only at hSw); go_simp); try with_reducible rfl)
                  try simp only [Act.put, List.setIfInBounds_toArray, List.set_cons_zero, List.set_cons_succ]
                  refine wpAnyH_ready (rs := [5, 8, 15]) (by kernel_rfl) (by simp) ?_
                  refine AllReadyH.cons (o := { dst := some 55, op := _, type := _, pos := _, after := _, guard := _ }) rfl (fun K hK => ?_) (AllReadyH.cons (o := { dst := some 58, op := _, type := _, pos := _, after := _, guard := _ }) rfl (fun K hK => ?_) (AllReadyH.cons (o := { dst := some 65, op := _, type := _, pos := _, after := _, guard := _ }) rfl (fun K hK => ?_) AllReadyH.nil))
                  · skip
                    go_simp
                    refine hK.out _ _ (hxm) (fun hHeld => ?_)
                    clear hK K
                    try simp only [Act.put, List.setIfInBounds_toArray, List.set_cons_zero, List.set_cons_succ]
                    refine wpAnyH_ready (rs := [8, 15]) (by kernel_rfl) (by simp) ?_
                    refine AllReadyH.cons (o := { dst := some 58, op := _, type := _, pos := _, after := _, guard := _ }) rfl (fun K hK => ?_) (AllReadyH.cons (o := { dst := some 65, op := _, type := _, pos := _, after := _, guard := _ }) rfl (fun K hK => ?_) AllReadyH.nil)
                    · skip
                      go_simp
                      go_at_call 55
                      refine HHi.out.mono ?_
                      rintro e w2 ⟨rfl, rfl⟩
                      skip
                      refine hK.out _ _ (hxm) (fun hHeld => ?_)
                      clear hK K
                      try simp only [Act.put, List.setIfInBounds_toArray, List.set_cons_zero, List.set_cons_succ]
                      refine wpAnyH_ready (rs := [15]) (by kernel_rfl) (by simp) ?_
                      refine AllReadyH.cons (o := { dst := some 65, op := _, type := _, pos := _, after := _, guard := _ }) rfl (fun K hK => ?_) AllReadyH.nil
                      go_simp
                      refine hK.out _ _ (hxm) (fun hHeld => ?_)
                      clear hK K
                      try simp only [Act.put, List.setIfInBounds_toArray, List.set_cons_zero, List.set_cons_succ]
                      refine wpAnyH_take (i := 16) (oi := { dst := some 66, op := _, type := _, pos := _, after := _, guard := _ }) (v := ?_) rfl (by kernel_rfl) (by kernel_rfl) (by kernel_rfl) (fun _ _ _ h => h) (Or.inl ⟨by rfl, ?_⟩) (by assumption) ?_
                      case refine_2 => ((intro w hSw; (try dsimp only at hSw); go_simp); try with_reducible rfl)
                      try simp only [Act.put, List.setIfInBounds_toArray, List.set_cons_zero, List.set_cons_succ]
                      refine wpAnyH_take (i := 17) (oi := { dst := some 67, op := _, type := _, pos := _, after := _, guard := _ }) (v := ?_) rfl (by kernel_rfl) (by kernel_rfl) (by kernel_rfl) (fun _ _ _ h => h) (Or.inl ⟨by rfl, ?_⟩) (by assumption) ?_
                      case refine_2 => ((intro w hSw; (try dsimp only at hSw); go_simp); try with_reducible rfl)
                      try simp only [Act.put, List.setIfInBounds_toArray, List.set_cons_zero, List.set_cons_succ]
                      refine wpAnyH_take (i := 18) (oi := { dst := some 68, op := _, type := _, pos := _, after := _, guard := _ }) (v := ?_) rfl (by kernel_rfl) (by kernel_rfl) (by kernel_rfl) (fun _ _ _ h => h) (Or.inl ⟨by rfl, ?_⟩) (by assumption) ?_
                      case refine_2 => ((intro w hSw; (try dsimp only at hSw); go_simp); try with_reducible rfl)
                      try simp only [Act.put, List.setIfInBounds_toArray, List.set_cons_zero, List.set_cons_succ]
                      refine wpAnyH_ready (rs := [19]) (by kernel_rfl) (by simp) ?_
                      refine AllReadyH.cons (o := { dst := none, op := _, type := _, pos := _, after := _, guard := _ }) rfl (fun K hK => ?_) AllReadyH.nil
                      go_simp
                      refine hK.out _ _ (((cell_same (heap_setCell_other wr1.drew.drew ⟨w.heap.size, i, none⟩ gX _ (by simp; omega)) m).trans hxm)) (fun hHeld => ?_)
                      clear hK K
                      try simp only [Act.put, List.setIfInBounds_toArray, List.set_cons_zero, List.set_cons_succ]
                      refine wpAnyH_done (by kernel_rfl) ?_ _
                      clear hHeld
                      go_wp2_with fail
                      go_roundw
                      case rel =>
                        refine ⟨m + 1, out.set i (max y (min (h i) z)), by omega, by go_num, ((show Own wr1.drew.drew w.heap.size (.slice (some ⟨w.heap.size, 0, none⟩) N N) out from HO.out.drewN 2).store i _).1, ?_, ?_, ?_, ?_⟩
                        · rw [HTk.out, HY.out, HZ.out]; exact HM.out.look HG.out hlt2 HMe.out
                        · exact (HB.out.trans ((below_drewN (Below.refl wr1.heap.size wr1) 2).mono HB.out.size)).setCell (by simp) _
                        · have := HSz.out; simpa using this
                        · intro k h1 h2; rw [← HKe.out k h1 h2]; exact heap_setCell_other wr1.drew.drew ⟨w.heap.size, i, none⟩ k _ (by simp; omega)
                      case measure => simp [intOf]; omega
                    · skip
                      go_simp
                      refine hK.out _ _ (hxm) (fun hHeld => ?_)
                      clear hK K
                      try simp only [Act.put, List.setIfInBounds_toArray, List.set_cons_zero, List.set_cons_succ]
                      refine wpAnyH_ready (rs := [8]) (by kernel_rfl) (by simp) ?_
                      refine AllReadyH.cons (o := { dst := some 58, op := _, type := _, pos := _, after := _, guard := _ }) rfl (fun K hK => ?_) AllReadyH.nil
                      go_simp
                      go_at_call 55
                      refine HHi.out.mono ?_
                      rintro e w2 ⟨rfl, rfl⟩
                      skip
                      refine hK.out _ _ (hxm) (fun hHeld => ?_)
                      clear hK K
                      try simp only [Act.put, List.setIfInBounds_toArray, List.set_cons_zero, List.set_cons_succ]
                      refine wpAnyH_take (i := 16) (oi := { dst := some 66, op := _, type := _, pos := _, after := _, guard := _ }) (v := ?_) rfl (by kernel_rfl) (by kernel_rfl) (by kernel_rfl) (fun _ _ _ h => h) (Or.inl ⟨by rfl, ?_⟩) (by assumption) ?_
                      case refine_2 => ((intro w hSw; (try dsimp only at hSw); go_simp); try with_reducible rfl)
                      try simp only [Act.put, List.setIfInBounds_toArray, List.set_cons_zero, List.set_cons_succ]
                      refine wpAnyH_take (i := 17) (oi := { dst := some 67, op := _, type := _, pos := _, after := _, guard := _ }) (v := ?_) rfl (by kernel_rfl) (by kernel_rfl) (by kernel_rfl) (fun _ _ _ h => h) (Or.inl ⟨by rfl, ?_⟩) (by assumption) ?_
                      case refine_2 => ((intro w hSw; (try dsimp only at hSw); go_simp); try with_reducible rfl)
                      try simp only [Act.put, List.setIfInBounds_toArray, List.set_cons_zero, List.set_cons_succ]
                      refine wpAnyH_take (i := 18) (oi := { dst := some 68, op := _, type := _, pos := _, after := _, guard := _ }) (v := ?_) rfl (by kernel_rfl) (by kernel_rfl) (by kernel_rfl) (fun _ _ _ h => h) (Or.inl ⟨by rfl, ?_⟩) (by assumption) ?_
                      case refine_2 => ((intro w hSw; (try dsimp only at hSw); go_simp); try with_reducible rfl)
                      try simp only [Act.put, List.setIfInBounds_toArray, List.set_cons_zero, List.set_cons_succ]
                      refine wpAnyH_ready (rs := [19]) (by kernel_rfl) (by simp) ?_
                      refine AllReadyH.cons (o := { dst := none, op := _, type := _, pos := _, after := _, guard := _ }) rfl (fun K hK => ?_) AllReadyH.nil
                      go_simp
                      refine hK.out _ _ (((cell_same (heap_setCell_other wr1.drew.drew ⟨w.heap.size, i, none⟩ gX _ (by simp; omega)) m).trans hxm)) (fun hHeld => ?_)
                      clear hK K
                      try simp only [Act.put, List.setIfInBounds_toArray, List.set_cons_zero, List.set_cons_succ]
                      refine wpAnyH_done (by kernel_rfl) ?_ _
                      clear hHeld
                      go_wp2_with fail
                      go_roundw
                      case rel =>
                        refine ⟨m + 1, out.set i (max y (min (h i) z)), by omega, by go_num, ((show Own wr1.drew.drew w.heap.size (.slice (some ⟨w.heap.size, 0, none⟩) N N) out from HO.out.drewN 2).store i _).1, ?_, ?_, ?_, ?_⟩
                        · rw [HTk.out, HY.out, HZ.out]; exact HM.out.look HG.out hlt2 HMe.out
                        · exact (HB.out.trans ((below_drewN (Below.refl wr1.heap.size wr1) 2).mono HB.out.size)).setCell (by simp) _
                        · have := HSz.out; simpa using this
                        · intro k h1 h2; rw [← HKe.out k h1 h2]; exact heap_setCell_other wr1.drew.drew ⟨w.heap.size, i, none⟩ k _ (by simp; omega)
                      case measure => simp [intOf]; omega
                  · skip
                    go_simp
                    go_at_call 55
                    refine HHi.out.mono ?_
                    rintro e w2 ⟨rfl, rfl⟩
                    skip
                    refine hK.out _ _ (hxm) (fun hHeld => ?_)
                    clear hK K
                    try simp only [Act.put, List.setIfInBounds_toArray, List.set_cons_zero, List.set_cons_succ]
                    refine wpAnyH_ready (rs := [5, 15]) (by kernel_rfl) (by simp) ?_
                    refine AllReadyH.cons (o := { dst := some 55, op := _, type := _, pos := _, after := _, guard := _ }) rfl (fun K hK => ?_) (AllReadyH.cons (o := { dst := some 65, op := _, type := _, pos := _, after := _, guard := _ }) rfl (fun K hK => ?_) AllReadyH.nil)
                    · skip
                      go_simp
                      refine hK.out _ _ (hxm) (fun hHeld => ?_)
                      clear hK K
                      try simp only [Act.put, List.setIfInBounds_toArray, List.set_cons_zero, List.set_cons_succ]
                      refine wpAnyH_ready (rs := [15]) (by kernel_rfl) (by simp) ?_
                      refine AllReadyH.cons (o := { dst := some 65, op := _, type := _, pos := _, after := _, guard := _ }) rfl (fun K hK => ?_) AllReadyH.nil
                      go_simp
                      refine hK.out _ _ (hxm) (fun hHeld => ?_)
                      clear hK K
                      try simp only [Act.put, List.setIfInBounds_toArray, List.set_cons_zero, List.set_cons_succ]
                      refine wpAnyH_take (i := 16) (oi := { dst := some 66, op := _, type := _, pos := _, after := _, guard := _ }) (v := ?_) rfl (by kernel_rfl) (by kernel_rfl) (by kernel_rfl) (fun _ _ _ h => h) (Or.inl ⟨by rfl, ?_⟩) (by assumption) ?_
                      case refine_2 => ((intro w hSw; (try dsimp only at hSw); go_simp); try with_reducible rfl)
                      try simp only [Act.put, List.setIfInBounds_toArray, List.set_cons_zero, List.set_cons_succ]
                      refine wpAnyH_take (i := 17) (oi := { dst := some 67, op := _, type := _, pos := _, after := _, guard := _ }) (v := ?_) rfl (by kernel_rfl) (by kernel_rfl) (by kernel_rfl) (fun _ _ _ h => h) (Or.inl ⟨by rfl, ?_⟩) (by assumption) ?_
                      case refine_2 => ((intro w hSw; (try dsimp only at hSw); go_simp); try with_reducible rfl)
                      try simp only [Act.put, List.setIfInBounds_toArray, List.set_cons_zero, List.set_cons_succ]
                      refine wpAnyH_take (i := 18) (oi := { dst := some 68, op := _, type := _, pos := _, after := _, guard := _ }) (v := ?_) rfl (by kernel_rfl) (by kernel_rfl) (by kernel_rfl) (fun _ _ _ h => h) (Or.inl ⟨by rfl, ?_⟩) (by assumption) ?_
                      case refine_2 => ((intro w hSw; (try dsimp only at hSw); go_simp); try with_reducible rfl)
                      try simp only [Act.put, List.setIfInBounds_toArray, List.set_cons_zero, List.set_cons_succ]
                      refine wpAnyH_ready (rs := [19]) (by kernel_rfl) (by simp) ?_
                      refine AllReadyH.cons (o := { dst := none, op := _, type := _, pos := _, after := _, guard := _ }) rfl (fun K hK => ?_) AllReadyH.nil
                      go_simp
                      refine hK.out _ _ (((cell_same (heap_setCell_other wr1.drew.drew ⟨w.heap.size, i, none⟩ gX _ (by simp; omega)) m).trans hxm)) (fun hHeld => ?_)
                      clear hK K
                      try simp only [Act.put, List.setIfInBounds_toArray, List.set_cons_zero, List.set_cons_succ]
                      refine wpAnyH_done (by kernel_rfl) ?_ _
                      clear hHeld
                      go_wp2_with fail
                      go_roundw
                      case rel =>
                        refine ⟨m + 1, out.set i (max y (min (h i) z)), by omega, by go_num, ((show Own wr1.drew.drew w.heap.size (.slice (some ⟨w.heap.size, 0, none⟩) N N) out from HO.out.drewN 2).store i _).1, ?_, ?_, ?_, ?_⟩
                        · rw [HTk.out, HY.out, HZ.out]; exact HM.out.look HG.out hlt2 HMe.out
                        · exact (HB.out.trans ((below_drewN (Below.refl wr1.heap.size wr1) 2).mono HB.out.size)).setCell (by simp) _
                        · have := HSz.out; simpa using this
                        · intro k h1 h2; rw [← HKe.out k h1 h2]; exact heap_setCell_other wr1.drew.drew ⟨w.heap.size, i, none⟩ k _ (by simp; omega)
                      case measure => simp [intOf]; omega
                    · skip
                      go_simp
                      refine hK.out _ _ (hxm) (fun hHeld => ?_)
                      clear hK K
                      try simp only [Act.put, List.setIfInBounds_toArray, List.set_cons_zero, List.set_cons_succ]
                      refine wpAnyH_take (i := 16) (oi := { dst := some 66, op := _, type := _, pos := _, after := _, guard := _ }) (v := ?_) rfl (by kernel_rfl) (by kernel_rfl) (by kernel_rfl) (fun _ _ _ h => h) (Or.inl ⟨by rfl, ?_⟩) (by assumption) ?_
                      case refine_2 => ((intro w hSw; (try dsimp only at hSw); go_simp); try with_reducible rfl)
                      try simp only [Act.put, List.setIfInBounds_toArray, List.set_cons_zero, List.set_cons_succ]
                      refine wpAnyH_ready (rs := [5]) (by kernel_rfl) (by simp) ?_
                      refine AllReadyH.cons (o := { dst := some 55, op := _, type := _, pos := _, after := _, guard := _ }) rfl (fun K hK => ?_) AllReadyH.nil
                      go_simp
                      refine hK.out _ _ (hxm) (fun hHeld => ?_)
                      clear hK K
                      try simp only [Act.put, List.setIfInBounds_toArray, List.set_cons_zero, List.set_cons_succ]
                      refine wpAnyH_take (i := 17) (oi := { dst := some 67, op := _, type := _, pos := _, after := _, guard := _ }) (v := ?_) rfl (by kernel_rfl) (by kernel_rfl) (by kernel_rfl) (fun _ _ _ h => h) (Or.inl ⟨by rfl, ?_⟩) (by assumption) ?_
                      case refine_2 => ((intro w hSw; (try dsimp only at hSw); go_simp); try with_reducible rfl)
                      try simp only [Act.put, List.setIfInBounds_toArray, List.set_cons_zero, List.set_cons_succ]
                      refine wpAnyH_take (i := 18) (oi := { dst := some 68, op := _, type := _, pos := _, after := _, guard := _ }) (v := ?_) rfl (by kernel_rfl) (by kernel_rfl) (by kernel_rfl) (fun _ _ _ h => h) (Or.inl ⟨by rfl, ?_⟩) (by assumption) ?_
                      case refine_2 => ((intro w hSw; (try dsimp only at hSw); go_simp); try with_reducible rfl)
                      try simp only [Act.put, List.setIfInBounds_toArray, List.set_cons_zero, List.set_cons_succ]
                      refine wpAnyH_ready (rs := [19]) (by kernel_rfl) (by simp) ?_
                      refine AllReadyH.cons (o := { dst := none, op := _, type := _, pos := _, after := _, guard := _ }) rfl (fun K hK => ?_) AllReadyH.nil
                      go_simp
                      refine hK.out _ _ (((cell_same (heap_setCell_other wr1.drew.drew ⟨w.heap.size, i, none⟩ gX _ (by simp; omega)) m).trans hxm)) (fun hHeld => ?_)
                      clear hK K
                      try simp only [Act.put, List.setIfInBounds_toArray, List.set_cons_zero, List.set_cons_succ]
                      refine wpAnyH_done (by kernel_rfl) ?_ _
                      clear hHeld
                      go_wp2_with fail
                      go_roundw
                      case rel =>
                        refine ⟨m + 1, out.set i (max y (min (h i) z)), by omega, by go_num, ((show Own wr1.drew.drew w.heap.size (.slice (some ⟨w.heap.size, 0, none⟩) N N) out from HO.out.drewN 2).store i _).1, ?_, ?_, ?_, ?_⟩
                        · rw [HTk.out, HY.out, HZ.out]; exact HM.out.look HG.out hlt2 HMe.out
                        · exact (HB.out.trans ((below_drewN (Below.refl wr1.heap.size wr1) 2).mono HB.out.size)).setCell (by simp) _
                        · have := HSz.out; simpa using this
                        · intro k h1 h2; rw [← HKe.out k h1 h2]; exact heap_setCell_other wr1.drew.drew ⟨w.heap.size, i, none⟩ k _ (by simp; omega)
                      case measure => simp [intOf]; omega
                  · skip
                    go_simp
                    refine hK.out _ _ (hxm) (fun hHeld => ?_)
                    clear hK K
                    try simp only [Act.put, List.setIfInBounds_toArray, List.set_cons_zero, List.set_cons_succ]
                    refine wpAnyH_ready (rs := [5, 8]) (by kernel_rfl) (by simp) ?_
                    refine AllReadyH.cons (o := { dst := some 55, op := _, type := _, pos := _, after := _, guard := _ }) rfl (fun K hK => ?_) (AllReadyH.cons (o := { dst := some 58, op := _, type := _, pos := _, after := _, guard := _ }) rfl (fun K hK => ?_) AllReadyH.nil)
                    · skip
                      go_simp
                      refine hK.out _ _ (hxm) (fun hHeld => ?_)
                      clear hK K
                      try simp only [Act.put, List.setIfInBounds_toArray, List.set_cons_zero, List.set_cons_succ]
                      refine wpAnyH_ready (rs := [8]) (by kernel_rfl) (by simp) ?_
                      refine AllReadyH.cons (o := { dst := some 58, op := _, type := _, pos := _, after := _, guard := _ }) rfl (fun K hK => ?_) AllReadyH.nil
                      go_simp
                      go_at_call 55
                      refine HHi.out.mono ?_
                      rintro e w2 ⟨rfl, rfl⟩
                      skip
                      refine hK.out _ _ (hxm) (fun hHeld => ?_)
                      clear hK K
                      try simp only [Act.put, List.setIfInBounds_toArray, List.set_cons_zero, List.set_cons_succ]
                      refine wpAnyH_take (i := 16) (oi := { dst := some 66, op := _, type := _, pos := _, after := _, guard := _ }) (v := ?_) rfl (by kernel_rfl) (by kernel_rfl) (by kernel_rfl) (fun _ _ _ h => h) (Or.inl ⟨by rfl, ?_⟩) (by assumption) ?_
                      case refine_2 => ((intro w hSw; (try dsimp only at hSw); go_simp); try with_reducible rfl)
                      try simp only [Act.put, List.setIfInBounds_toArray, List.set_cons_zero, List.set_cons_succ]
                      refine wpAnyH_take (i := 17) (oi := { dst := some 67, op := _, type := _, pos := _, after := _, guard := _ }) (v := ?_) rfl (by kernel_rfl) (by kernel_rfl) (by kernel_rfl) (fun _ _ _ h => h) (Or.inl ⟨by rfl, ?_⟩) (by assumption) ?_
                      case refine_2 => ((intro w hSw; (try dsimp only at hSw); go_simp); try with_reducible rfl)
                      try simp only [Act.put, List.setIfInBounds_toArray, List.set_cons_zero, List.set_cons_succ]
                      refine wpAnyH_take (i := 18) (oi := { dst := some 68, op := _, type := _, pos := _, after := _, guard := _ }) (v := ?_) rfl (by kernel_rfl) (by kernel_rfl) (by kernel_rfl) (fun _ _ _ h => h) (Or.inl ⟨by rfl, ?_⟩) (by assumption) ?_
                      case refine_2 => ((intro w hSw; (try dsimp only at hSw); go_simp); try with_reducible rfl)
                      try simp only [Act.put, List.setIfInBounds_toArray, List.set_cons_zero, List.set_cons_succ]
                      refine wpAnyH_ready (rs := [19]) (by kernel_rfl) (by simp) ?_
                      refine AllReadyH.cons (o := { dst := none, op := _, type := _, pos := _, after := _, guard := _ }) rfl (fun K hK => ?_) AllReadyH.nil
                      go_simp
                      refine hK.out _ _ (((cell_same (heap_setCell_other wr1.drew.drew ⟨w.heap.size, i, none⟩ gX _ (by simp; omega)) m).trans hxm)) (fun hHeld => ?_)
                      clear hK K
                      try simp only [Act.put, List.setIfInBounds_toArray, List.set_cons_zero, List.set_cons_succ]
                      refine wpAnyH_done (by kernel_rfl) ?_ _
                      clear hHeld
                      go_wp2_with fail
                      go_roundw
                      case rel =>
                        refine ⟨m + 1, out.set i (max y (min (h i) z)), by omega, by go_num, ((show Own wr1.drew.drew w.heap.size (.slice (some ⟨w.heap.size, 0, none⟩) N N) out from HO.out.drewN 2).store i _).1, ?_, ?_, ?_, ?_⟩
                        · rw [HTk.out, HY.out, HZ.out]; exact HM.out.look HG.out hlt2 HMe.out
                        · exact (HB.out.trans ((below_drewN (Below.refl wr1.heap.size wr1) 2).mono HB.out.size)).setCell (by simp) _
                        · have := HSz.out; simpa using this
                        · intro k h1 h2; rw [← HKe.out k h1 h2]; exact heap_setCell_other wr1.drew.drew ⟨w.heap.size, i, none⟩ k _ (by simp; omega)
                      case measure => simp [intOf]; omega
                    · skip
                      go_simp
                      go_at_call 55
                      refine HHi.out.mono ?_
                      rintro e w2 ⟨rfl, rfl⟩
                      skip
                      refine hK.out _ _ (hxm) (fun hHeld => ?_)
                      clear hK K
                      try simp only [Act.put, List.setIfInBounds_toArray, List.set_cons_zero, List.set_cons_succ]
                      refine wpAnyH_take (i := 16) (oi := { dst := some 66, op := _, type := _, pos := _, after := _, guard := _ }) (v := ?_) rfl (by kernel_rfl) (by kernel_rfl) (by kernel_rfl) (fun _ _ _ h => h) (Or.inl ⟨by rfl, ?_⟩) (by assumption) ?_
                      case refine_2 => ((intro w hSw; (try dsimp only at hSw); go_simp); try with_reducible rfl)
                      try simp only [Act.put, List.setIfInBounds_toArray, List.set_cons_zero, List.set_cons_succ]
                      refine wpAnyH_ready (rs := [5]) (by kernel_rfl) (by simp) ?_
                      refine AllReadyH.cons (o := { dst := some 55, op := _, type := _, pos := _, after := _, guard := _ }) rfl (fun K hK => ?_) AllReadyH.nil
                      go_simp
                      refine hK.out _ _ (hxm) (fun hHeld => ?_)
                      clear hK K
                      try simp only [Act.put, List.setIfInBounds_toArray, List.set_cons_zero, List.set_cons_succ]
                      refine wpAnyH_take (i := 17) (oi := { dst := some 67, op := _, type := _, pos := _, after := _, guard := _ }) (v := ?_) rfl (by kernel_rfl) (by kernel_rfl) (by kernel_rfl) (fun _ _ _ h => h) (Or.inl ⟨by rfl, ?_⟩) (by assumption) ?_
                      case refine_2 => ((intro w hSw; (try dsimp only at hSw); go_simp); try with_reducible rfl)
                      try simp only [Act.put, List.setIfInBounds_toArray, List.set_cons_zero, List.set_cons_succ]
                      refine wpAnyH_take (i := 18) (oi := { dst := some 68, op := _, type := _, pos := _, after := _, guard := _ }) (v := ?_) rfl (by kernel_rfl) (by kernel_rfl) (by kernel_rfl) (fun _ _ _ h => h) (Or.inl ⟨by rfl, ?_⟩) (by assumption) ?_
                      case refine_2 => ((intro w hSw; (try dsimp only at hSw); go_simp); try with_reducible rfl)
                      try simp only [Act.put, List.setIfInBounds_toArray, List.set_cons_zero, List.set_cons_succ]
                      refine wpAnyH_ready (rs := [19]) (by kernel_rfl) (by simp) ?_
                      refine AllReadyH.cons (o := { dst := none, op := _, type := _, pos := _, after := _, guard := _ }) rfl (fun K hK => ?_) AllReadyH.nil
                      go_simp
                      refine hK.out _ _ (((cell_same (heap_setCell_other wr1.drew.drew ⟨w.heap.size, i, none⟩ gX _ (by simp; omega)) m).trans hxm)) (fun hHeld => ?_)
                      clear hK K
                      try simp only [Act.put, List.setIfInBounds_toArray, List.set_cons_zero, List.set_cons_succ]
                      refine wpAnyH_done (by kernel_rfl) ?_ _
                      clear hHeld
                      go_wp2_with fail
                      go_roundw
                      case rel =>
                        refine ⟨m + 1, out.set i (max y (min (h i) z)), by omega, by go_num, ((show Own wr1.drew.drew w.heap.size (.slice (some ⟨w.heap.size, 0, none⟩) N N) out from HO.out.drewN 2).store i _).1, ?_, ?_, ?_, ?_⟩
                        · rw [HTk.out, HY.out, HZ.out]; exact HM.out.look HG.out hlt2 HMe.out
                        · exact (HB.out.trans ((below_drewN (Below.refl wr1.heap.size wr1) 2).mono HB.out.size)).setCell (by simp) _
                        · have := HSz.out; simpa using this
                        · intro k h1 h2; rw [← HKe.out k h1 h2]; exact heap_setCell_other wr1.drew.drew ⟨w.heap.size, i, none⟩ k _ (by simp; omega)
                      case measure => simp [intOf]; omega
                · have hmx2 : x = m := by omega
                  subst hmx2
                  rw [HXl.out, List.take_length, HXe.out] at HM
                  go_wp2_with fail
                  go_roundw
                  case rel => exact ⟨i + 1, out, by omega, by go_num, HO.out, HM.out.next HG.out ha hlt2, HB.out⟩
                  case measure => simp [intOf]; omega
            · have hie : N = i := by omega
              subst hie
              go_wp2_with fail
              go_roundw
              case rel => exact ⟨r + 1, out, by omega, by go_num, HO.out, HM.out.round HG.out ha, HB.out⟩
              case measure => simp [intOf]; omega
        · have hre : N = r := by omega
          subst hre
          go_wp2_with fail
          go_ret
          have hfin := HX.out out HM.out.len (fun b hb => (HM.out.done HG.out ha hb).2)
          refine GivesRow.mk (by rw [← hfin]; exact HM.out.len.symm) ?_ HB.out
          rw [← hfin]
          exact HO.out

end Go.Proofs.Ytkhhloeemecokaa
