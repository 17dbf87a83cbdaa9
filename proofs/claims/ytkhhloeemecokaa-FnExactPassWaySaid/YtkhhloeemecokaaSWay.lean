/- Contracts: PassBetween and PassWay of the reference. -/
import Derived.Test.YtkhhloeemecokaaSSteps
import Derived.Test.YtkhhloeemecokaaSBet
import Derived.Test.YtkhhloeemecokaaIWayT
namespace Go.Proofs.Ytkhhloeemecokaa
open Go.RowKit
set_option linter.unusedVariables false

set_option maxRecDepth 4000 in
set_option maxHeartbeats 4000000 in
theorem spway_any (v : Value) (g : List (List Int)) (a b : Int) (w : World) (hr : MRow w v g) (hz1 : g.length ≤ 1048576) (hz2 : tot g ≤ 1048576) :
    Calls Try.prog 14 #[v, .int .i64 a, .int .i64 b] w (GivesRowB (pwayL g a b) (pwayB g a b) w) := by
  have HPb := Lib.hid (spbet_any v g a b w hr hz1 hz2)
  cases hpw : pwayB g a b
  · rw [show pbV g a b = -1 by unfold pbV; rw [hpw]; rfl] at HPb
    rw [show pwayL g a b = [] by unfold pwayL; rw [hpw]; rfl]
    clear hr hpw
    go_enter Try.func14, Try.ntmps14
    go_wp2_with (go_at_call 39; refine HPb.out.mono ?_; rintro e w1 ⟨rfl, hb1⟩)
    go_ret2
    exact ⟨_, _, rfl, (Own.emptyLit w1 _ (Nat.le_refl _)).mono hb1.size, hb1.trans ((Below.alloc (Below.refl _ _) (Nat.le_refl _) _).mono hb1.size)⟩
  · have hpw' := hpw
    unfold pwayB inG at hpw'
    simp only [Bool.and_eq_true, decide_eq_true_eq] at hpw'
    obtain ⟨hv, ⟨ha0, ha1⟩, ⟨hb0, hb1⟩⟩ := hpw'
    obtain ⟨a, rfl⟩ : ∃ k : Nat, a = k := ⟨a.toNat, by omega⟩
    obtain ⟨b, rfl⟩ : ∃ k : Nat, b = k := ⟨b.toNat, by omega⟩
    obtain ⟨n, hn⟩ : ∃ n, n = g.length := ⟨_, rfl⟩
    obtain ⟨C, hC⟩ : ∃ C, C = colsG g := ⟨_, rfl⟩
    obtain ⟨N, hN⟩ : ∃ N, N = n * C := ⟨_, rfl⟩
    rw [← hn, ← hC, ← hN] at ha1 hb1
    have ha : a < N := by omega
    have hb : b < N := by omega
    obtain ⟨h1, h2, h3, h4⟩ := gval_rows hv
    rw [← hn] at h1 h2
    rw [← hC] at h3 h4
    have hN49 : N ≤ 49 := by rw [hN]; exact Nat.mul_le_mul h2 h4
    have hG := grVal hv hn hC
    rw [← hN] at hG
    rw [show pwayL g a b = wayL N (nearL n C) (hgtG g C) a b by unfold pwayL; rw [if_pos hpw, ← hn, ← hC, ← hN, Int.toNat_natCast, Int.toNat_natCast]]
    rw [show pbV g a b = passV (nearL n C) (hgtG g C) a b by unfold pbV; rw [if_pos hpw, ← hn, ← hC, Int.toNat_natCast, Int.toNat_natCast]] at HPb
    obtain ⟨hSt, hFa⟩ := way_steps hG ha hb
    have hlev := (passV_is hG ha hb).top.2
    have hpnn := (passV_is hG ha hb).nonneg hG ha
    obtain ⟨h, hh⟩ : ∃ h : Nat → Int, h = hgtG g C := ⟨_, rfl⟩
    rw [← hh] at hSt hFa hlev hpnn hG HPb ⊢
    obtain ⟨p, hp⟩ : ∃ p, p = passV (nearL n C) h a b := ⟨_, rfl⟩
    have hWay : wayL N (nearL n C) h a b = hbL (HB (nearL n C) (stepsL N (nearL n C) h p b) b a) ((stepsL N (nearL n C) h p b).getD a 0).toNat := by rw [hp]; rfl
    rw [← hp] at hSt hFa hlev hpnn HPb
    have HSp := Lib.hid (fun (wr : World) (hq : Below w.heap.size w wr) => l4Steps_any v g n C N b p wr (hr.below hq) hv hn hC hN hb (by rw [← hh]; exact hlev))
    have HNb := Lib.hid (fun (i : Nat) (wr : World) (hi : i < N) (hq : Below w.heap.size w wr) => l2Near_any v g i n C wr (hr.below hq) hn hC h1 h2 h3 h4 (by rw [← hN]; exact hi))
    rw [← hh] at HSp
    obtain ⟨far, hfar⟩ : ∃ far, far = stepsL N (nearL n C) h p b := ⟨_, rfl⟩
    rw [← hfar] at hSt hFa hWay HSp
    obtain ⟨H, hH⟩ : ∃ H, H = HB (nearL n C) far b a := ⟨_, rfl⟩
    obtain ⟨d, hd⟩ : ∃ d, d = (far.getD a 0).toNat := ⟨_, rfl⟩
    have HInv := Lib.hid (show ∀ k, k ≤ d → H k < N ∧ far.getD (H k) 0 = ((d - k : Nat) : Int) from fun k hk => by
      obtain ⟨e1, e2⟩ := H_inv hSt hG ha hFa k (by rw [← hd]; exact hk)
      rw [hH]
      exact ⟨e1, by rw [e2]; omega⟩)
    have HEnd := Lib.hid (show H d = b from by rw [hH, hd]; exact H_end hSt hG ha hFa)
    have HNe := Lib.hid (show ∀ k, k < d → H k ≠ b from fun k hk => by rw [hH]; exact H_ne hSt hG ha hFa (by rw [← hd]; exact hk))
    have HStp := Lib.hid (show ∀ k m, k < d → m < (nearL n C (H k)).length → (∀ q, q < m → far.getD ((nearL n C (H k)).getD q 0).toNat 0 ≠ far.getD (H k) 0 - 1) → far.getD ((nearL n C (H k)).getD m 0).toNat 0 = far.getD (H k) 0 - 1 → H (k + 1) = ((nearL n C (H k)).getD m 0).toNat from fun k m hk hm e1 e2 => by
      rw [hH] at hm e1 e2 ⊢
      exact H_step hSt hG ha hFa (by rw [← hd]; exact hk) hm e1 e2)
    have HSo := Lib.hid (show ∀ k, k < d → (∀ q, q < (nearL n C (H k)).length → far.getD ((nearL n C (H k)).getD q 0).toNat 0 ≠ far.getD (H k) 0 - 1) → False from fun k hk e1 => by
      rw [hH] at e1
      exact H_some hSt hG ha hFa (by rw [← hd]; exact hk) e1)
    have HH0 := Lib.hid (show H 0 = a by rw [hH]; rfl)
    have HFl := Lib.hid hSt.len
    have hdN : d < N := by have := hSt.up a ha; omega
    rw [← hH, ← hd] at hWay
    rw [hWay]
    have HG := Lib.hid hG
    clear hr hpw hv ha0 ha1 hb0 hb1 hn hC hN h1 h2 h3 h4 hG hSt hFa hlev hh hp hWay hfar hH hd
    go_enter Try.func14, Try.ntmps14
    go_wp2_with fail
    go_at_call 39
    refine HPb.out.mono ?_
    rintro e w1 ⟨rfl, hb1⟩
    have HB1 := Lib.hid hb1
    have hp0 : ¬ p < 0 := by omega
    clear hb1
    go_wp2_with fail
    go_at_call 44
    refine (HSp.out _ HB1.out).mono ?_
    rintro e w6 ⟨aF, cF, rfl, ho6, hb6⟩
    rw [HFl.out] at ho6 ⊢
    obtain ⟨gF, rfl⟩ := ho6.addr (by omega)
    have HRF := Lib.hid ho6
    have HB6 := Lib.hid (HB1.out.trans (hb6.mono HB1.out.size))
    clear ho6 hb6
    go_upto_region 6 with (fail)
    have HW0 := Lib.hid (Own.lit1 w6 w6.heap.size (a : Int) (Nat.le_refl _))
    have HBn := Lib.hid (Below.alloc (Below.refl w6.heap.size w6) (Nat.le_refl _) (.cells #[.int .i64 (a : Int)] 3))
    rw [← HH0.out]
    rw [← HH0.out] at HW0 HBn
    go_loopw [1, 10] (fun q v wr => ∃ k : Nat, k ≤ d ∧ q = .int .i64 (H k) ∧ Own wr w6.heap.size v (hbL H k) ∧ Below w6.heap.size w6 wr) (fun _ v _ => d + 1 - (match v with | .slice _ n _ => n | _ => 0))
    case atStart => exact ⟨0, Nat.zero_le _, rfl, HW0.out, HBn.out⟩
    case round =>
      obtain ⟨k, hk, rfl, ho, hbw⟩ := hrel
      clear HW0 HBn
      have HO := Lib.hid ho
      have HB := Lib.hid hbw
      obtain ⟨qa, qc, rfl⟩ := ho.shape
      rw [hbL_len] at HO ⊢
      clear ho hbw
      by_cases hkd : k < d
      · obtain ⟨e1, e2⟩ := HInv.out k (by omega)
        have e3 := HNe.out k hkd
        have HRf := Lib.hid (HRF.out.row.below HB.out)
        obtain ⟨i, hi⟩ : ∃ i, i = H k := ⟨_, rfl⟩
        have HI := Lib.hid hi
        rw [← hi] at e1 e2 e3 ⊢
        have HE2 := Lib.hid e2
        have d0 : ¬ (i : Int) = (b : Int) := by omega
        have d1 : (i : Int) < (N : Int) := by omega
        have HNk := Lib.hid (HNb.out i wr e1 (HB6.out.trans (HB.out.mono HB6.out.size)))
        obtain ⟨X, hX⟩ : ∃ X, X = nearL n C i := ⟨_, rfl⟩
        rw [← hX] at HNk
        have HXe := Lib.hid hX
        have HX4 := Lib.hid (show X.length ≤ 4 by rw [hX]; exact nearL_len n C i)
        clear hX hi e2
        go_wp2_with fail
        go_at_call 45
        refine HNk.out.mono ?_
        rintro e w7 ⟨aX, cX, rfl, hox, hb7⟩
        obtain ⟨x, hx⟩ : ∃ x, x = X.length := ⟨_, rfl⟩
        rw [← hx] at hox HX4 ⊢
        have HXl := Lib.hid hx
        have HRX := Lib.hid hox.row
        have HO7 := Lib.hid (HO.out.below hb7)
        have HRf7 := Lib.hid (HRf.out.below hb7)
        have HB7 := Lib.hid (HB.out.trans (hb7.mono HB.out.size))
        clear hx hox hb7 HNk HO HRf HB
        go_wp2_with fail
        go_loopw [12] (fun t wr => ∃ m : Nat, m ≤ x ∧ t = .int .i64 m ∧ (∀ q, q < m → far.getD (X.getD q 0).toNat 0 ≠ far.getD i 0 - 1) ∧ Below w7.heap.size w7 wr) (fun t _ => x - (intOf t).toNat)
        case atStart => exact ⟨0, Nat.zero_le _, rfl, fun q hq => absurd hq (by omega), Below.refl _ _⟩
        case round =>
          obtain ⟨m, hmx, rfl, hno, hbx⟩ := hrel
          have HNo := Lib.hid hno
          have HBx := Lib.hid hbx
          have hx4 := HX4.out
          clear hno hbx
          by_cases hlt : m < x
          · have hrx := HRX.out.below HBx.out
            obtain ⟨-, hcx⟩ := hrx.cells
            obtain ⟨gX, oX, rfl, hxm⟩ := hcx m hlt
            have hmem : X.getD m 0 ∈ nearL n C i := by rw [← HXe.out, List.getD_eq_getElem?_getD, List.getElem?_eq_getElem (by rw [← HXl.out]; exact hlt)]; simp
            obtain ⟨j, hj, hjN⟩ := HG.out.inb i e1 _ hmem
            rw [hj] at hxm
            have HJ := Lib.hid hj
            have hrf := HRf7.out.below HBx.out
            obtain ⟨-, hcf⟩ := hrf.cells
            obtain ⟨bf, of, hbf, kj⟩ := hcf j hjN
            simp only [Option.some.injEq, Addr.mk.injEq, and_true] at hbf
            obtain ⟨rfl, rfl⟩ := hbf
            obtain ⟨bf, of, hbf, ki⟩ := hcf i e1
            simp only [Option.some.injEq, Addr.mk.injEq, and_true] at hbf
            obtain ⟨rfl, rfl⟩ := hbf
            simp only [Nat.zero_add] at ki kj
            obtain ⟨y, hy⟩ : ∃ y, y = far.getD j 0 := ⟨_, rfl⟩
            obtain ⟨z, hz⟩ : ∃ z, z = far.getD i 0 := ⟨_, rfl⟩
            have hz1 : 0 ≤ z ∧ z < 49 := by have := HE2.out; omega
            have hwz : IntKind.i64.wrap (z - 1) = z - 1 := IntWalk.i64_in _ (by omega)
            rw [← hy] at kj
            rw [← hz] at ki
            have HY := Lib.hid hy
            have HZ := Lib.hid hz
            have d2 : (j : Int) < (N : Int) := by omega
            have d3 : (m : Int) < (x : Int) := by omega
            clear hrx hcx hmem hj hrf hcf hy hz
            by_cases heq : y = z - 1
            · skip
              go_upto_region 9 with (fail)
              refine wp_region_held_drew (S := fun wx => wx.cell? ⟨gF, j, none⟩ = some (.int .i64 y) ∧ wx.cell? ⟨gF, i, none⟩ = some (.int .i64 z) ∧ wx.cell? ⟨gX, oX + m, none⟩ = some (.int .i64 j)) (by kernel_rfl) (⟨kj, ki, hxm⟩) (fun hHeld => ?_)
              refine wpAnyH_take (i := 0) (oi := { dst := some 32, op := _, type := _, pos := _, after := _, guard := _ }) (v := ?_) rfl (by kernel_rfl) (by kernel_rfl) (by kernel_rfl) (fun _ _ _ h => h) (Or.inl ⟨by rfl, ?_⟩) (by assumption) ?_
              case refine_2 => ((intro w hSw; (try dsimp only at hSw); go_simp); try with_reducible rfl)
              try simp only [Act.put, List.setIfInBounds_toArray, List.set_cons_zero, List.set_cons_succ]
              refine wpAnyH_take (i := 1) (oi := { dst := some 33, op := _, type := _, pos := _, after := _, guard := _ }) (v := ?_) rfl (by kernel_rfl) (by kernel_rfl) (by kernel_rfl) (fun _ _ _ h => h) (Or.inl ⟨by rfl, ?_⟩) (by assumption) ?_
              case refine_2 => ((intro w hSw; (try dsimp only at hSw); go_simp); try with_reducible rfl)
              try simp only [Act.put, List.setIfInBounds_toArray, List.set_cons_zero, List.set_cons_succ]
              refine wpAnyH_take (i := 2) (oi := { dst := some 34, op := _, type := _, pos := _, after := _, guard := _ }) (v := ?_) rfl (by kernel_rfl) (by kernel_rfl) (by kernel_rfl) (fun _ _ _ h => h) (Or.inl ⟨by rfl, ?_⟩) (by assumption) ?_
              case refine_2 => ((intro w hSw; (try dsimp only at hSw); go_simp); try with_reducible rfl)
              try simp only [Act.put, List.setIfInBounds_toArray, List.set_cons_zero, List.set_cons_succ]
              refine wpAnyH_take (i := 3) (oi := { dst := some 35, op := _, type := _, pos := _, after := _, guard := _ }) (v := ?_) rfl (by kernel_rfl) (by kernel_rfl) (by kernel_rfl) (fun _ _ _ h => h) (Or.inl ⟨by rfl, ?_⟩) (by assumption) ?_
              case refine_2 => ((intro w hSw; (try dsimp only at hSw); go_simp); try with_reducible rfl)
              try simp only [Act.put, List.setIfInBounds_toArray, List.set_cons_zero, List.set_cons_succ]
              refine wpAnyH_take (i := 4) (oi := { dst := some 36, op := _, type := _, pos := _, after := _, guard := _ }) (v := ?_) rfl (by kernel_rfl) (by kernel_rfl) (by kernel_rfl) (fun _ _ _ h => h) (Or.inl ⟨by rfl, ?_⟩) (by assumption) ?_
              case refine_2 => ((intro w hSw; (try dsimp only at hSw); go_simp); try with_reducible rfl)
              try simp only [Act.put, List.setIfInBounds_toArray, List.set_cons_zero, List.set_cons_succ]
              refine wpAnyH_take (i := 5) (oi := { dst := some 37, op := _, type := _, pos := _, after := _, guard := _ }) (v := ?_) rfl (by kernel_rfl) (by kernel_rfl) (by kernel_rfl) (fun _ _ _ h => h) (Or.inl ⟨by rfl, ?_⟩) (by assumption) ?_
              case refine_2 => ((intro w hSw; (try dsimp only at hSw); go_simp); try with_reducible rfl)
              try simp only [Act.put, List.setIfInBounds_toArray, List.set_cons_zero, List.set_cons_succ]
              refine wpAnyH_take (i := 6) (oi := { dst := some 38, op := _, type := _, pos := _, after := _, guard := _ }) (v := ?_) rfl (by kernel_rfl) (by kernel_rfl) (by kernel_rfl) (fun _ _ _ h => h) (Or.inl ⟨by rfl, ?_⟩) (by assumption) ?_
              case refine_2 => ((intro w hSw; (try dsimp only at hSw); go_simp); try with_reducible rfl)
              try simp only [Act.put, List.setIfInBounds_toArray, List.set_cons_zero, List.set_cons_succ]
              refine wpAnyH_take (i := 7) (oi := { dst := some 39, op := _, type := _, pos := _, after := _, guard := _ }) (v := ?_) rfl (by kernel_rfl) (by kernel_rfl) (by kernel_rfl) (fun _ _ _ h => h) (Or.inl ⟨by rfl, ?_⟩) (by assumption) ?_
              case refine_2 => ((intro w hSw; (try dsimp only at hSw); go_simp); try with_reducible rfl)
              try simp only [Act.put, List.setIfInBounds_toArray, List.set_cons_zero, List.set_cons_succ]
              refine wpAnyH_take (i := 8) (oi := { dst := some 40, op := _, type := _, pos := _, after := _, guard := _ }) (v := ?_) rfl (by kernel_rfl) (by kernel_rfl) (by kernel_rfl) (fun _ _ _ h => h) (Or.inl ⟨by rfl, ?_⟩) (by assumption) ?_
              case refine_2 => ((intro w hSw; (try dsimp only at hSw); go_simp); try with_reducible rfl)
              try simp only [Act.put, List.setIfInBounds_toArray, List.set_cons_zero, List.set_cons_succ]
              refine wpAnyH_take (i := 9) (oi := { dst := some 41, op := _, type := _, pos := _, after := _, guard := _ }) (v := ?_) rfl (by kernel_rfl) (by kernel_rfl) (by kernel_rfl) (fun _ _ _ h => h) (Or.inl ⟨by rfl, ?_⟩) (by assumption) ?_
              case refine_2 => ((intro w hSw; (try dsimp only at hSw); go_simp); try with_reducible rfl)
              try simp only [Act.put, List.setIfInBounds_toArray, List.set_cons_zero, List.set_cons_succ]
              refine wpAnyH_take (i := 10) (oi := { dst := some 42, op := _, type := _, pos := _, after := _, guard := _ }) (v := ?_) rfl (by kernel_rfl) (by kernel_rfl) (by kernel_rfl) (fun _ _ _ h => h) (Or.inl ⟨by rfl, ?_⟩) (by assumption) ?_
              case refine_2 => ((intro w hSw; (try dsimp only at hSw); go_simp); try with_reducible rfl)
              try simp only [Act.put, List.setIfInBounds_toArray, List.set_cons_zero, List.set_cons_succ]
              refine wpAnyH_take (i := 11) (oi := { dst := some 43, op := _, type := _, pos := _, after := _, guard := _ }) (v := ?_) rfl (by kernel_rfl) (by kernel_rfl) (by kernel_rfl) (fun _ _ _ h => h) (Or.inl ⟨by rfl, ?_⟩) (by assumption) ?_
              case refine_2 => ((intro w hSw; (try dsimp only at hSw); go_simp); try with_reducible rfl)
              try simp only [Act.put, List.setIfInBounds_toArray, List.set_cons_zero, List.set_cons_succ]
              refine wpAnyH_take (i := 12) (oi := { dst := some 44, op := _, type := _, pos := _, after := _, guard := _ }) (v := ?_) rfl (by kernel_rfl) (by kernel_rfl) (by kernel_rfl) (fun _ _ _ h => h) (Or.inl ⟨by rfl, ?_⟩) (by assumption) ?_
              case refine_2 => ((intro w hSw; (try dsimp only at hSw); go_simp); try with_reducible rfl)
              try simp only [Act.put, List.setIfInBounds_toArray, List.set_cons_zero, List.set_cons_succ]
              refine wpAnyH_done (by kernel_rfl) ?_ _
              clear hHeld
              skip
              have HSt := Lib.hid (show H (k + 1) = j from by
                have e := HStp.out k m hkd (by rw [← HI.out, ← HXe.out, ← HXl.out]; exact hlt) (fun q hq => by rw [← HI.out, ← HXe.out]; exact HNo.out q hq) (by rw [← HI.out, ← HXe.out, HJ.out, Int.toNat_natCast, ← HY.out, ← HZ.out]; exact heq)
                rw [e, ← HI.out, ← HXe.out, HJ.out, Int.toNat_natCast])
              have HBd := Lib.hid (HBx.out.trans (show Below w7.heap.size wr wr.drew from (below_drewN (Below.refl wr.heap.size wr) 1).mono HBx.out.size))
              have HO8 := Lib.hid (HO7.out.below HBd.out)
              have HB8 := Lib.hid (HB7.out.trans (HBd.out.mono HB7.out.size))
              have hxm8 : wr.drew.cell? ⟨gX, oX + m, none⟩ = some (.int .i64 j) := hxm
              obtain ⟨W8, hW8⟩ : ∃ W8, W8 = wr.drew := ⟨_, rfl⟩
              rw [← hW8] at HBd HO8 HB8 hxm8 ⊢
              clear hW8 kj ki hxm heq
              have hbA := Below.alloc (Below.refl W8.heap.size W8) (Nat.le_refl _) (.cells #[.int .i64 (j : Int)] 3)
              have HO9 := Lib.hid (HO8.out.below hbA)
              have HB9 := Lib.hid (HB8.out.trans (hbA.mono HB8.out.size))
              have hsA := HB9.out.size
              have HNc := Lib.hid (show ∀ q, q < 1 → (W8.alloc (.cells #[.int .i64 (j : Int)] 3)).cell? ⟨W8.heap.size, 0 + q, none⟩ = some (.int .i64 (([(j : Int)] : List Int).getD q 0)) from fun q hq => by
                have : q = 0 := by omega
                subst this
                rw [cell_of_row _ W8.heap.size 0 _ _ (0, 0) (heap_alloc_new W8 _)]; rfl)
              have HLn := Lib.hid (show (hbL H k).length + 1 ≤ 1099511627776 by rw [hbL_len]; omega)
              clear hbA
              go_wp2_with (at_builtin; refine appN (by rfl) _ _ (by rfl) w6.heap.size (.slice qa (k + 1) qc) (hbL H k) [(j : Int)] W8.heap.size 0 1 1 ?h1 ?h2 ?h3 ?h4 ?h5 ?h6 ?h7 ?h8)
              case h1 => rfl
              case h2 => rfl
              case h3 => rfl
              case h4 => exact HNc.out
              case h5 => exact HO9.out
              case h6 => exact hsA
              case h7 => exact HLn.out
              intro v9 w9 ho9 hg9
              have HOz := Lib.hid (show Own w9 w6.heap.size v9 (hbL H (k + 1)) from by rw [hbL_succ, HSt.out]; exact ho9)
              have HBz := Lib.hid (below_own HB9.out HO9.out hsA hg9)
              obtain ⟨qa9, qc9, rfl⟩ := ho9.shape
              clear ho9 hg9
              go_wp2_with fail
              go_roundw
              case rel => exact ⟨k + 1, by omega, by rw [HSt.out], HOz.out, HBz.out⟩
              case measure => simp [hbL_len]; omega
            · skip
              go_upto_region 9 with (fail)
              refine wp_region_held_drew (S := fun wx => wx.cell? ⟨gF, j, none⟩ = some (.int .i64 y) ∧ wx.cell? ⟨gF, i, none⟩ = some (.int .i64 z) ∧ wx.cell? ⟨gX, oX + m, none⟩ = some (.int .i64 j)) (by kernel_rfl) (⟨kj, ki, hxm⟩) (fun hHeld => ?_)
              refine wpAnyH_take (i := 0) (oi := { dst := some 32, op := _, type := _, pos := _, after := _, guard := _ }) (v := ?_) rfl (by kernel_rfl) (by kernel_rfl) (by kernel_rfl) (fun _ _ _ h => h) (Or.inl ⟨by rfl, ?_⟩) (by assumption) ?_
              case refine_2 => ((intro w hSw; (try dsimp only at hSw); go_simp); try with_reducible rfl)
              try simp only [Act.put, List.setIfInBounds_toArray, List.set_cons_zero, List.set_cons_succ]
              refine wpAnyH_take (i := 1) (oi := { dst := some 33, op := _, type := _, pos := _, after := _, guard := _ }) (v := ?_) rfl (by kernel_rfl) (by kernel_rfl) (by kernel_rfl) (fun _ _ _ h => h) (Or.inl ⟨by rfl, ?_⟩) (by assumption) ?_
              case refine_2 => ((intro w hSw; (try dsimp only at hSw); go_simp); try with_reducible rfl)
              try simp only [Act.put, List.setIfInBounds_toArray, List.set_cons_zero, List.set_cons_succ]
              refine wpAnyH_take (i := 2) (oi := { dst := some 34, op := _, type := _, pos := _, after := _, guard := _ }) (v := ?_) rfl (by kernel_rfl) (by kernel_rfl) (by kernel_rfl) (fun _ _ _ h => h) (Or.inl ⟨by rfl, ?_⟩) (by assumption) ?_
              case refine_2 => ((intro w hSw; (try dsimp only at hSw); go_simp); try with_reducible rfl)
              try simp only [Act.put, List.setIfInBounds_toArray, List.set_cons_zero, List.set_cons_succ]
              refine wpAnyH_take (i := 3) (oi := { dst := some 35, op := _, type := _, pos := _, after := _, guard := _ }) (v := ?_) rfl (by kernel_rfl) (by kernel_rfl) (by kernel_rfl) (fun _ _ _ h => h) (Or.inl ⟨by rfl, ?_⟩) (by assumption) ?_
              case refine_2 => ((intro w hSw; (try dsimp only at hSw); go_simp); try with_reducible rfl)
              try simp only [Act.put, List.setIfInBounds_toArray, List.set_cons_zero, List.set_cons_succ]
              refine wpAnyH_take (i := 4) (oi := { dst := some 36, op := _, type := _, pos := _, after := _, guard := _ }) (v := ?_) rfl (by kernel_rfl) (by kernel_rfl) (by kernel_rfl) (fun _ _ _ h => h) (Or.inl ⟨by rfl, ?_⟩) (by assumption) ?_
              case refine_2 => ((intro w hSw; (try dsimp only at hSw); go_simp); try with_reducible rfl)
              try simp only [Act.put, List.setIfInBounds_toArray, List.set_cons_zero, List.set_cons_succ]
              refine wpAnyH_take (i := 5) (oi := { dst := some 37, op := _, type := _, pos := _, after := _, guard := _ }) (v := ?_) rfl (by kernel_rfl) (by kernel_rfl) (by kernel_rfl) (fun _ _ _ h => h) (Or.inl ⟨by rfl, ?_⟩) (by assumption) ?_
              case refine_2 => ((intro w hSw; (try dsimp only at hSw); go_simp); try with_reducible rfl)
              try simp only [Act.put, List.setIfInBounds_toArray, List.set_cons_zero, List.set_cons_succ]
              refine wpAnyH_take (i := 6) (oi := { dst := some 38, op := _, type := _, pos := _, after := _, guard := _ }) (v := ?_) rfl (by kernel_rfl) (by kernel_rfl) (by kernel_rfl) (fun _ _ _ h => h) (Or.inl ⟨by rfl, ?_⟩) (by assumption) ?_
              case refine_2 => ((intro w hSw; (try dsimp only at hSw); go_simp); try with_reducible rfl)
              try simp only [Act.put, List.setIfInBounds_toArray, List.set_cons_zero, List.set_cons_succ]
              refine wpAnyH_take (i := 7) (oi := { dst := some 39, op := _, type := _, pos := _, after := _, guard := _ }) (v := ?_) rfl (by kernel_rfl) (by kernel_rfl) (by kernel_rfl) (fun _ _ _ h => h) (Or.inl ⟨by rfl, ?_⟩) (by assumption) ?_
              case refine_2 => ((intro w hSw; (try dsimp only at hSw); go_simp); try with_reducible rfl)
              try simp only [Act.put, List.setIfInBounds_toArray, List.set_cons_zero, List.set_cons_succ]
              refine wpAnyH_take (i := 8) (oi := { dst := some 40, op := _, type := _, pos := _, after := _, guard := _ }) (v := ?_) rfl (by kernel_rfl) (by kernel_rfl) (by kernel_rfl) (fun _ _ _ h => h) (Or.inl ⟨by rfl, ?_⟩) (by assumption) ?_
              case refine_2 => ((intro w hSw; (try dsimp only at hSw); go_simp); try with_reducible rfl)
              try simp only [Act.put, List.setIfInBounds_toArray, List.set_cons_zero, List.set_cons_succ]
              refine wpAnyH_take (i := 9) (oi := { dst := some 41, op := _, type := _, pos := _, after := _, guard := _ }) (v := ?_) rfl (by kernel_rfl) (by kernel_rfl) (by kernel_rfl) (fun _ _ _ h => h) (Or.inl ⟨by rfl, ?_⟩) (by assumption) ?_
              case refine_2 => ((intro w hSw; (try dsimp only at hSw); go_simp); try with_reducible rfl)
              try simp only [Act.put, List.setIfInBounds_toArray, List.set_cons_zero, List.set_cons_succ]
              refine wpAnyH_take (i := 10) (oi := { dst := some 42, op := _, type := _, pos := _, after := _, guard := _ }) (v := ?_) rfl (by kernel_rfl) (by kernel_rfl) (by kernel_rfl) (fun _ _ _ h => h) (Or.inl ⟨by rfl, ?_⟩) (by assumption) ?_
              case refine_2 => ((intro w hSw; (try dsimp only at hSw); go_simp); try with_reducible rfl)
              try simp only [Act.put, List.setIfInBounds_toArray, List.set_cons_zero, List.set_cons_succ]
              refine wpAnyH_take (i := 11) (oi := { dst := some 43, op := _, type := _, pos := _, after := _, guard := _ }) (v := ?_) rfl (by kernel_rfl) (by kernel_rfl) (by kernel_rfl) (fun _ _ _ h => h) (Or.inl ⟨by rfl, ?_⟩) (by assumption) ?_
              case refine_2 => ((intro w hSw; (try dsimp only at hSw); go_simp); try with_reducible rfl)
              try simp only [Act.put, List.setIfInBounds_toArray, List.set_cons_zero, List.set_cons_succ]
              refine wpAnyH_take (i := 12) (oi := { dst := some 44, op := _, type := _, pos := _, after := _, guard := _ }) (v := ?_) rfl (by kernel_rfl) (by kernel_rfl) (by kernel_rfl) (fun _ _ _ h => h) (Or.inl ⟨by rfl, ?_⟩) (by assumption) ?_
              case refine_2 => ((intro w hSw; (try dsimp only at hSw); go_simp); try with_reducible rfl)
              try simp only [Act.put, List.setIfInBounds_toArray, List.set_cons_zero, List.set_cons_succ]
              refine wpAnyH_done (by kernel_rfl) ?_ _
              clear hHeld
              go_wp2_with fail
              go_roundw
              case rel => exact ⟨m + 1, by omega, by go_num, fun q hq => by by_cases e : q = m; subst e; rw [HJ.out, Int.toNat_natCast, ← HY.out, ← HZ.out]; exact heq; exact HNo.out q (by omega), HBx.out.trans (show Below w7.heap.size wr wr.drew from (below_drewN (Below.refl wr.heap.size wr) 1).mono HBx.out.size)⟩
              case measure => simp [intOf]; omega
          · exact (HSo.out k hkd (fun q hq => by rw [← HI.out, ← HXe.out] at hq ⊢; exact HNo.out q (by rw [← HXl.out] at hq; omega))).elim
      · have hkd2 : d = k := by omega
        subst hkd2
        have d0 : ((H d : Nat) : Int) = (b : Int) := by rw [HEnd.out]
        go_wp2_with fail
        go_ret2
        exact GivesRowB.mk (by rw [hbL_len]) (HO.out.mono HB6.out.size) (HB6.out.trans (HB.out.mono HB6.out.size))
theorem pwayL_len (g : List (List Int)) (a b : Int) : (pwayL g a b).length ≤ 50 := by
  unfold pwayL
  by_cases hpw : pwayB g a b = true
  · rw [if_pos hpw, way_len]
    unfold pwayB inG at hpw
    simp only [Bool.and_eq_true, decide_eq_true_eq] at hpw
    obtain ⟨hv, ⟨ha0, ha1⟩, ⟨hb0, hb1⟩⟩ := hpw
    obtain ⟨-, h2, -, h4⟩ := gval_rows hv
    have hN49 : g.length * colsG g ≤ 49 := Nat.mul_le_mul h2 h4
    have hS := (way_steps (grVal hv rfl rfl) (a := a.toNat) (b := b.toNat) (by omega) (by omega)).1.up a.toNat (by omega)
    omega
  · rw [if_neg hpw]; simp

end Go.Proofs.Ytkhhloeemecokaa
