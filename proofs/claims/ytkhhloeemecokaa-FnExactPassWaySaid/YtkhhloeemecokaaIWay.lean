/- Contract: PassWay of the program. -/
import Derived.Test.YtkhhloeemecokaaSteps
import Derived.Test.YtkhhloeemecokaaPlainWay
import Derived.Test.YtkhhloeemecokaaIPeak
import Derived.Test.YtkhhloeemecokaaFldYes
import Derived.Test.YtkhhloeemecokaaPlainPw
import Derived.Deep.RegionHeld3
import Derived.IntWalk
namespace Go.Proofs.Ytkhhloeemecokaa
open Go.RowKit
set_option linter.unusedVariables false

noncomputable def pwayL (g : List (List Int)) (a b : Int) : List Int := if pwayB g a b = true then wayL (g.length * colsG g) (nearL g.length (colsG g)) (hgtG g (colsG g)) a.toNat b.toNat else []
theorem GivesRowB.no {w w' : World} (hb : Below w.heap.size w w') : GivesRowB [] false w (.returned (.tuple #[.slice none 0 0, .bool false])) w' := ⟨none, 0, rfl, Own.nil _ _, hb⟩

set_option maxRecDepth 4000 in
set_option maxHeartbeats 4000000 in
theorem iway_in (s : Value) (zs : List Int) (n C N a b : Nat) (h : Nat → Int) (v : Value) (w : World) (hl : zs.length = N) (hN : N = n * C) (h1 : 1 ≤ n) (h2 : n ≤ 7) (h3 : 1 ≤ C) (h4 : C ≤ 7) (ha : a < N) (hb : b < N) (hh : h = fun i => zs.getD i 0) (hG : Gr N (nearL n C) h)
    (HF : Calls Try.prog 36 #[v] w fun e w' => ∃ G, e = .returned (.tuple #[.agg #[.int .i64 n, .int .i64 C, .slice (some ⟨G, 0, none⟩) N N], .bool true]) ∧ Own w' w.heap.size (.slice (some ⟨G, 0, none⟩) N N) zs ∧ Below w.heap.size w w') :
    Calls Try.prog 13 #[v, .int .i64 (a : Nat), .int .i64 (b : Nat)] w (GivesRowB (wayL N (nearL n C) h a b) true w) := by
  have hN49 : N ≤ 49 := by rw [hN]; exact Nat.mul_le_mul h2 h4
  obtain ⟨hSt, hFa⟩ := way_steps hG ha hb
  have hlev := (passV_is hG ha hb).top.2
  have HCe := Lib.hid (fun (i : Nat) (s : Value) (wr : World) (hq : Row wr s zs) => icell_any s zs n C N (i : Int) wr hq hl.symm)
  have HTa := Lib.hid (show decide (0 ≤ (a : Int) ∧ (a : Int) < (N : Int)) = true from decide_eq_true ⟨by omega, by omega⟩)
  have HTb := Lib.hid (show decide (0 ≤ (b : Int) ∧ (b : Int) < (N : Int)) = true from decide_eq_true ⟨by omega, by omega⟩)
  have HPa := Lib.hid (fun (s : Value) (wr : World) (hq : Row wr s zs) => passes_any s zs n C N a wr hq hl hN h1 h2 h3 h4 ha (by rw [← hh]; exact hG))
  have hPg : (passL N (nearL n C) h a).getD b 0 = passV (nearL n C) h a b := passL_get hb
  rw [← hh] at HPa
  obtain ⟨p, hp⟩ : ∃ p, p = passV (nearL n C) h a b := ⟨_, rfl⟩
  have hWay : wayL N (nearL n C) h a b = hbL (HB (nearL n C) (stepsL N (nearL n C) h p b) b a) ((stepsL N (nearL n C) h p b).getD a 0).toNat := by rw [hp]; rfl
  rw [← hp] at hSt hFa hlev hPg
  have HSp := Lib.hid (fun (s : Value) (wr : World) (hq : Row wr s zs) => steps_any s zs n C N b p wr hq hl hN h1 h2 h3 h4 hb h hh hG hlev)
  have HNb := Lib.hid (fun (s : Value) (i : Nat) (wr : World) (hi : i < N) => neighbors_any s i n C wr h1 h2 h3 h4 (by rw [← hN]; exact hi))
  obtain ⟨far, hfar⟩ : ∃ far, far = stepsL N (nearL n C) h p b := ⟨_, rfl⟩
  rw [← hfar] at hSt hFa hWay HSp
  obtain ⟨P, hP⟩ : ∃ P, P = passL N (nearL n C) h a := ⟨_, rfl⟩
  have HPl := Lib.hid (show P.length = N by rw [hP]; exact passL_len _ _ _ _)
  rw [← hP] at HPa hPg
  obtain ⟨H, hH⟩ : ∃ H, H = HB (nearL n C) far b a := ⟨_, rfl⟩
  obtain ⟨d, hd⟩ : ∃ d, d = (far.getD a 0).toNat := ⟨_, rfl⟩
  have HInv := Lib.hid (show ∀ k, k ≤ d → H k < N ∧ far.getD (H k) 0 = ((d - k : Nat) : Int) from fun k hk => by
    obtain ⟨e1, e2⟩ := H_inv hSt hG ha hFa k (by rw [← hd]; exact hk)
    rw [hH]
    exact ⟨e1, by rw [e2]; omega⟩)
  have HEnd := Lib.hid (show H d = b from by rw [hH, hd]; exact H_end hSt hG ha hFa)
  have HNe := Lib.hid (show ∀ k, k < d → H k ≠ b from fun k hk => by rw [hH]; exact H_ne hSt hG ha hFa (by rw [← hd]; exact hk))
  have HStp := Lib.hid (show ∀ k m, k < d → m < (nearL n C (H k)).length → (∀ q, q < m → far.getD ((nearL n C (H k)).getD q 0).toNat 0 ≠ far.getD (H k) 0 - 1) → far.getD ((nearL n C (H k)).getD m 0).toNat 0 = far.getD (H k) 0 - 1 → H (k + 1) = ((nearL n C (H k)).getD m 0).toNat from fun k m hk hm e1 e2 => by
    rw [hH] at hm e1 e2 ⊢
    exact H_step hSt hG ha hFa (by rw [← hd]; exact hk) hm e1 e2)
  have HSo := Lib.hid (show ∀ k, k < d → (∀ q, q < (nearL n C (H k)).length → far.getD ((nearL n C (H k)).getD q 0).toNat 0 ≠ far.getD (H k) 0 - 1) → False from fun k hk e1 => by
    rw [hH] at e1
    exact H_some hSt hG ha hFa (by rw [← hd]; exact hk) e1)
  have HH0 := Lib.hid (show H 0 = a by rw [hH]; rfl)
  have HFl := Lib.hid hSt.len
  have hdN : d < N := by have := hSt.up a ha; omega
  rw [← hH, ← hd] at hWay
  rw [hWay]
  have HF := Lib.hid HF
  have HG := Lib.hid hG
  have HPg := Lib.hid hPg
  clear hl hN h1 h2 h3 h4 hh hG hSt hFa hlev hp hWay hfar hP hH hd hPg s
  go_enter Try.func13, Try.ntmps13
  go_wp2_with fail
  go_at_call 36
  refine HF.out.mono ?_
  rintro e w1 ⟨G, rfl, ho, hb1⟩
  have HB1 := Lib.hid hb1
  have HS1 := Lib.hid (FSt.new (n := n) (C := C) ho.row)
  clear ho hb1
  go_upto_region 2 with (fail)
  obtain ⟨s, hs⟩ : ∃ s, s = Value.slice (some ⟨G, 0, none⟩) N N := ⟨_, rfl⟩
  rw [← hs] at HS1 ⊢
  obtain ⟨W1, hW1⟩ : ∃ W1, W1 = w1.alloc (.cells #[.int .i64 n, .int .i64 C, s] 49) := ⟨_, rfl⟩
  rw [← hW1] at HS1 ⊢
  clear hW1 hs
  obtain ⟨-, f0, f1, f2⟩ := HS1.out.fld.cells
  go_wp2_with fail
  go_at_call 37
  refine (HCe.out a s W1 HS1.out.row).mono ?_
  rintro e w2 ⟨rfl, hb2⟩
  rw [HTa.out]
  have HS2 := Lib.hid (HS1.out.below hb2)
  clear hb2 HS1 f0 f1 f2
  obtain ⟨-, f0, f1, f2⟩ := HS2.out.fld.cells
  go_wp2_with fail
  go_at_call 37
  refine (HCe.out b s w2 HS2.out.row).mono ?_
  rintro e w3 ⟨rfl, hb3⟩
  rw [HTb.out]
  have HS3 := Lib.hid (HS2.out.below hb3)
  clear hb3 HS2 f0 f1 f2
  go_upto_region 4 with (fail)
  obtain ⟨-, f0, f1, f2⟩ := HS3.out.fld.cells
  refine wp_region_held_drew (S := fun wx => wx.cell? ⟨w1.heap.size, 0, none⟩ = some (.int .i64 n) ∧ wx.cell? ⟨w1.heap.size, 1, none⟩ = some (.int .i64 C) ∧ wx.cell? ⟨w1.heap.size, 2, none⟩ = some s) (by kernel_rfl) (⟨f0, f1, f2⟩) (fun hHeld => ?_)
  refine wpAnyH_take (i := 0) (oi := { dst := some 34, op := _, type := _, pos := _, after := _, guard := _ }) (v := ?_) rfl (by kernel_rfl) (by kernel_rfl) (by kernel_rfl) (fun _ _ _ h => h) (Or.inl ⟨by rfl, ?_⟩) (by assumption) ?_
  case refine_2 => ((intro w hSw; (try dsimp only at hSw); go_simp); try with_reducible rfl)
  try simp only [Act.put, List.setIfInBounds_toArray, List.set_cons_zero, List.set_cons_succ]
  refine wpAnyH_take (i := 1) (oi := { dst := some 35, op := _, type := _, pos := _, after := _, guard := _ }) (v := ?_) rfl (by kernel_rfl) (by kernel_rfl) (by kernel_rfl) (fun _ _ _ h => h) (Or.inl ⟨by rfl, ?_⟩) (by assumption) ?_
  case refine_2 => ((intro w hSw; (try dsimp only at hSw); go_simp); try with_reducible rfl)
  try simp only [Act.put, List.setIfInBounds_toArray, List.set_cons_zero, List.set_cons_succ]
  refine wpAnyH_take (i := 2) (oi := { dst := some 36, op := _, type := _, pos := _, after := _, guard := _ }) (v := ?_) rfl (by kernel_rfl) (by kernel_rfl) (by kernel_rfl) (fun _ _ _ h => h) (Or.inl ⟨by rfl, ?_⟩) (by assumption) ?_
  case refine_2 => ((intro w hSw; (try dsimp only at hSw); go_simp); try with_reducible rfl)
  try simp only [Act.put, List.setIfInBounds_toArray, List.set_cons_zero, List.set_cons_succ]
  refine wpAnyH_take (i := 3) (oi := { dst := some 37, op := _, type := _, pos := _, after := _, guard := _ }) (v := ?_) rfl (by kernel_rfl) (by kernel_rfl) (by kernel_rfl) (fun _ _ _ h => h) (Or.inl ⟨by rfl, ?_⟩) (by assumption) ?_
  case refine_2 => ((intro w hSw; (try dsimp only at hSw); go_simp); try with_reducible rfl)
  try simp only [Act.put, List.setIfInBounds_toArray, List.set_cons_zero, List.set_cons_succ]
  refine wpAnyH_take (i := 5) (oi := { dst := some 39, op := _, type := _, pos := _, after := _, guard := _ }) (v := ?_) rfl (by kernel_rfl) (by kernel_rfl) (by kernel_rfl) (fun _ _ _ h => h) (Or.inl ⟨by rfl, ?_⟩) (by assumption) ?_
  case refine_2 => ((intro w hSw; (try dsimp only at hSw); go_simp); try with_reducible rfl)
  try simp only [Act.put, List.setIfInBounds_toArray, List.set_cons_zero, List.set_cons_succ]
  refine wpAnyH_ready (rs := [4]) (by kernel_rfl) (by simp) ?_
  refine AllReadyH.cons (o := { dst := some 38, op := _, type := _, pos := _, after := _, guard := _ }) rfl (fun K hK => ?_) AllReadyH.nil
  go_simp
  go_at_call 41
  have HS4 := Lib.hid (HS3.out.below (show Below w3.heap.size w3 w3.drew from below_drewN (Below.refl _ _) 1))
  refine (HPa.out s w3.drew HS4.out.row).mono ?_
  rintro e w5 ⟨aP, cP, rfl, ho5, hb5⟩
  rw [HPl.out] at ho5 ⊢
  obtain ⟨gP, rfl⟩ := ho5.addr (by omega)
  have kp := ho5.cellAt b hb
  rw [HPg.out] at kp
  have HS5 := Lib.hid (HS4.out.below hb5)
  have d5 : (b : Int) < (N : Int) := by omega
  clear f0 f1 f2 ho5 hb5 HS4 HS3
  obtain ⟨-, f0, f1, f2⟩ := HS5.out.fld.cells
  refine hK.out _ _ (⟨f0, f1, f2⟩) (fun hHeld => ?_)
  clear hK K
  try simp only [Act.put, List.setIfInBounds_toArray, List.set_cons_zero, List.set_cons_succ]
  refine wpAnyH_take (i := 6) (oi := { dst := some 40, op := _, type := _, pos := _, after := _, guard := _ }) (v := ?_) rfl (by kernel_rfl) (by kernel_rfl) (by kernel_rfl) (fun _ _ _ h => h) (Or.inl ⟨by rfl, ?_⟩) (by assumption) ?_
  case refine_2 => ((intro w hSw; (try dsimp only at hSw); go_simp); try with_reducible rfl)
  try simp only [Act.put, List.setIfInBounds_toArray, List.set_cons_zero, List.set_cons_succ]
  refine wpAnyH_ready (rs := [7]) (by kernel_rfl) (by simp) ?_
  refine AllReadyH.cons (o := { dst := some 41, op := _, type := _, pos := _, after := _, guard := _ }) rfl (fun K hK => ?_) AllReadyH.nil
  go_simp
  refine hK.out _ _ (⟨f0, f1, f2⟩) (fun hHeld => ?_)
  clear hK K
  try simp only [Act.put, List.setIfInBounds_toArray, List.set_cons_zero, List.set_cons_succ]
  refine wpAnyH_ready (rs := [8]) (by kernel_rfl) (by simp) ?_
  refine AllReadyH.cons (o := { dst := some 42, op := _, type := _, pos := _, after := _, guard := _ }) rfl (fun K hK => ?_) AllReadyH.nil
  go_simp
  go_at_call 42
  refine (HSp.out s w5 HS5.out.row).mono ?_
  rintro e w6 ⟨aF, cF, rfl, ho6, hb6⟩
  rw [HFl.out] at ho6 ⊢
  obtain ⟨gF, rfl⟩ := ho6.addr (by omega)
  have HRF := Lib.hid ho6
  have HS6 := Lib.hid (HS5.out.below hb6)
  clear f0 f1 f2 kp ho6 hb6
  obtain ⟨-, f0, f1, f2⟩ := HS6.out.fld.cells
  refine hK.out _ _ (⟨f0, f1, f2⟩) (fun hHeld => ?_)
  clear hK K
  try simp only [Act.put, List.setIfInBounds_toArray, List.set_cons_zero, List.set_cons_succ]
  refine wpAnyH_take (i := 9) (oi := { dst := some 10, op := _, type := _, pos := _, after := _, guard := _ }) (v := ?_) rfl (by kernel_rfl) (by kernel_rfl) (by kernel_rfl) (fun _ _ _ h => h) (Or.inl ⟨by rfl, ?_⟩) (by assumption) ?_
  case refine_2 => ((intro w hSw; (try dsimp only at hSw); go_simp); try with_reducible rfl)
  try simp only [Act.put, List.setIfInBounds_toArray, List.set_cons_zero, List.set_cons_succ]
  refine wpAnyH_done (by kernel_rfl) ?_ _
  clear hHeld f0 f1 f2 HS5
  go_upto_region 7 with (fail)
  have HW0 := Lib.hid (Own.lit1 w6 w6.heap.size (a : Int) (Nat.le_refl _))
  have HBn := Lib.hid (Below.alloc (Below.refl w6.heap.size w6) (Nat.le_refl _) (.cells #[.int .i64 (a : Int)] 3))
  rw [← HH0.out]
  rw [← HH0.out] at HW0 HBn
  go_loopw [11, 12] (fun v q wr => ∃ k : Nat, k ≤ d ∧ q = .int .i64 (H k) ∧ Own wr w6.heap.size v (hbL H k) ∧ Below w6.heap.size w6 wr) (fun v _ _ => d + 1 - (match v with | .slice _ n _ => n | _ => 0))
  case atStart => exact ⟨0, Nat.zero_le _, rfl, HW0.out, HBn.out⟩
  case round =>
    obtain ⟨k, hk, rfl, ho, hbw⟩ := hrel
    clear HW0 HBn
    have HO := Lib.hid ho
    have HB := Lib.hid hbw
    obtain ⟨qa, qc, rfl⟩ := ho.shape
    rw [hbL_len] at HO ⊢
    clear ho hbw
    by_cases hkd : k < d
    · obtain ⟨e1, e2⟩ := HInv.out k (by omega)
      have e3 := HNe.out k hkd
      have HS := Lib.hid (HS6.out.below HB.out)
      have HRf := Lib.hid (HRF.out.row.below HB.out)
      obtain ⟨i, hi⟩ : ∃ i, i = H k := ⟨_, rfl⟩
      have HI := Lib.hid hi
      rw [← hi] at e1 e2 e3 ⊢
      have HE2 := Lib.hid e2
      have d0 : ¬ (i : Int) = (b : Int) := by omega
      have d1 : (i : Int) < (N : Int) := by omega
      have HNk := Lib.hid (HNb.out s i wr e1)
      obtain ⟨X, hX⟩ : ∃ X, X = nearL n C i := ⟨_, rfl⟩
      rw [← hX] at HNk
      have HXe := Lib.hid hX
      have HX4 := Lib.hid (show X.length ≤ 4 by rw [hX]; exact nearL_len n C i)
      clear hX hi e2
      obtain ⟨-, f0, f1, f2⟩ := HS.out.fld.cells
      go_wp2_with fail
      go_at_call 43
      refine HNk.out.mono ?_
      rintro e w7 ⟨aX, cX, rfl, hox, hb7⟩
      obtain ⟨x, hx⟩ : ∃ x, x = X.length := ⟨_, rfl⟩
      rw [← hx] at hox HX4 ⊢
      have HXl := Lib.hid hx
      have HRX := Lib.hid hox.row
      have HO7 := Lib.hid (HO.out.below hb7)
      have HRf7 := Lib.hid (HRf.out.below hb7)
      have HB7 := Lib.hid (HB.out.trans (hb7.mono HB.out.size))
      clear hx hox hb7 f0 f1 f2 HNk HO HRf HB HS
      go_wp2_with fail
      go_loopw [12, 53] (fun hq t wr => ∃ m : Nat, m ≤ x ∧ hq = .int .i64 i ∧ t = .int .i64 m ∧ (∀ q, q < m → far.getD (X.getD q 0).toNat 0 ≠ far.getD i 0 - 1) ∧ Below w7.heap.size w7 wr) (fun _ t _ => x - (intOf t).toNat)
      case atStart => exact ⟨0, Nat.zero_le _, rfl, rfl, fun q hq => absurd hq (by omega), Below.refl _ _⟩
      case round =>
        obtain ⟨m, hmx, rfl, rfl, hno, hbx⟩ := hrel
        have HNo := Lib.hid hno
        have HBx := Lib.hid hbx
        have hx4 := HX4.out
        clear hno hbx
        by_cases hlt : m < x
        · have hrx := HRX.out.below HBx.out
          obtain ⟨-, hcx⟩ := hrx.cells
          obtain ⟨gX, oX, rfl, hxm⟩ := hcx m hlt
          have hmem : X.getD m 0 ∈ nearL n C i := by rw [← HXe.out, List.getD_eq_getElem?_getD, List.getElem?_eq_getElem (by rw [← HXl.out]; exact hlt)]; simp
          obtain ⟨j, hj, hjN⟩ := HG.out.inb i e1 _ hmem
          rw [hj] at hxm
          have HJ := Lib.hid hj
          have hrf := HRf7.out.below HBx.out
          obtain ⟨-, hcf⟩ := hrf.cells
          obtain ⟨bf, of, hbf, kj⟩ := hcf j hjN
          simp only [Option.some.injEq, Addr.mk.injEq, and_true] at hbf
          obtain ⟨rfl, rfl⟩ := hbf
          obtain ⟨bf, of, hbf, ki⟩ := hcf i e1
          simp only [Option.some.injEq, Addr.mk.injEq, and_true] at hbf
          obtain ⟨rfl, rfl⟩ := hbf
          simp only [Nat.zero_add] at ki kj
          obtain ⟨y, hy⟩ : ∃ y, y = far.getD j 0 := ⟨_, rfl⟩
          obtain ⟨z, hz⟩ : ∃ z, z = far.getD i 0 := ⟨_, rfl⟩
          have hz1 : 0 ≤ z ∧ z < 49 := by have := HE2.out; omega
          have hwz : IntKind.i64.wrap (z - 1) = z - 1 := IntWalk.i64_in _ (by omega)
          rw [← hy] at kj
          rw [← hz] at ki
          have HY := Lib.hid hy
          have HZ := Lib.hid hz
          have d2 : (j : Int) < (N : Int) := by omega
          have d3 : (m : Int) < (x : Int) := by omega
          clear hrx hcx hmem hj hrf hcf hy hz
          go_upto_region 11 with (fail)
          by_cases heq : y = z - 1
          · skip
            refine wp_region_held_drew (S := fun wx => wx.cell? ⟨gF, j, none⟩ = some (.int .i64 y) ∧ wx.cell? ⟨gF, i, none⟩ = some (.int .i64 z)) (by kernel_rfl) (⟨kj, ki⟩) (fun hHeld => ?_)
            refine wpAnyH_take (i := 0) (oi := { dst := some 57, op := _, type := _, pos := _, after := _, guard := _ }) (v := ?_) rfl (by kernel_rfl) (by kernel_rfl) (by kernel_rfl) (fun _ _ _ h => h) (Or.inl ⟨by rfl, ?_⟩) (by assumption) ?_
            case refine_2 => ((intro w hSw; (try dsimp only at hSw); go_simp); try with_reducible rfl)
            try simp only [Act.put, List.setIfInBounds_toArray, List.set_cons_zero, List.set_cons_succ]
            refine wpAnyH_take (i := 1) (oi := { dst := some 58, op := _, type := _, pos := _, after := _, guard := _ }) (v := ?_) rfl (by kernel_rfl) (by kernel_rfl) (by kernel_rfl) (fun _ _ _ h => h) (Or.inl ⟨by rfl, ?_⟩) (by assumption) ?_
            case refine_2 => ((intro w hSw; (try dsimp only at hSw); go_simp); try with_reducible rfl)
            try simp only [Act.put, List.setIfInBounds_toArray, List.set_cons_zero, List.set_cons_succ]
            refine wpAnyH_take (i := 2) (oi := { dst := some 59, op := _, type := _, pos := _, after := _, guard := _ }) (v := ?_) rfl (by kernel_rfl) (by kernel_rfl) (by kernel_rfl) (fun _ _ _ h => h) (Or.inl ⟨by rfl, ?_⟩) (by assumption) ?_
            case refine_2 => ((intro w hSw; (try dsimp only at hSw); go_simp); try with_reducible rfl)
            try simp only [Act.put, List.setIfInBounds_toArray, List.set_cons_zero, List.set_cons_succ]
            refine wpAnyH_take (i := 3) (oi := { dst := some 60, op := _, type := _, pos := _, after := _, guard := _ }) (v := ?_) rfl (by kernel_rfl) (by kernel_rfl) (by kernel_rfl) (fun _ _ _ h => h) (Or.inl ⟨by rfl, ?_⟩) (by assumption) ?_
            case refine_2 => ((intro w hSw; (try dsimp only at hSw); go_simp); try with_reducible rfl)
            try simp only [Act.put, List.setIfInBounds_toArray, List.set_cons_zero, List.set_cons_succ]
            refine wpAnyH_take (i := 4) (oi := { dst := some 61, op := _, type := _, pos := _, after := _, guard := _ }) (v := ?_) rfl (by kernel_rfl) (by kernel_rfl) (by kernel_rfl) (fun _ _ _ h => h) (Or.inl ⟨by rfl, ?_⟩) (by assumption) ?_
            case refine_2 => ((intro w hSw; (try dsimp only at hSw); go_simp); try with_reducible rfl)
            try simp only [Act.put, List.setIfInBounds_toArray, List.set_cons_zero, List.set_cons_succ]
            refine wpAnyH_take (i := 5) (oi := { dst := some 62, op := _, type := _, pos := _, after := _, guard := _ }) (v := ?_) rfl (by kernel_rfl) (by kernel_rfl) (by kernel_rfl) (fun _ _ _ h => h) (Or.inl ⟨by rfl, ?_⟩) (by assumption) ?_
            case refine_2 => ((intro w hSw; (try dsimp only at hSw); go_simp); try with_reducible rfl)
            try simp only [Act.put, List.setIfInBounds_toArray, List.set_cons_zero, List.set_cons_succ]
            refine wpAnyH_take (i := 6) (oi := { dst := some 63, op := _, type := _, pos := _, after := _, guard := _ }) (v := ?_) rfl (by kernel_rfl) (by kernel_rfl) (by kernel_rfl) (fun _ _ _ h => h) (Or.inl ⟨by rfl, ?_⟩) (by assumption) ?_
            case refine_2 => ((intro w hSw; (try dsimp only at hSw); go_simp); try with_reducible rfl)
            try simp only [Act.put, List.setIfInBounds_toArray, List.set_cons_zero, List.set_cons_succ]
            refine wpAnyH_take (i := 7) (oi := { dst := some 64, op := _, type := _, pos := _, after := _, guard := _ }) (v := ?_) rfl (by kernel_rfl) (by kernel_rfl) (by kernel_rfl) (fun _ _ _ h => h) (Or.inl ⟨by rfl, ?_⟩) (by assumption) ?_
            case refine_2 => ((intro w hSw; (try dsimp only at hSw); go_simp); try with_reducible rfl)
            try simp only [Act.put, List.setIfInBounds_toArray, List.set_cons_zero, List.set_cons_succ]
            refine wpAnyH_take (i := 8) (oi := { dst := some 65, op := _, type := _, pos := _, after := _, guard := _ }) (v := ?_) rfl (by kernel_rfl) (by kernel_rfl) (by kernel_rfl) (fun _ _ _ h => h) (Or.inl ⟨by rfl, ?_⟩) (by assumption) ?_
            case refine_2 => ((intro w hSw; (try dsimp only at hSw); go_simp); try with_reducible rfl)
            try simp only [Act.put, List.setIfInBounds_toArray, List.set_cons_zero, List.set_cons_succ]
            refine wpAnyH_take (i := 9) (oi := { dst := some 66, op := _, type := _, pos := _, after := _, guard := _ }) (v := ?_) rfl (by kernel_rfl) (by kernel_rfl) (by kernel_rfl) (fun _ _ _ h => h) (Or.inl ⟨by rfl, ?_⟩) (by assumption) ?_
            case refine_2 => ((intro w hSw; (try dsimp only at hSw); go_simp); try with_reducible rfl)
            try simp only [Act.put, List.setIfInBounds_toArray, List.set_cons_zero, List.set_cons_succ]
            refine wpAnyH_done (by kernel_rfl) ?_ _
            clear hHeld
            skip
            have HSt := Lib.hid (show H (k + 1) = j from by
              have e := HStp.out k m hkd (by rw [← HI.out, ← HXe.out, ← HXl.out]; exact hlt) (fun q hq => by rw [← HI.out, ← HXe.out]; exact HNo.out q hq) (by rw [← HI.out, ← HXe.out, HJ.out, Int.toNat_natCast, ← HY.out, ← HZ.out]; exact heq)
              rw [e, ← HI.out, ← HXe.out, HJ.out, Int.toNat_natCast])
            have HBd := Lib.hid (HBx.out.trans (show Below w7.heap.size wr wr.drew from (below_drewN (Below.refl wr.heap.size wr) 1).mono HBx.out.size))
            have HO8 := Lib.hid (HO7.out.below HBd.out)
            have HB8 := Lib.hid (HB7.out.trans (HBd.out.mono HB7.out.size))
            obtain ⟨W8, hW8⟩ : ∃ W8, W8 = wr.drew := ⟨_, rfl⟩
            rw [← hW8] at HBd HO8 HB8 ⊢
            clear hW8 kj ki hxm heq
            have hbA := Below.alloc (Below.refl W8.heap.size W8) (Nat.le_refl _) (.cells #[.int .i64 (j : Int)] 3)
            have HO9 := Lib.hid (HO8.out.below hbA)
            have HB9 := Lib.hid (HB8.out.trans (hbA.mono HB8.out.size))
            have hsA := HB9.out.size
            have HNc := Lib.hid (show ∀ q, q < 1 → (W8.alloc (.cells #[.int .i64 (j : Int)] 3)).cell? ⟨W8.heap.size, 0 + q, none⟩ = some (.int .i64 (([(j : Int)] : List Int).getD q 0)) from fun q hq => by
              have : q = 0 := by omega
              subst this
              rw [cell_of_row _ W8.heap.size 0 _ _ (0, 0) (heap_alloc_new W8 _)]; rfl)
            have HLn := Lib.hid (show (hbL H k).length + 1 ≤ 1099511627776 by rw [hbL_len]; omega)
            clear hbA
            go_wp2_with (at_builtin; refine appN (by rfl) _ _ (by rfl) w6.heap.size (.slice qa (k + 1) qc) (hbL H k) [(j : Int)] W8.heap.size 0 1 1 ?h1 ?h2 ?h3 ?h4 ?h5 ?h6 ?h7 ?h8)
            case h1 => rfl
            case h2 => rfl
            case h3 => rfl
            case h4 => exact HNc.out
            case h5 => exact HO9.out
            case h6 => exact hsA
            case h7 => exact HLn.out
            intro v9 w9 ho9 hg9
            have HOz := Lib.hid (show Own w9 w6.heap.size v9 (hbL H (k + 1)) from by rw [hbL_succ, HSt.out]; exact ho9)
            have HBz := Lib.hid (below_own HB9.out HO9.out hsA hg9)
            obtain ⟨qa9, qc9, rfl⟩ := ho9.shape
            clear ho9 hg9
            go_wp2_with fail
            go_roundw
            case rel => exact ⟨k + 1, by omega, by rw [HSt.out], HOz.out, HBz.out⟩
            case measure => simp [hbL_len]; omega
          · skip
            refine wp_region_held_drew (S := fun wx => wx.cell? ⟨gF, j, none⟩ = some (.int .i64 y) ∧ wx.cell? ⟨gF, i, none⟩ = some (.int .i64 z)) (by kernel_rfl) (⟨kj, ki⟩) (fun hHeld => ?_)
            refine wpAnyH_take (i := 0) (oi := { dst := some 57, op := _, type := _, pos := _, after := _, guard := _ }) (v := ?_) rfl (by kernel_rfl) (by kernel_rfl) (by kernel_rfl) (fun _ _ _ h => h) (Or.inl ⟨by rfl, ?_⟩) (by assumption) ?_
            case refine_2 => ((intro w hSw; (try dsimp only at hSw); go_simp); try with_reducible rfl)
            try simp only [Act.put, List.setIfInBounds_toArray, List.set_cons_zero, List.set_cons_succ]
            refine wpAnyH_take (i := 1) (oi := { dst := some 58, op := _, type := _, pos := _, after := _, guard := _ }) (v := ?_) rfl (by kernel_rfl) (by kernel_rfl) (by kernel_rfl) (fun _ _ _ h => h) (Or.inl ⟨by rfl, ?_⟩) (by assumption) ?_
            case refine_2 => ((intro w hSw; (try dsimp only at hSw); go_simp); try with_reducible rfl)
            try simp only [Act.put, List.setIfInBounds_toArray, List.set_cons_zero, List.set_cons_succ]
            refine wpAnyH_take (i := 2) (oi := { dst := some 59, op := _, type := _, pos := _, after := _, guard := _ }) (v := ?_) rfl (by kernel_rfl) (by kernel_rfl) (by kernel_rfl) (fun _ _ _ h => h) (Or.inl ⟨by rfl, ?_⟩) (by assumption) ?_
            case refine_2 => ((intro w hSw; (try dsimp only at hSw); go_simp); try with_reducible rfl)
            try simp only [Act.put, List.setIfInBounds_toArray, List.set_cons_zero, List.set_cons_succ]
            refine wpAnyH_take (i := 3) (oi := { dst := some 60, op := _, type := _, pos := _, after := _, guard := _ }) (v := ?_) rfl (by kernel_rfl) (by kernel_rfl) (by kernel_rfl) (fun _ _ _ h => h) (Or.inl ⟨by rfl, ?_⟩) (by assumption) ?_
            case refine_2 => ((intro w hSw; (try dsimp only at hSw); go_simp); try with_reducible rfl)
            try simp only [Act.put, List.setIfInBounds_toArray, List.set_cons_zero, List.set_cons_succ]
            refine wpAnyH_take (i := 4) (oi := { dst := some 61, op := _, type := _, pos := _, after := _, guard := _ }) (v := ?_) rfl (by kernel_rfl) (by kernel_rfl) (by kernel_rfl) (fun _ _ _ h => h) (Or.inl ⟨by rfl, ?_⟩) (by assumption) ?_
            case refine_2 => ((intro w hSw; (try dsimp only at hSw); go_simp); try with_reducible rfl)
            try simp only [Act.put, List.setIfInBounds_toArray, List.set_cons_zero, List.set_cons_succ]
            refine wpAnyH_take (i := 5) (oi := { dst := some 62, op := _, type := _, pos := _, after := _, guard := _ }) (v := ?_) rfl (by kernel_rfl) (by kernel_rfl) (by kernel_rfl) (fun _ _ _ h => h) (Or.inl ⟨by rfl, ?_⟩) (by assumption) ?_
            case refine_2 => ((intro w hSw; (try dsimp only at hSw); go_simp); try with_reducible rfl)
            try simp only [Act.put, List.setIfInBounds_toArray, List.set_cons_zero, List.set_cons_succ]
            refine wpAnyH_take (i := 6) (oi := { dst := some 63, op := _, type := _, pos := _, after := _, guard := _ }) (v := ?_) rfl (by kernel_rfl) (by kernel_rfl) (by kernel_rfl) (fun _ _ _ h => h) (Or.inl ⟨by rfl, ?_⟩) (by assumption) ?_
            case refine_2 => ((intro w hSw; (try dsimp only at hSw); go_simp); try with_reducible rfl)
            try simp only [Act.put, List.setIfInBounds_toArray, List.set_cons_zero, List.set_cons_succ]
            refine wpAnyH_take (i := 7) (oi := { dst := some 64, op := _, type := _, pos := _, after := _, guard := _ }) (v := ?_) rfl (by kernel_rfl) (by kernel_rfl) (by kernel_rfl) (fun _ _ _ h => h) (Or.inl ⟨by rfl, ?_⟩) (by assumption) ?_
            case refine_2 => ((intro w hSw; (try dsimp only at hSw); go_simp); try with_reducible rfl)
            try simp only [Act.put, List.setIfInBounds_toArray, List.set_cons_zero, List.set_cons_succ]
            refine wpAnyH_take (i := 8) (oi := { dst := some 65, op := _, type := _, pos := _, after := _, guard := _ }) (v := ?_) rfl (by kernel_rfl) (by kernel_rfl) (by kernel_rfl) (fun _ _ _ h => h) (Or.inl ⟨by rfl, ?_⟩) (by assumption) ?_
            case refine_2 => ((intro w hSw; (try dsimp only at hSw); go_simp); try with_reducible rfl)
            try simp only [Act.put, List.setIfInBounds_toArray, List.set_cons_zero, List.set_cons_succ]
            refine wpAnyH_take (i := 9) (oi := { dst := some 66, op := _, type := _, pos := _, after := _, guard := _ }) (v := ?_) rfl (by kernel_rfl) (by kernel_rfl) (by kernel_rfl) (fun _ _ _ h => h) (Or.inl ⟨by rfl, ?_⟩) (by assumption) ?_
            case refine_2 => ((intro w hSw; (try dsimp only at hSw); go_simp); try with_reducible rfl)
            try simp only [Act.put, List.setIfInBounds_toArray, List.set_cons_zero, List.set_cons_succ]
            refine wpAnyH_done (by kernel_rfl) ?_ _
            clear hHeld
            go_wp2_with fail
            go_roundw
            case rel => exact ⟨m + 1, by omega, rfl, by go_num, fun q hq => by by_cases e : q = m; subst e; rw [HJ.out, Int.toNat_natCast, ← HY.out, ← HZ.out]; exact heq; exact HNo.out q (by omega), HBx.out.trans (show Below w7.heap.size wr wr.drew from (below_drewN (Below.refl wr.heap.size wr) 1).mono HBx.out.size)⟩
            case measure => simp [intOf]; omega
        · exact (HSo.out k hkd (fun q hq => by rw [← HI.out, ← HXe.out] at hq ⊢; exact HNo.out q (by rw [← HXl.out] at hq; omega))).elim
    · have hkd2 : d = k := by omega
      subst hkd2
      have d0 : ((H d : Nat) : Int) = (b : Int) := by rw [HEnd.out]
      go_wp2_with fail
      go_ret2
      exact GivesRowB.mk (by rw [hbL_len]) (HO.out.mono (Nat.le_trans HB1.out.size (HS6.out.bel.size))) (HB1.out.trans ((HS6.out.bel.trans (HB.out.mono HS6.out.bel.size)).mono HB1.out.size))

end Go.Proofs.Ytkhhloeemecokaa
