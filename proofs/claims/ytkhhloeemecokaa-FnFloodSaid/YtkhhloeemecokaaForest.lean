/- Contracts: newForest, root and join of the program's forest. -/
import Derived.Test.YtkhhloeemecokaaPlainUF
import Derived.Test.YtkhhloeemecokaaPasses
import Derived.Test.YtkhhloeemecokaaPlainG
import Derived.Deep.RegionHeld3
import Derived.Deep.Cut
namespace Go.Proofs.Ytkhhloeemecokaa
open Go.RowKit
set_option linter.unusedVariables false

/-- The forest's block and its row. -/
structure FrAt (B Fb U N : Nat) (l : List Int) (w : World) : Prop where
  blk : w.heap[Fb]? = some (.cells #[.slice (some ⟨U, 0, none⟩) N N] 82 (0, 0))
  own : Own w B (.slice (some ⟨U, 0, none⟩) N N) l
  ne : Fb ≠ U
  le : B ≤ Fb
theorem FrAt.cell0 {B Fb U N : Nat} {l : List Int} {w : World} (h : FrAt B Fb U N l w) : w.cell? ⟨Fb, 0, none⟩ = some (.slice (some ⟨U, 0, none⟩) N N) := by rw [cell_of_row _ Fb 0 _ _ (0, 0) h.blk]; rfl
theorem FrAt.store {B Fb U N : Nat} {l : List Int} {w : World} (h : FrAt B Fb U N l w) (i : Nat) (x : Int) : FrAt B Fb U N (l.set i x) (w.setCell ⟨U, i, none⟩ (.int .i64 x)) ∧ w.grownBy (w.setCell ⟨U, i, none⟩ (.int .i64 x)) (some U) := by
  have h1 := h.own.store i x
  exact ⟨⟨(heap_setCell_other w ⟨U, i, none⟩ Fb _ (by have := h.ne; simpa using this)).trans h.blk, h1.1, h.ne, h.le⟩, h1.2⟩
theorem FrAt.below {B Fb U N : Nat} {l : List Int} {w w' : World} (h : FrAt B Fb U N l w) (hb : Below w.heap.size w w') : FrAt B Fb U N l w' :=
  ⟨(hb.block Fb (Array.getElem?_eq_some_iff.1 h.blk).1).trans h.blk, h.own.below hb, h.ne, h.le⟩
/-- What root gives. -/
def GivesRoot (B Fb U N : Nat) (ρ : Nat → Nat) (r : Nat) (w : World) (e : Ending) (w' : World) : Prop :=
  ∃ l', e = .returned (.int .i64 (r : Nat)) ∧ FrAt B Fb U N l' w' ∧ HasR N l' ρ ∧ w.grownBy w' (some U)
set_option maxRecDepth 4000 in
set_option maxHeartbeats 4000000 in
theorem root_any (B Fb U N i : Nat) (l : List Int) (ρ : Nat → Nat) (w : World) (hf : FrAt B Fb U N l w) (hh : HasR N l ρ) (hi : i < N) (hN : N ≤ 49) :
    Calls Try.prog 64 #[.pointer (some ⟨Fb, 0, none⟩), .int .i64 (i : Nat)] w (GivesRoot B Fb U N ρ (ρ i) w) := by
  have HF := Lib.hid hf
  have HH := Lib.hid hh
  clear hf hh
  obtain ⟨r, hr⟩ : ∃ r, r = ρ i := ⟨_, rfl⟩
  rw [← hr]
  have HR := Lib.hid hr
  clear hr
  go_enter Try.func64, Try.ntmps64
  go_wp2_with fail
  go_loopw [1] (fun q wr => ∃ (j : Nat) (l' : List Int), j < N ∧ q = .int .i64 j ∧ ρ j = r ∧ FrAt B Fb U N l' wr ∧ HasR N l' ρ ∧ w.grownBy wr (some U)) (fun q _ => (intOf q).toNat)
  case atStart => exact ⟨i, l, hi, rfl, HR.out.symm, HF.out, HH.out, grownBy_refl _ _⟩
  case round =>
    obtain ⟨j, l', hj, rfl, hrj, hf, hh, hg⟩ := hrel
    clear HF HH
    have HF := Lib.hid hf
    have HH := Lib.hid hh
    have HG := Lib.hid hg
    have HRj := Lib.hid hrj
    clear hf hh hg hrj
    have q0 := HF.out.cell0
    obtain ⟨u, hu⟩ : ∃ u, u = upN l' j := ⟨_, rfl⟩
    have cj := HF.out.own.cellAt j hj
    rw [(HH.out.up j hj).1, ← hu] at cj
    have huj : u ≤ j := by rw [hu]; exact (HH.out.up j hj).2
    have HU := Lib.hid hu
    have d1 : (j : Int) < (N : Int) := by omega
    clear hu
    by_cases huj2 : u = j
    · have hs : r = j := by rw [← HRj.out]; exact HH.out.self hj (by rw [← HU.out]; exact huj2)
      subst huj2
      go_wp2_with fail
      go_ret
      exact ⟨l', (by subst hs; rfl), HF.out, HH.out, HG.out⟩
    · have d2 : ¬ (u : Int) = (j : Int) := by omega
      have huN : u < N := by omega
      obtain ⟨v, hv⟩ : ∃ v, v = upN l' u := ⟨_, rfl⟩
      have cu := HF.out.own.cellAt u huN
      rw [(HH.out.up u huN).1, ← hv] at cu
      have hvu : v ≤ u := by rw [hv]; exact (HH.out.up u huN).2
      have kf := HF.out.own.frozenAt j
      have d3 : (u : Int) < (N : Int) := by omega
      have HFs := Lib.hid (HF.out.store j (v : Int))
      have HHs := Lib.hid (show HasR N (l'.set j (v : Int)) ρ from by
        have := HH.out.halve hj (by rw [← HU.out]; exact huj2)
        rw [← HU.out, ← hv] at this
        exact this)
      have HRv := Lib.hid (show ρ v = r from by rw [hv, HH.out.next huN, HU.out, HH.out.next hj]; exact HRj.out)
      have HSc := Lib.hid (show (wr.setCell ⟨U, j, none⟩ (.int .i64 (v : Int))).cell? ⟨U, u, none⟩ = some (.int .i64 (v : Int)) from by
        rw [HFs.out.1.own.cellAt u huN, set_get (by rw [HH.out.len]; exact hj), if_neg (fun e => huj2 e.symm), (HH.out.up u huN).1, ← hv])
      have HSj := Lib.hid (show (wr.setCell ⟨U, j, none⟩ (.int .i64 (v : Int))).cell? ⟨U, j, none⟩ = some (.int .i64 (v : Int)) from by
        rw [HFs.out.1.own.cellAt j hj, set_get (by rw [HH.out.len]; exact hj), if_pos rfl])
      clear hv
      go_upto_region 2 with (fail)
      refine wp_region_held_drew (S := fun wx => wx.cell? ⟨Fb, 0, none⟩ = some (.slice (some ⟨U, 0, none⟩) N N) ∧ wx.cell? ⟨U, u, none⟩ = some (.int .i64 (v : Int))) (by kernel_rfl) (⟨q0, cu⟩) (fun hHeld => ?_)
      refine wpAnyH_take (i := 0) (oi := { dst := some 14, op := _, type := _, pos := _, after := _, guard := _ }) (v := ?_) rfl (by kernel_rfl) (by kernel_rfl) (by kernel_rfl) (fun _ _ _ h => h) (Or.inl ⟨by rfl, ?_⟩) (by assumption) ?_
      case refine_2 => ((intro w hSw; (try dsimp only at hSw); go_simp); try with_reducible rfl)
      try simp only [Act.put, List.setIfInBounds_toArray, List.set_cons_zero, List.set_cons_succ]
      refine wpAnyH_take (i := 1) (oi := { dst := some 15, op := _, type := _, pos := _, after := _, guard := _ }) (v := ?_) rfl (by kernel_rfl) (by kernel_rfl) (by kernel_rfl) (fun _ _ _ h => h) (Or.inl ⟨by rfl, ?_⟩) (by assumption) ?_
      case refine_2 => ((intro w hSw; (try dsimp only at hSw); go_simp); try with_reducible rfl)
      try simp only [Act.put, List.setIfInBounds_toArray, List.set_cons_zero, List.set_cons_succ]
      refine wpAnyH_take (i := 2) (oi := { dst := some 16, op := _, type := _, pos := _, after := _, guard := _ }) (v := ?_) rfl (by kernel_rfl) (by kernel_rfl) (by kernel_rfl) (fun _ _ _ h => h) (Or.inl ⟨by rfl, ?_⟩) (by assumption) ?_
      case refine_2 => ((intro w hSw; (try dsimp only at hSw); go_simp); try with_reducible rfl)
      try simp only [Act.put, List.setIfInBounds_toArray, List.set_cons_zero, List.set_cons_succ]
      refine wpAnyH_take (i := 3) (oi := { dst := some 17, op := _, type := _, pos := _, after := _, guard := _ }) (v := ?_) rfl (by kernel_rfl) (by kernel_rfl) (by kernel_rfl) (fun _ _ _ h => h) (Or.inl ⟨by rfl, ?_⟩) (by assumption) ?_
      case refine_2 => ((intro w hSw; (try dsimp only at hSw); go_simp); try with_reducible rfl)
      try simp only [Act.put, List.setIfInBounds_toArray, List.set_cons_zero, List.set_cons_succ]
      refine wpAnyH_take (i := 4) (oi := { dst := some 18, op := _, type := _, pos := _, after := _, guard := _ }) (v := ?_) rfl (by kernel_rfl) (by kernel_rfl) (by kernel_rfl) (fun _ _ _ h => h) (Or.inl ⟨by rfl, ?_⟩) (by assumption) ?_
      case refine_2 => ((intro w hSw; (try dsimp only at hSw); go_simp); try with_reducible rfl)
      try simp only [Act.put, List.setIfInBounds_toArray, List.set_cons_zero, List.set_cons_succ]
      refine wpAnyH_take (i := 5) (oi := { dst := some 19, op := _, type := _, pos := _, after := _, guard := _ }) (v := ?_) rfl (by kernel_rfl) (by kernel_rfl) (by kernel_rfl) (fun _ _ _ h => h) (Or.inl ⟨by rfl, ?_⟩) (by assumption) ?_
      case refine_2 => ((intro w hSw; (try dsimp only at hSw); go_simp); try with_reducible rfl)
      try simp only [Act.put, List.setIfInBounds_toArray, List.set_cons_zero, List.set_cons_succ]
      refine wpAnyH_take (i := 6) (oi := { dst := some 20, op := _, type := _, pos := _, after := _, guard := _ }) (v := ?_) rfl (by kernel_rfl) (by kernel_rfl) (by kernel_rfl) (fun _ _ _ h => h) (Or.inl ⟨by rfl, ?_⟩) (by assumption) ?_
      case refine_2 => ((intro w hSw; (try dsimp only at hSw); go_simp); try with_reducible rfl)
      try simp only [Act.put, List.setIfInBounds_toArray, List.set_cons_zero, List.set_cons_succ]
      refine wpAnyH_take (i := 7) (oi := { dst := some 21, op := _, type := _, pos := _, after := _, guard := _ }) (v := ?_) rfl (by kernel_rfl) (by kernel_rfl) (by kernel_rfl) (fun _ _ _ h => h) (Or.inl ⟨by rfl, ?_⟩) (by assumption) ?_
      case refine_2 => ((intro w hSw; (try dsimp only at hSw); go_simp); try with_reducible rfl)
      try simp only [Act.put, List.setIfInBounds_toArray, List.set_cons_zero, List.set_cons_succ]
      refine wpAnyH_take (i := 8) (oi := { dst := some 22, op := _, type := _, pos := _, after := _, guard := _ }) (v := ?_) rfl (by kernel_rfl) (by kernel_rfl) (by kernel_rfl) (fun _ _ _ h => h) (Or.inl ⟨by rfl, ?_⟩) (by assumption) ?_
      case refine_2 => ((intro w hSw; (try dsimp only at hSw); go_simp); try with_reducible rfl)
      try simp only [Act.put, List.setIfInBounds_toArray, List.set_cons_zero, List.set_cons_succ]
      refine wpAnyH_take (i := 9) (oi := { dst := some 23, op := _, type := _, pos := _, after := _, guard := _ }) (v := ?_) rfl (by kernel_rfl) (by kernel_rfl) (by kernel_rfl) (fun _ _ _ h => h) (Or.inl ⟨by rfl, ?_⟩) (by assumption) ?_
      case refine_2 => ((intro w hSw; (try dsimp only at hSw); go_simp); try with_reducible rfl)
      try simp only [Act.put, List.setIfInBounds_toArray, List.set_cons_zero, List.set_cons_succ]
      refine wpAnyH_take (i := 10) (oi := { dst := some 24, op := _, type := _, pos := _, after := _, guard := _ }) (v := ?_) rfl (by kernel_rfl) (by kernel_rfl) (by kernel_rfl) (fun _ _ _ h => h) (Or.inl ⟨by rfl, ?_⟩) (by assumption) ?_
      case refine_2 => ((intro w hSw; (try dsimp only at hSw); go_simp); try with_reducible rfl)
      try simp only [Act.put, List.setIfInBounds_toArray, List.set_cons_zero, List.set_cons_succ]
      refine wpAnyH_take (i := 11) (oi := { dst := some 25, op := _, type := _, pos := _, after := _, guard := _ }) (v := ?_) rfl (by kernel_rfl) (by kernel_rfl) (by kernel_rfl) (fun _ _ _ h => h) (Or.inl ⟨by rfl, ?_⟩) (by assumption) ?_
      case refine_2 => ((intro w hSw; (try dsimp only at hSw); go_simp); try with_reducible rfl)
      try simp only [Act.put, List.setIfInBounds_toArray, List.set_cons_zero, List.set_cons_succ]
      refine wpAnyH_take (i := 12) (oi := { dst := some 26, op := _, type := _, pos := _, after := _, guard := _ }) (v := ?_) rfl (by kernel_rfl) (by kernel_rfl) (by kernel_rfl) (fun _ _ _ h => h) (Or.inl ⟨by rfl, ?_⟩) (by assumption) ?_
      case refine_2 => ((intro w hSw; (try dsimp only at hSw); go_simp); try with_reducible rfl)
      try simp only [Act.put, List.setIfInBounds_toArray, List.set_cons_zero, List.set_cons_succ]
      refine wpAnyH_take (i := 13) (oi := { dst := some 27, op := _, type := _, pos := _, after := _, guard := _ }) (v := ?_) rfl (by kernel_rfl) (by kernel_rfl) (by kernel_rfl) (fun _ _ _ h => h) (Or.inl ⟨by rfl, ?_⟩) (by assumption) ?_
      case refine_2 => ((intro w hSw; (try dsimp only at hSw); go_simp); try with_reducible rfl)
      try simp only [Act.put, List.setIfInBounds_toArray, List.set_cons_zero, List.set_cons_succ]
      refine wpAnyH_take (i := 14) (oi := { dst := some 28, op := _, type := _, pos := _, after := _, guard := _ }) (v := ?_) rfl (by kernel_rfl) (by kernel_rfl) (by kernel_rfl) (fun _ _ _ h => h) (Or.inl ⟨by rfl, ?_⟩) (by assumption) ?_
      case refine_2 => ((intro w hSw; (try dsimp only at hSw); go_simp); try with_reducible rfl)
      try simp only [Act.put, List.setIfInBounds_toArray, List.set_cons_zero, List.set_cons_succ]
      refine wpAnyH_ready (rs := [15]) (by kernel_rfl) (by simp) ?_
      refine AllReadyH.cons (o := { dst := some 29, op := _, type := _, pos := _, after := _, guard := _ }) rfl (fun K hK => ?_) AllReadyH.nil
      go_simp
      refine hK.out _ _ (⟨q0, cu⟩) (fun hHeld => ?_)
      clear hK K
      try simp only [Act.put, List.setIfInBounds_toArray, List.set_cons_zero, List.set_cons_succ]
      refine wpAnyH_take (i := 16) (oi := { dst := some 30, op := _, type := _, pos := _, after := _, guard := _ }) (v := ?_) rfl (by kernel_rfl) (by kernel_rfl) (by kernel_rfl) (fun _ _ _ h => h) (Or.inl ⟨by rfl, ?_⟩) (by assumption) ?_
      case refine_2 => ((intro w hSw; (try dsimp only at hSw); go_simp); try with_reducible rfl)
      try simp only [Act.put, List.setIfInBounds_toArray, List.set_cons_zero, List.set_cons_succ]
      refine wpAnyH_take (i := 17) (oi := { dst := some 31, op := _, type := _, pos := _, after := _, guard := _ }) (v := ?_) rfl (by kernel_rfl) (by kernel_rfl) (by kernel_rfl) (fun _ _ _ h => h) (Or.inl ⟨by rfl, ?_⟩) (by assumption) ?_
      case refine_2 => ((intro w hSw; (try dsimp only at hSw); go_simp); try with_reducible rfl)
      try simp only [Act.put, List.setIfInBounds_toArray, List.set_cons_zero, List.set_cons_succ]
      refine wpAnyH_take (i := 18) (oi := { dst := some 32, op := _, type := _, pos := _, after := _, guard := _ }) (v := ?_) rfl (by kernel_rfl) (by kernel_rfl) (by kernel_rfl) (fun _ _ _ h => h) (Or.inl ⟨by rfl, ?_⟩) (by assumption) ?_
      case refine_2 => ((intro w hSw; (try dsimp only at hSw); go_simp); try with_reducible rfl)
      try simp only [Act.put, List.setIfInBounds_toArray, List.set_cons_zero, List.set_cons_succ]
      refine wpAnyH_ready (rs := [19]) (by kernel_rfl) (by simp) ?_
      refine AllReadyH.cons (o := { dst := none, op := _, type := _, pos := _, after := _, guard := _ }) rfl (fun K hK => ?_) AllReadyH.nil
      go_simp
      refine hK.out _ _ (⟨HFs.out.1.cell0, HSc.out⟩) (fun hHeld => ?_)
      clear hK K
      try simp only [Act.put, List.setIfInBounds_toArray, List.set_cons_zero, List.set_cons_succ]
      refine wpAnyH_done (by kernel_rfl) ?_ _
      clear hHeld
      skip
      obtain ⟨W5, hW5⟩ : ∃ W5, W5 = (wr.setCell ⟨U, j, none⟩ (.int .i64 (v : Int))).drew := ⟨_, rfl⟩
      rw [← hW5]
      have hbd : Below (wr.setCell ⟨U, j, none⟩ (.int .i64 (v : Int))).heap.size (wr.setCell ⟨U, j, none⟩ (.int .i64 (v : Int))) W5 := by rw [hW5]; exact below_drewN (Below.refl _ _) 1
      have HF5 := Lib.hid (HFs.out.1.below hbd)
      have HG5 := Lib.hid (grownBy_trans (grownBy_trans HG.out HFs.out.2) (grownBy_of_below hbd (some U)))
      have q5 := HF5.out.cell0
      have c5 := (hbd.cell (p := ⟨U, j, none⟩) (World.block_lt_of_cell? _ _ HSj.out)).trans HSj.out
      clear hW5 hbd q0 cj cu kf HSc HSj HFs
      go_wp2_with fail
      go_roundw
      case rel => exact ⟨v, l'.set j (v : Int), by omega, rfl, HRv.out, HF5.out, HHs.out, HG5.out⟩
      case measure => simp [intOf]; omega
set_option maxHeartbeats 1000000 in
theorem join_any (B Fb U N a b : Nat) (l : List Int) (ρ : Nat → Nat) (w : World) (hf : FrAt B Fb U N l w) (hh : HasR N l ρ) (ha : a < N) (hb : b < N) (hN : N ≤ 49) :
    Calls Try.prog 63 #[.pointer (some ⟨Fb, 0, none⟩), .int .i64 (a : Nat), .int .i64 (b : Nat)] w fun e w' => ∃ l', e = .returned (.tuple #[]) ∧ FrAt B Fb U N l' w' ∧ HasR N l' (joinR ρ a b) ∧ w.grownBy w' (some U) := by
  have HA := Lib.hid (root_any B Fb U N a l ρ w hf hh ha hN)
  have HBt := Lib.hid (fun (l : List Int) (w : World) (hf : FrAt B Fb U N l w) (hh : HasR N l ρ) => root_any B Fb U N b l ρ w hf hh hb hN)
  have hra : ρ a < N := by have := hh.le ha; omega
  have hrb : ρ b < N := by have := hh.le hb; omega
  have HJ := Lib.hid (show (ρ a < ρ b → joinR ρ a b = fun j => if ρ j = ρ b then ρ a else ρ j) ∧ (¬ ρ a < ρ b → joinR ρ a b = fun j => if ρ j = ρ a then ρ b else ρ j) from ⟨fun h => by funext j; unfold joinR; rw [if_pos h], fun h => by funext j; unfold joinR; rw [if_neg h]⟩)
  have HRa := Lib.hid (hh.idem ha)
  have HRb := Lib.hid (hh.idem hb)
  clear hf hh ha hb
  obtain ⟨x, hx⟩ : ∃ x, x = ρ a := ⟨_, rfl⟩
  obtain ⟨y, hy⟩ : ∃ y, y = ρ b := ⟨_, rfl⟩
  have HX := Lib.hid hx
  have HY := Lib.hid hy
  rw [← hx] at HA HJ HRa hra
  rw [← hy] at HBt HJ HRb hrb
  clear hx hy
  go_enter Try.func63, Try.ntmps63
  go_wp2_with fail
  go_at_call 64
  refine HA.out.mono ?_
  rintro e w1 ⟨l1, rfl, hf1, hh1, hg1⟩
  have HB1 := Lib.hid (HBt.out l1 w1 hf1 hh1)
  have HG1 := Lib.hid hg1
  clear hf1 hh1 hg1
  go_wp2_with fail
  go_at_call 64
  refine HB1.out.mono ?_
  rintro e w2 ⟨l2, rfl, hf2, hh2, hg2⟩
  have HF2 := Lib.hid hf2
  have HH2 := Lib.hid hh2
  have HG2 := Lib.hid (grownBy_trans HG1.out hg2)
  clear hf2 hh2 hg2 HB1 HG1
  have q0 := HF2.out.cell0
  have cx := HF2.out.own.cellAt x hra
  have cy := HF2.out.own.cellAt y hrb
  have kx := HF2.out.own.frozenAt x
  have ky := HF2.out.own.frozenAt y
  have d1 : (x : Int) < (N : Int) := by omega
  have d2 : (y : Int) < (N : Int) := by omega
  have HUx := Lib.hid (show upN l2 x = x from by have := (HH2.out.rt x hra).root; rw [HRa.out] at this; exact this)
  have HUy := Lib.hid (show upN l2 y = y from by have := (HH2.out.rt y hrb).root; rw [HRb.out] at this; exact this)
  by_cases hlt : x < y
  · have d3 : (x : Int) < (y : Int) := by omega
    go_wp2_with fail
    go_end0
    exact ⟨l2.set y (x : Int), rfl, (HF2.out.store y (x : Int)).1, by rw [HJ.out.1 hlt]; exact HH2.out.hang HUx.out HUy.out hlt hrb, grownBy_trans HG2.out (HF2.out.store y (x : Int)).2⟩
  · have d3 : ¬ (x : Int) < (y : Int) := by omega
    go_wp2_with fail
    go_end0
    refine ⟨l2.set x (y : Int), rfl, (HF2.out.store x (y : Int)).1, ?_, grownBy_trans HG2.out (HF2.out.store x (y : Int)).2⟩
    rw [HJ.out.2 hlt]
    by_cases hxy : x = y
    · have e1 : l2.set x (y : Int) = l2 := by
        have h1 := (HH2.out.up x hra).1
        rw [HUx.out] at h1
        rw [← hxy]
        apply List.ext_getElem
        · rw [List.length_set]
        · intro k k1 k2
          rw [List.getElem_set]
          split
          · rename_i e
            subst e
            rw [List.getD_eq_getElem?_getD, List.getElem?_eq_getElem k2] at h1
            simpa using h1.symm
          · rfl
      have e2 : (fun j => if ρ j = x then y else ρ j) = ρ := by
        funext j
        split
        · rw [← hxy]; symm; assumption
        · rfl
      rw [e1, e2]
      exact HH2.out
    · exact HH2.out.hang HUy.out HUx.out (by omega) hra
set_option maxHeartbeats 1000000 in
theorem newForest_any (N : Nat) (w : World) (hN : N ≤ 49) :
    Calls Try.prog 62 #[.int .i64 (N : Nat)] w fun e w' => ∃ Fb U l, e = .returned (.pointer (some ⟨Fb, 0, none⟩)) ∧ FrAt w.heap.size Fb U N l w' ∧ HasR N l id ∧ Below w.heap.size w w' := by
  obtain ⟨i0, hi, hz0, hz1, hz2⟩ := info_parts Try.infoInt
  go_enter Try.func62, Try.ntmps62
  go_wp2_with (at_make; refine wpList_make_full _ rfl _ _ 28 rfl w.heap.size 3 i0 (.int .i64 0) 1 Try.underlying28 hi hz0 hz1 .i64 .i64 _ _ N rfl rfl rfl rfl (by rw [hz2]; omega) (by unfold maxLen; omega) (Nat.le_refl _) ?_; intro w1 hown hgrow; (have B1 := Lib.hid ((Below.refl w.heap.size w).grown hgrow (Nat.le_refl _) (fun k e => by cases e))); (have O1 := Lib.hid (show Own w1 w.heap.size (.slice (some ⟨w.heap.size, 0, none⟩) N N) (List.replicate N 0) from Own.made (by simpa using hown))); clear hown hgrow)
  have hlt1 : w.heap.size < w1.heap.size := (O1.out.lt _ rfl).2
  have hbA := Below.alloc (Below.refl w1.heap.size w1) (Nat.le_refl _) (.cells #[.slice (some ⟨w.heap.size, 0, none⟩) N N] 82)
  have HF2 := Lib.hid (show FrAt w.heap.size w1.heap.size w.heap.size N (fillF (fun i => (i : Int)) N 0) (w1.alloc (.cells #[.slice (some ⟨w.heap.size, 0, none⟩) N N] 82)) from ⟨heap_alloc_new w1 _, by rw [fillF_zero]; exact O1.out.below hbA, by omega, by omega⟩)
  have HB2 := Lib.hid (B1.out.trans (hbA.mono B1.out.size))
  obtain ⟨Fb, hFb⟩ : ∃ Fb, Fb = w1.heap.size := ⟨_, rfl⟩
  obtain ⟨W2, hW2⟩ : ∃ W2, W2 = w1.alloc (.cells #[.slice (some ⟨w.heap.size, 0, none⟩) N N] 82) := ⟨_, rfl⟩
  rw [← hW2] at HF2 HB2 ⊢
  rw [← hFb] at HF2 ⊢
  clear hbA hFb hW2 hlt1 O1 B1
  go_loopw [14] (fun q wr => ∃ k : Nat, k ≤ N ∧ q = .int .i64 k ∧ FrAt w.heap.size Fb w.heap.size N (fillF (fun i => (i : Int)) N k) wr ∧ Below w.heap.size w wr) (fun q _ => N - (intOf q).toNat)
  case atStart => exact ⟨0, Nat.zero_le _, rfl, HF2.out, HB2.out⟩
  case round =>
    obtain ⟨k, hk, rfl, hf, hb⟩ := hrel
    clear HF2 HB2
    have HF := Lib.hid hf
    have HB := Lib.hid hb
    clear hf hb
    by_cases hlt : k < N
    · have q0 := HF.out.cell0
      have ck := HF.out.own.cellAt k hlt
      have kf := HF.out.own.frozenAt k
      have d1 : (k : Int) < (N : Int) := by omega
      go_wp2_with fail
      go_roundw
      case rel => exact ⟨k + 1, by omega, by go_num, by have := (HF.out.store k (k : Int)).1; rw [fillF_set (fun i => (i : Int)) N k] at this; exact this, HB.out.setCell (Nat.le_refl _) _⟩
      case measure => simp [intOf]; omega
    · have hke : N = k := by omega
      subst hke
      go_wp2_with fail
      go_ret
      exact ⟨Fb, w.heap.size, _, rfl, HF.out, HasR.start N (fillF_len _ _ _) (fun i hi => by rw [fillF_all, List.getD_eq_getElem?_getD, List.getElem?_map, List.getElem?_range hi]; rfl), HB.out⟩

end Go.Proofs.Ytkhhloeemecokaa
