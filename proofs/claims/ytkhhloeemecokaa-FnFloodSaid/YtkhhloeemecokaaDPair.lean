/- Contracts of the draws of a grid and a cell, an index, two indexes. -/
import Derived.Test.YtkhhloeemecokaaGDraw2
import Derived.Deep.RegionHeld3
import Derived.Deep.Cut
namespace Go.Proofs.Ytkhhloeemecokaa
open Go.RowKit
set_option linter.unusedVariables false

def GivesCell (w0 : World) (a : Option Addr) (m cap R : Nat) (q : Nat) (w : World) (e : Ending) (w' : World) : Prop :=
  ∃ g ad cp n x y, e = .returned (.tuple #[.slice ad n cp, .int .i64 x, .int .i64 y]) ∧ n = g.length ∧ SmallG g ∧ MOwn w' w.heap.size (.slice ad n cp) g ∧ Drawn w0 a m cap R w (q + 80) w'
def GivesIdx (w0 : World) (a : Option Addr) (m cap R : Nat) (q : Nat) (w : World) (e : Ending) (w' : World) : Prop :=
  ∃ g ad cp n x, e = .returned (.tuple #[.slice ad n cp, .int .i64 x]) ∧ n = g.length ∧ SmallG g ∧ MOwn w' w.heap.size (.slice ad n cp) g ∧ Drawn w0 a m cap R w (q + 80) w'
/-- What a draw of a grid and two numbers gives. -/
def GivesGII (w : World) (e : Ending) (w' : World) : Prop :=
  ∃ g ad cp n x y, e = .returned (.tuple #[.slice ad n cp, .int .i64 x, .int .i64 y]) ∧ n = g.length ∧ SmallG g ∧ MRow w' (.slice ad n cp) g ∧ Below w.heap.size w w'

set_option maxRecDepth 4000 in
set_option maxHeartbeats 8000000 in
theorem cell_any (w0 : World) (a : Option Addr) (m cap R q : Nat) (w1 w : World) (hb : Bytes w0 a m) (hm : m ≤ 2000) (hr : Drawn w0 a m cap R w1 q w) (hq : q ≤ 8000) :
    Calls Try.prog 74 #[.pointer (some ⟨R, 0, none⟩)] w (GivesCell w0 a m cap R q w) := by
  have HD0 := Lib.hid (show Drawn w0 a m cap R w q w from by obtain ⟨h0, ⟨q', h1, h2⟩, h3⟩ := hr; exact (Drawn.refl h2).more h1)
  have HB := Lib.hid hb
  have HG := Lib.hid (grid_any w0 a m cap R q w1 w hb hm hr (by omega))
  clear hr hb
  go_enter Try.func74, Try.ntmps74
  go_wp2_with fail
  with_reducible refine HG.out.mono ?_
  rintro e w2 ⟨g, ad, cp, n, rfl, hn, hs, hM, hd⟩
  have hn1 : 1 ≤ n := by rw [hn]; exact hs.1
  have hn5 : n ≤ 5 := by rw [hn]; exact hs.2.1
  have HN := Lib.hid hn
  have HS := Lib.hid hs
  have HM2 := Lib.hid hM
  have HD2 := Lib.hid (HD0.out.trans hd)
  clear hn hs hM hd HG
  go_wp2_with fail
  refine (pickD w0 a m cap R (q + 70) n w _ HB.out hm HD2.out (by omega) (by omega) (by omega)).mono ?_
  rintro e w3 ⟨row, hrow, rfl, hd⟩
  have HD3 := Lib.hid (HD2.out.trans hd)
  have HM3 := Lib.hid (HM2.out.over HD2.out hd)
  clear hd HM2 HD2
  go_wp2_with fail
  refine (pickD w0 a m cap R (q + 70 + 1) 16 w _ HB.out hm HD3.out (by omega) (by omega) (by omega)).mono ?_
  rintro e w4 ⟨c, hc, rfl, hd⟩
  have HD4 := Lib.hid (HD3.out.trans hd)
  have HM4 := Lib.hid (HM3.out.over HD3.out hd)
  clear hd HM3 HD3
  by_cases c0 : c = 0
  · subst c0
    have b1 : (((0 : Nat) : Int) == 0) = true := by simp
    go_upto_region 4 with (fail)
    have hbd : Below w4.heap.size w4 w4.drew := below_drewN (Below.refl _ _) 1
    have HDs := Lib.hid (HD4.out.below hbd)
    have HMs := Lib.hid (HM4.out.below hbd)
    clear hbd HD4 HM4
    refine wp_region_held_drew (S := fun _ => True) (by kernel_rfl) (trivial) (fun hHeld => ?_)
    obtain ⟨W_0, hW⟩ : ∃ W, W = w4.drew := ⟨_, rfl⟩
    rw [← hW] at HDs HMs ⊢
    clear hW hHeld
    have hHeld : True := trivial
    refine wpAnyH_take (i := 0) (oi := { dst := some 16, op := _, type := _, pos := _, after := _, guard := _ }) (v := ?_) rfl (by kernel_rfl) (by kernel_rfl) (by kernel_rfl) (fun _ _ _ h => h) (Or.inl ⟨by rfl, ?_⟩) (by assumption) ?_
    case refine_2 => ((intro w hSw; (try dsimp only at hSw); go_simp); try with_reducible rfl)
    try simp only [Act.put, List.setIfInBounds_toArray, List.set_cons_zero, List.set_cons_succ]
    refine wpAnyH_take (i := 1) (oi := { dst := some 17, op := _, type := _, pos := _, after := _, guard := _ }) (v := ?_) rfl (by kernel_rfl) (by kernel_rfl) (by kernel_rfl) (fun _ _ _ h => h) (Or.inl ⟨by rfl, ?_⟩) (by assumption) ?_
    case refine_2 => ((intro w hSw; (try dsimp only at hSw); go_simp); try with_reducible rfl)
    try simp only [Act.put, List.setIfInBounds_toArray, List.set_cons_zero, List.set_cons_succ]
    refine wpAnyH_take (i := 2) (oi := { dst := some 18, op := _, type := _, pos := _, after := _, guard := _ }) (v := ?_) rfl (by kernel_rfl) (by kernel_rfl) (by kernel_rfl) (fun _ _ _ h => h) (Or.inl ⟨by rfl, ?_⟩) (by assumption) ?_
    case refine_2 => ((intro w hSw; (try dsimp only at hSw); go_simp); try with_reducible rfl)
    try simp only [Act.put, List.setIfInBounds_toArray, List.set_cons_zero, List.set_cons_succ]
    refine wpAnyH_take (i := 3) (oi := { dst := some 19, op := _, type := _, pos := _, after := _, guard := _ }) (v := ?_) rfl (by kernel_rfl) (by kernel_rfl) (by kernel_rfl) (fun _ _ _ h => h) (Or.inl ⟨by rfl, ?_⟩) (by assumption) ?_
    case refine_2 => ((intro w hSw; (try dsimp only at hSw); go_simp); try with_reducible rfl)
    try simp only [Act.put, List.setIfInBounds_toArray, List.set_cons_zero, List.set_cons_succ]
    refine wpAnyH_take (i := 5) (oi := { dst := some 21, op := _, type := _, pos := _, after := _, guard := _ }) (v := ?_) rfl (by kernel_rfl) (by kernel_rfl) (by kernel_rfl) (fun _ _ _ h => h) (Or.inl ⟨by rfl, ?_⟩) (by assumption) ?_
    case refine_2 => ((intro w hSw; (try dsimp only at hSw); go_simp); try with_reducible rfl)
    try simp only [Act.put, List.setIfInBounds_toArray, List.set_cons_zero, List.set_cons_succ]
    refine wpAnyH_take (i := 10) (oi := { dst := some 26, op := _, type := _, pos := _, after := _, guard := _ }) (v := ?_) rfl (by kernel_rfl) (by kernel_rfl) (by kernel_rfl) (fun _ _ _ h => h) (Or.inl ⟨by rfl, ?_⟩) (by assumption) ?_
    case refine_2 => ((intro w hSw; (try dsimp only at hSw); go_simp); try with_reducible rfl)
    try simp only [Act.put, List.setIfInBounds_toArray, List.set_cons_zero, List.set_cons_succ]
    refine wpAnyH_ready (rs := [4, 6, 9]) (by kernel_rfl) (by simp) ?_
    refine AllReadyH.cons (o := { dst := some 20, op := _, type := _, pos := _, after := _, guard := _ }) rfl (fun K hK => ?_) (AllReadyH.cons (o := { dst := some 22, op := _, type := _, pos := _, after := _, guard := _ }) rfl (fun K hK => ?_) (AllReadyH.cons (o := { dst := some 25, op := _, type := _, pos := _, after := _, guard := _ }) rfl (fun K hK => ?_) AllReadyH.nil))
    · skip
      go_simp
      refine hK.out _ _ (trivial) (fun hHeld => ?_)
      clear hK K
      try simp only [Act.put, List.setIfInBounds_toArray, List.set_cons_zero, List.set_cons_succ]
      have HD_1 := Lib.hid (HDs.out.alloc (.cells #[.int .i64 (-1), .int .i64 (n : Nat), .int .i64 (row : Nat)] 3))
      have HM_1 := Lib.hid (HMs.out.below (Below.alloc (Below.refl _ _) (Nat.le_refl _) (.cells #[.int .i64 (-1), .int .i64 (n : Nat), .int .i64 (row : Nat)] 3)))
      have HL_1 := Lib.hid (Own.lit3 W_0 w.heap.size (-1) (n : Int) (row : Int) HDs.out.size)
      obtain ⟨W_1, hW⟩ : ∃ W, W = W_0.alloc (.cells #[.int .i64 (-1), .int .i64 (n : Nat), .int .i64 (row : Nat)] 3) := ⟨_, rfl⟩
      rw [← hW] at HD_1 HM_1 HL_1 ⊢
      clear hW
      obtain ⟨B_1, hB⟩ : ∃ B, B = W_0.heap.size := ⟨_, rfl⟩
      rw [← hB] at HL_1 ⊢
      clear hB
      clear HDs HMs
      refine wpAnyH_ready (rs := [6, 9]) (by kernel_rfl) (by simp) ?_
      refine AllReadyH.cons (o := { dst := some 22, op := _, type := _, pos := _, after := _, guard := _ }) rfl (fun K hK => ?_) (AllReadyH.cons (o := { dst := some 25, op := _, type := _, pos := _, after := _, guard := _ }) rfl (fun K hK => ?_) AllReadyH.nil)
      · skip
        go_simp
        go_at_call 58
        refine (pickD w0 a m cap R (q + 72) 3 w _ HB.out hm (HD_1.out.more (by omega)) (by omega) (by omega) (by omega)).mono ?_
        rintro e w_4 ⟨c_4, hc_4, rfl, hd⟩
        have HD_4 := Lib.hid ((HD_1.out.more (show _ ≤ q + 72 by omega)).trans hd)
        have HM_4 := Lib.hid (HM_1.out.over HD_1.out hd)
        have i0_4 : (0 : Int) ≤ (c_4 : Int) := by omega
        have HLL3_4 := Lib.hid (HL_1.out.over HD_1.out hd)
        clear hd HD_1 HM_1 HL_1
        refine hK.out _ _ (trivial) (fun hHeld => ?_)
        clear hK K
        try simp only [Act.put, List.setIfInBounds_toArray, List.set_cons_zero, List.set_cons_succ]
        refine wpAnyH_take (i := 7) (oi := { dst := some 23, op := _, type := _, pos := _, after := _, guard := _ }) (v := ?_) rfl (by kernel_rfl) (by kernel_rfl) (by kernel_rfl) (fun _ _ _ h => h) (Or.inl ⟨by rfl, ?_⟩) (by assumption) ?_
        case refine_2 => ((intro w hSw; (try dsimp only at hSw); go_simp); try with_reducible rfl)
        try simp only [Act.put, List.setIfInBounds_toArray, List.set_cons_zero, List.set_cons_succ]
        refine wpAnyH_ready (rs := [8, 9, 11]) (by kernel_rfl) (by simp) ?_
        refine AllReadyH.cons (o := { dst := some 24, op := _, type := _, pos := _, after := _, guard := _ }) rfl (fun K hK => ?_) (AllReadyH.cons (o := { dst := some 25, op := _, type := _, pos := _, after := _, guard := _ }) rfl (fun K hK => ?_) (AllReadyH.cons (o := { dst := some 27, op := _, type := _, pos := _, after := _, guard := _ }) rfl (fun K hK => ?_) AllReadyH.nil))
        · skip
          have x1 := HLL3_4.out.cellAt c_4 (by omega)
          obtain ⟨x_6, hx⟩ : ∃ x, x = ([-1, (n : Int), (row : Int)] : List Int).getD c_4 0 := ⟨_, rfl⟩
          rw [← hx] at x1
          clear hx
          go_simp
          refine hK.out _ _ (trivial) (fun hHeld => ?_)
          clear hK K
          try simp only [Act.put, List.setIfInBounds_toArray, List.set_cons_zero, List.set_cons_succ]
          clear x1
          refine wpAnyH_ready (rs := [9, 11]) (by kernel_rfl) (by simp) ?_
          refine AllReadyH.cons (o := { dst := some 25, op := _, type := _, pos := _, after := _, guard := _ }) rfl (fun K hK => ?_) (AllReadyH.cons (o := { dst := some 27, op := _, type := _, pos := _, after := _, guard := _ }) rfl (fun K hK => ?_) AllReadyH.nil)
          · skip
            go_simp
            refine hK.out _ _ (trivial) (fun hHeld => ?_)
            clear hK K
            try simp only [Act.put, List.setIfInBounds_toArray, List.set_cons_zero, List.set_cons_succ]
            have HD_9 := Lib.hid (HD_4.out.alloc (.cells #[.int .i64 (-1), .int .i64 7] 3))
            have HM_9 := Lib.hid (HM_4.out.below (Below.alloc (Below.refl _ _) (Nat.le_refl _) (.cells #[.int .i64 (-1), .int .i64 7] 3)))
            have HL_9 := Lib.hid (Own.lit2 w_4 w.heap.size (-1) 7 HD_4.out.size)
            have HLL3_9 := Lib.hid (HLL3_4.out.below (Below.alloc (Below.refl _ _) (Nat.le_refl _) (.cells #[.int .i64 (-1), .int .i64 7] 3)))
            obtain ⟨W_9, hW⟩ : ∃ W, W = w_4.alloc (.cells #[.int .i64 (-1), .int .i64 7] 3) := ⟨_, rfl⟩
            rw [← hW] at HD_9 HM_9 HL_9 HLL3_9 ⊢
            clear hW
            obtain ⟨B_9, hB⟩ : ∃ B, B = w_4.heap.size := ⟨_, rfl⟩
            rw [← hB] at HL_9 ⊢
            clear hB
            clear HD_4 HM_4 HLL3_4
            refine wpAnyH_ready (rs := [11]) (by kernel_rfl) (by simp) ?_
            refine AllReadyH.cons (o := { dst := some 27, op := _, type := _, pos := _, after := _, guard := _ }) rfl (fun K hK => ?_) AllReadyH.nil
            go_simp
            go_at_call 58
            refine (pickD w0 a m cap R (q + 73) 2 w _ HB.out hm (HD_9.out.more (by omega)) (by omega) (by omega) (by omega)).mono ?_
            rintro e w_11 ⟨c_11, hc_11, rfl, hd⟩
            have HD_11 := Lib.hid ((HD_9.out.more (show _ ≤ q + 73 by omega)).trans hd)
            have HM_11 := Lib.hid (HM_9.out.over HD_9.out hd)
            have i0_11 : (0 : Int) ≤ (c_11 : Int) := by omega
            have HLL3_11 := Lib.hid (HLL3_9.out.over HD_9.out hd)
            have HLL2_11 := Lib.hid (HL_9.out.over HD_9.out hd)
            clear hd HD_9 HM_9 HLL3_9 HL_9
            refine hK.out _ _ (trivial) (fun hHeld => ?_)
            clear hK K
            try simp only [Act.put, List.setIfInBounds_toArray, List.set_cons_zero, List.set_cons_succ]
            refine wpAnyH_take (i := 12) (oi := { dst := some 28, op := _, type := _, pos := _, after := _, guard := _ }) (v := ?_) rfl (by kernel_rfl) (by kernel_rfl) (by kernel_rfl) (fun _ _ _ h => h) (Or.inl ⟨by rfl, ?_⟩) (by assumption) ?_
            case refine_2 => ((intro w hSw; (try dsimp only at hSw); go_simp); try with_reducible rfl)
            try simp only [Act.put, List.setIfInBounds_toArray, List.set_cons_zero, List.set_cons_succ]
            refine wpAnyH_take (i := 14) (oi := { dst := some 2, op := _, type := _, pos := _, after := _, guard := _ }) (v := ?_) rfl (by kernel_rfl) (by kernel_rfl) (by kernel_rfl) (fun _ _ _ h => h) (Or.inl ⟨by rfl, ?_⟩) (by assumption) ?_
            case refine_2 => ((intro w hSw; (try dsimp only at hSw); go_simp); try with_reducible rfl)
            try simp only [Act.put, List.setIfInBounds_toArray, List.set_cons_zero, List.set_cons_succ]
            refine wpAnyH_take (i := 15) (oi := { dst := some 3, op := _, type := _, pos := _, after := _, guard := _ }) (v := ?_) rfl (by kernel_rfl) (by kernel_rfl) (by kernel_rfl) (fun _ _ _ h => h) (Or.inl ⟨by rfl, ?_⟩) (by assumption) ?_
            case refine_2 => ((intro w hSw; (try dsimp only at hSw); go_simp); try with_reducible rfl)
            try simp only [Act.put, List.setIfInBounds_toArray, List.set_cons_zero, List.set_cons_succ]
            refine wpAnyH_ready (rs := [13]) (by kernel_rfl) (by simp) ?_
            refine AllReadyH.cons (o := { dst := some 29, op := _, type := _, pos := _, after := _, guard := _ }) rfl (fun K hK => ?_) AllReadyH.nil
            have x1 := HLL2_11.out.cellAt c_11 (by omega)
            obtain ⟨x_12, hx⟩ : ∃ x, x = ([-1, 7] : List Int).getD c_11 0 := ⟨_, rfl⟩
            rw [← hx] at x1
            clear hx
            go_simp
            refine hK.out _ _ (trivial) (fun hHeld => ?_)
            clear hK K
            try simp only [Act.put, List.setIfInBounds_toArray, List.set_cons_zero, List.set_cons_succ]
            clear x1
            refine wpAnyH_take (i := 16) (oi := { dst := some 4, op := _, type := _, pos := _, after := _, guard := _ }) (v := ?_) rfl (by kernel_rfl) (by kernel_rfl) (by kernel_rfl) (fun _ _ _ h => h) (Or.inl ⟨by rfl, ?_⟩) (by assumption) ?_
            case refine_2 => ((intro w hSw; (try dsimp only at hSw); go_simp); try with_reducible rfl)
            try simp only [Act.put, List.setIfInBounds_toArray, List.set_cons_zero, List.set_cons_succ]
            refine wpAnyH_done (by kernel_rfl) ?_ _
            clear hHeld
            go_wp2_with fail
            go_ret3
            exact ⟨g, ad, cp, n, _, _, rfl, HN.out, HS.out, HM_11.out, HD_11.out.more (by omega)⟩
          · skip
            go_simp
            go_at_call 58
            refine (pickD w0 a m cap R (q + 73) 2 w _ HB.out hm (HD_4.out.more (by omega)) (by omega) (by omega) (by omega)).mono ?_
            rintro e w_10 ⟨c_10, hc_10, rfl, hd⟩
            have HD_10 := Lib.hid ((HD_4.out.more (show _ ≤ q + 73 by omega)).trans hd)
            have HM_10 := Lib.hid (HM_4.out.over HD_4.out hd)
            have i0_10 : (0 : Int) ≤ (c_10 : Int) := by omega
            have HLL3_10 := Lib.hid (HLL3_4.out.over HD_4.out hd)
            clear hd HD_4 HM_4 HLL3_4
            refine hK.out _ _ (trivial) (fun hHeld => ?_)
            clear hK K
            try simp only [Act.put, List.setIfInBounds_toArray, List.set_cons_zero, List.set_cons_succ]
            refine wpAnyH_take (i := 14) (oi := { dst := some 2, op := _, type := _, pos := _, after := _, guard := _ }) (v := ?_) rfl (by kernel_rfl) (by kernel_rfl) (by kernel_rfl) (fun _ _ _ h => h) (Or.inl ⟨by rfl, ?_⟩) (by assumption) ?_
            case refine_2 => ((intro w hSw; (try dsimp only at hSw); go_simp); try with_reducible rfl)
            try simp only [Act.put, List.setIfInBounds_toArray, List.set_cons_zero, List.set_cons_succ]
            refine wpAnyH_take (i := 15) (oi := { dst := some 3, op := _, type := _, pos := _, after := _, guard := _ }) (v := ?_) rfl (by kernel_rfl) (by kernel_rfl) (by kernel_rfl) (fun _ _ _ h => h) (Or.inl ⟨by rfl, ?_⟩) (by assumption) ?_
            case refine_2 => ((intro w hSw; (try dsimp only at hSw); go_simp); try with_reducible rfl)
            try simp only [Act.put, List.setIfInBounds_toArray, List.set_cons_zero, List.set_cons_succ]
            refine wpAnyH_ready (rs := [9]) (by kernel_rfl) (by simp) ?_
            refine AllReadyH.cons (o := { dst := some 25, op := _, type := _, pos := _, after := _, guard := _ }) rfl (fun K hK => ?_) AllReadyH.nil
            go_simp
            refine hK.out _ _ (trivial) (fun hHeld => ?_)
            clear hK K
            try simp only [Act.put, List.setIfInBounds_toArray, List.set_cons_zero, List.set_cons_succ]
            have HD_13 := Lib.hid (HD_10.out.alloc (.cells #[.int .i64 (-1), .int .i64 7] 3))
            have HM_13 := Lib.hid (HM_10.out.below (Below.alloc (Below.refl _ _) (Nat.le_refl _) (.cells #[.int .i64 (-1), .int .i64 7] 3)))
            have HL_13 := Lib.hid (Own.lit2 w_10 w.heap.size (-1) 7 HD_10.out.size)
            have HLL3_13 := Lib.hid (HLL3_10.out.below (Below.alloc (Below.refl _ _) (Nat.le_refl _) (.cells #[.int .i64 (-1), .int .i64 7] 3)))
            obtain ⟨W_13, hW⟩ : ∃ W, W = w_10.alloc (.cells #[.int .i64 (-1), .int .i64 7] 3) := ⟨_, rfl⟩
            rw [← hW] at HD_13 HM_13 HL_13 HLL3_13 ⊢
            clear hW
            obtain ⟨B_13, hB⟩ : ∃ B, B = w_10.heap.size := ⟨_, rfl⟩
            rw [← hB] at HL_13 ⊢
            clear hB
            clear HD_10 HM_10 HLL3_10
            refine wpAnyH_take (i := 12) (oi := { dst := some 28, op := _, type := _, pos := _, after := _, guard := _ }) (v := ?_) rfl (by kernel_rfl) (by kernel_rfl) (by kernel_rfl) (fun _ _ _ h => h) (Or.inl ⟨by rfl, ?_⟩) (by assumption) ?_
            case refine_2 => ((intro w hSw; (try dsimp only at hSw); go_simp); try with_reducible rfl)
            try simp only [Act.put, List.setIfInBounds_toArray, List.set_cons_zero, List.set_cons_succ]
            refine wpAnyH_ready (rs := [13]) (by kernel_rfl) (by simp) ?_
            refine AllReadyH.cons (o := { dst := some 29, op := _, type := _, pos := _, after := _, guard := _ }) rfl (fun K hK => ?_) AllReadyH.nil
            have x1 := HL_13.out.cellAt c_10 (by omega)
            obtain ⟨x_14, hx⟩ : ∃ x, x = ([-1, 7] : List Int).getD c_10 0 := ⟨_, rfl⟩
            rw [← hx] at x1
            clear hx
            go_simp
            refine hK.out _ _ (trivial) (fun hHeld => ?_)
            clear hK K
            try simp only [Act.put, List.setIfInBounds_toArray, List.set_cons_zero, List.set_cons_succ]
            clear x1
            refine wpAnyH_take (i := 16) (oi := { dst := some 4, op := _, type := _, pos := _, after := _, guard := _ }) (v := ?_) rfl (by kernel_rfl) (by kernel_rfl) (by kernel_rfl) (fun _ _ _ h => h) (Or.inl ⟨by rfl, ?_⟩) (by assumption) ?_
            case refine_2 => ((intro w hSw; (try dsimp only at hSw); go_simp); try with_reducible rfl)
            try simp only [Act.put, List.setIfInBounds_toArray, List.set_cons_zero, List.set_cons_succ]
            refine wpAnyH_done (by kernel_rfl) ?_ _
            clear hHeld
            go_wp2_with fail
            go_ret3
            exact ⟨g, ad, cp, n, _, _, rfl, HN.out, HS.out, HM_13.out, HD_13.out.more (by omega)⟩
        · skip
          go_simp
          refine hK.out _ _ (trivial) (fun hHeld => ?_)
          clear hK K
          try simp only [Act.put, List.setIfInBounds_toArray, List.set_cons_zero, List.set_cons_succ]
          have HD_7 := Lib.hid (HD_4.out.alloc (.cells #[.int .i64 (-1), .int .i64 7] 3))
          have HM_7 := Lib.hid (HM_4.out.below (Below.alloc (Below.refl _ _) (Nat.le_refl _) (.cells #[.int .i64 (-1), .int .i64 7] 3)))
          have HL_7 := Lib.hid (Own.lit2 w_4 w.heap.size (-1) 7 HD_4.out.size)
          have HLL3_7 := Lib.hid (HLL3_4.out.below (Below.alloc (Below.refl _ _) (Nat.le_refl _) (.cells #[.int .i64 (-1), .int .i64 7] 3)))
          obtain ⟨W_7, hW⟩ : ∃ W, W = w_4.alloc (.cells #[.int .i64 (-1), .int .i64 7] 3) := ⟨_, rfl⟩
          rw [← hW] at HD_7 HM_7 HL_7 HLL3_7 ⊢
          clear hW
          obtain ⟨B_7, hB⟩ : ∃ B, B = w_4.heap.size := ⟨_, rfl⟩
          rw [← hB] at HL_7 ⊢
          clear hB
          clear HD_4 HM_4 HLL3_4
          refine wpAnyH_ready (rs := [8, 11]) (by kernel_rfl) (by simp) ?_
          refine AllReadyH.cons (o := { dst := some 24, op := _, type := _, pos := _, after := _, guard := _ }) rfl (fun K hK => ?_) (AllReadyH.cons (o := { dst := some 27, op := _, type := _, pos := _, after := _, guard := _ }) rfl (fun K hK => ?_) AllReadyH.nil)
          · skip
            have x1 := HLL3_7.out.cellAt c_4 (by omega)
            obtain ⟨x_15, hx⟩ : ∃ x, x = ([-1, (n : Int), (row : Int)] : List Int).getD c_4 0 := ⟨_, rfl⟩
            rw [← hx] at x1
            clear hx
            go_simp
            refine hK.out _ _ (trivial) (fun hHeld => ?_)
            clear hK K
            try simp only [Act.put, List.setIfInBounds_toArray, List.set_cons_zero, List.set_cons_succ]
            clear x1
            refine wpAnyH_ready (rs := [11]) (by kernel_rfl) (by simp) ?_
            refine AllReadyH.cons (o := { dst := some 27, op := _, type := _, pos := _, after := _, guard := _ }) rfl (fun K hK => ?_) AllReadyH.nil
            go_simp
            go_at_call 58
            refine (pickD w0 a m cap R (q + 73) 2 w _ HB.out hm (HD_7.out.more (by omega)) (by omega) (by omega) (by omega)).mono ?_
            rintro e w_17 ⟨c_17, hc_17, rfl, hd⟩
            have HD_17 := Lib.hid ((HD_7.out.more (show _ ≤ q + 73 by omega)).trans hd)
            have HM_17 := Lib.hid (HM_7.out.over HD_7.out hd)
            have i0_17 : (0 : Int) ≤ (c_17 : Int) := by omega
            have HLL3_17 := Lib.hid (HLL3_7.out.over HD_7.out hd)
            have HLL2_17 := Lib.hid (HL_7.out.over HD_7.out hd)
            clear hd HD_7 HM_7 HLL3_7 HL_7
            refine hK.out _ _ (trivial) (fun hHeld => ?_)
            clear hK K
            try simp only [Act.put, List.setIfInBounds_toArray, List.set_cons_zero, List.set_cons_succ]
            refine wpAnyH_take (i := 12) (oi := { dst := some 28, op := _, type := _, pos := _, after := _, guard := _ }) (v := ?_) rfl (by kernel_rfl) (by kernel_rfl) (by kernel_rfl) (fun _ _ _ h => h) (Or.inl ⟨by rfl, ?_⟩) (by assumption) ?_
            case refine_2 => ((intro w hSw; (try dsimp only at hSw); go_simp); try with_reducible rfl)
            try simp only [Act.put, List.setIfInBounds_toArray, List.set_cons_zero, List.set_cons_succ]
            refine wpAnyH_take (i := 14) (oi := { dst := some 2, op := _, type := _, pos := _, after := _, guard := _ }) (v := ?_) rfl (by kernel_rfl) (by kernel_rfl) (by kernel_rfl) (fun _ _ _ h => h) (Or.inl ⟨by rfl, ?_⟩) (by assumption) ?_
            case refine_2 => ((intro w hSw; (try dsimp only at hSw); go_simp); try with_reducible rfl)
            try simp only [Act.put, List.setIfInBounds_toArray, List.set_cons_zero, List.set_cons_succ]
            refine wpAnyH_take (i := 15) (oi := { dst := some 3, op := _, type := _, pos := _, after := _, guard := _ }) (v := ?_) rfl (by kernel_rfl) (by kernel_rfl) (by kernel_rfl) (fun _ _ _ h => h) (Or.inl ⟨by rfl, ?_⟩) (by assumption) ?_
            case refine_2 => ((intro w hSw; (try dsimp only at hSw); go_simp); try with_reducible rfl)
            try simp only [Act.put, List.setIfInBounds_toArray, List.set_cons_zero, List.set_cons_succ]
            refine wpAnyH_ready (rs := [13]) (by kernel_rfl) (by simp) ?_
            refine AllReadyH.cons (o := { dst := some 29, op := _, type := _, pos := _, after := _, guard := _ }) rfl (fun K hK => ?_) AllReadyH.nil
            have x1 := HLL2_17.out.cellAt c_17 (by omega)
            obtain ⟨x_18, hx⟩ : ∃ x, x = ([-1, 7] : List Int).getD c_17 0 := ⟨_, rfl⟩
            rw [← hx] at x1
            clear hx
            go_simp
            refine hK.out _ _ (trivial) (fun hHeld => ?_)
            clear hK K
            try simp only [Act.put, List.setIfInBounds_toArray, List.set_cons_zero, List.set_cons_succ]
            clear x1
            refine wpAnyH_take (i := 16) (oi := { dst := some 4, op := _, type := _, pos := _, after := _, guard := _ }) (v := ?_) rfl (by kernel_rfl) (by kernel_rfl) (by kernel_rfl) (fun _ _ _ h => h) (Or.inl ⟨by rfl, ?_⟩) (by assumption) ?_
            case refine_2 => ((intro w hSw; (try dsimp only at hSw); go_simp); try with_reducible rfl)
            try simp only [Act.put, List.setIfInBounds_toArray, List.set_cons_zero, List.set_cons_succ]
            refine wpAnyH_done (by kernel_rfl) ?_ _
            clear hHeld
            go_wp2_with fail
            go_ret3
            exact ⟨g, ad, cp, n, _, _, rfl, HN.out, HS.out, HM_17.out, HD_17.out.more (by omega)⟩
          · skip
            go_simp
            go_at_call 58
            refine (pickD w0 a m cap R (q + 73) 2 w _ HB.out hm (HD_7.out.more (by omega)) (by omega) (by omega) (by omega)).mono ?_
            rintro e w_16 ⟨c_16, hc_16, rfl, hd⟩
            have HD_16 := Lib.hid ((HD_7.out.more (show _ ≤ q + 73 by omega)).trans hd)
            have HM_16 := Lib.hid (HM_7.out.over HD_7.out hd)
            have i0_16 : (0 : Int) ≤ (c_16 : Int) := by omega
            have HLL3_16 := Lib.hid (HLL3_7.out.over HD_7.out hd)
            have HLL2_16 := Lib.hid (HL_7.out.over HD_7.out hd)
            clear hd HD_7 HM_7 HLL3_7 HL_7
            refine hK.out _ _ (trivial) (fun hHeld => ?_)
            clear hK K
            try simp only [Act.put, List.setIfInBounds_toArray, List.set_cons_zero, List.set_cons_succ]
            refine wpAnyH_take (i := 12) (oi := { dst := some 28, op := _, type := _, pos := _, after := _, guard := _ }) (v := ?_) rfl (by kernel_rfl) (by kernel_rfl) (by kernel_rfl) (fun _ _ _ h => h) (Or.inl ⟨by rfl, ?_⟩) (by assumption) ?_
            case refine_2 => ((intro w hSw; (try dsimp only at hSw); go_simp); try with_reducible rfl)
            try simp only [Act.put, List.setIfInBounds_toArray, List.set_cons_zero, List.set_cons_succ]
            refine wpAnyH_take (i := 14) (oi := { dst := some 2, op := _, type := _, pos := _, after := _, guard := _ }) (v := ?_) rfl (by kernel_rfl) (by kernel_rfl) (by kernel_rfl) (fun _ _ _ h => h) (Or.inl ⟨by rfl, ?_⟩) (by assumption) ?_
            case refine_2 => ((intro w hSw; (try dsimp only at hSw); go_simp); try with_reducible rfl)
            try simp only [Act.put, List.setIfInBounds_toArray, List.set_cons_zero, List.set_cons_succ]
            refine wpAnyH_ready (rs := [8, 13]) (by kernel_rfl) (by simp) ?_
            refine AllReadyH.cons (o := { dst := some 24, op := _, type := _, pos := _, after := _, guard := _ }) rfl (fun K hK => ?_) (AllReadyH.cons (o := { dst := some 29, op := _, type := _, pos := _, after := _, guard := _ }) rfl (fun K hK => ?_) AllReadyH.nil)
            · skip
              have x1 := HLL3_16.out.cellAt c_4 (by omega)
              obtain ⟨x_19, hx⟩ : ∃ x, x = ([-1, (n : Int), (row : Int)] : List Int).getD c_4 0 := ⟨_, rfl⟩
              rw [← hx] at x1
              clear hx
              go_simp
              refine hK.out _ _ (trivial) (fun hHeld => ?_)
              clear hK K
              try simp only [Act.put, List.setIfInBounds_toArray, List.set_cons_zero, List.set_cons_succ]
              clear x1
              refine wpAnyH_take (i := 15) (oi := { dst := some 3, op := _, type := _, pos := _, after := _, guard := _ }) (v := ?_) rfl (by kernel_rfl) (by kernel_rfl) (by kernel_rfl) (fun _ _ _ h => h) (Or.inl ⟨by rfl, ?_⟩) (by assumption) ?_
              case refine_2 => ((intro w hSw; (try dsimp only at hSw); go_simp); try with_reducible rfl)
              try simp only [Act.put, List.setIfInBounds_toArray, List.set_cons_zero, List.set_cons_succ]
              refine wpAnyH_ready (rs := [13]) (by kernel_rfl) (by simp) ?_
              refine AllReadyH.cons (o := { dst := some 29, op := _, type := _, pos := _, after := _, guard := _ }) rfl (fun K hK => ?_) AllReadyH.nil
              have x1 := HLL2_16.out.cellAt c_16 (by omega)
              obtain ⟨x_21, hx⟩ : ∃ x, x = ([-1, 7] : List Int).getD c_16 0 := ⟨_, rfl⟩
              rw [← hx] at x1
              clear hx
              go_simp
              refine hK.out _ _ (trivial) (fun hHeld => ?_)
              clear hK K
              try simp only [Act.put, List.setIfInBounds_toArray, List.set_cons_zero, List.set_cons_succ]
              clear x1
              refine wpAnyH_take (i := 16) (oi := { dst := some 4, op := _, type := _, pos := _, after := _, guard := _ }) (v := ?_) rfl (by kernel_rfl) (by kernel_rfl) (by kernel_rfl) (fun _ _ _ h => h) (Or.inl ⟨by rfl, ?_⟩) (by assumption) ?_
              case refine_2 => ((intro w hSw; (try dsimp only at hSw); go_simp); try with_reducible rfl)
              try simp only [Act.put, List.setIfInBounds_toArray, List.set_cons_zero, List.set_cons_succ]
              refine wpAnyH_done (by kernel_rfl) ?_ _
              clear hHeld
              go_wp2_with fail
              go_ret3
              exact ⟨g, ad, cp, n, _, _, rfl, HN.out, HS.out, HM_16.out, HD_16.out.more (by omega)⟩
            · skip
              have x1 := HLL2_16.out.cellAt c_16 (by omega)
              obtain ⟨x_20, hx⟩ : ∃ x, x = ([-1, 7] : List Int).getD c_16 0 := ⟨_, rfl⟩
              rw [← hx] at x1
              clear hx
              go_simp
              refine hK.out _ _ (trivial) (fun hHeld => ?_)
              clear hK K
              try simp only [Act.put, List.setIfInBounds_toArray, List.set_cons_zero, List.set_cons_succ]
              clear x1
              refine wpAnyH_ready (rs := [8]) (by kernel_rfl) (by simp) ?_
              refine AllReadyH.cons (o := { dst := some 24, op := _, type := _, pos := _, after := _, guard := _ }) rfl (fun K hK => ?_) AllReadyH.nil
              have x1 := HLL3_16.out.cellAt c_4 (by omega)
              obtain ⟨x_22, hx⟩ : ∃ x, x = ([-1, (n : Int), (row : Int)] : List Int).getD c_4 0 := ⟨_, rfl⟩
              rw [← hx] at x1
              clear hx
              go_simp
              refine hK.out _ _ (trivial) (fun hHeld => ?_)
              clear hK K
              try simp only [Act.put, List.setIfInBounds_toArray, List.set_cons_zero, List.set_cons_succ]
              clear x1
              refine wpAnyH_take (i := 15) (oi := { dst := some 3, op := _, type := _, pos := _, after := _, guard := _ }) (v := ?_) rfl (by kernel_rfl) (by kernel_rfl) (by kernel_rfl) (fun _ _ _ h => h) (Or.inl ⟨by rfl, ?_⟩) (by assumption) ?_
              case refine_2 => ((intro w hSw; (try dsimp only at hSw); go_simp); try with_reducible rfl)
              try simp only [Act.put, List.setIfInBounds_toArray, List.set_cons_zero, List.set_cons_succ]
              refine wpAnyH_take (i := 16) (oi := { dst := some 4, op := _, type := _, pos := _, after := _, guard := _ }) (v := ?_) rfl (by kernel_rfl) (by kernel_rfl) (by kernel_rfl) (fun _ _ _ h => h) (Or.inl ⟨by rfl, ?_⟩) (by assumption) ?_
              case refine_2 => ((intro w hSw; (try dsimp only at hSw); go_simp); try with_reducible rfl)
              try simp only [Act.put, List.setIfInBounds_toArray, List.set_cons_zero, List.set_cons_succ]
              refine wpAnyH_done (by kernel_rfl) ?_ _
              clear hHeld
              go_wp2_with fail
              go_ret3
              exact ⟨g, ad, cp, n, _, _, rfl, HN.out, HS.out, HM_16.out, HD_16.out.more (by omega)⟩
        · skip
          go_simp
          go_at_call 58
          refine (pickD w0 a m cap R (q + 73) 2 w _ HB.out hm (HD_4.out.more (by omega)) (by omega) (by omega) (by omega)).mono ?_
          rintro e w_8 ⟨c_8, hc_8, rfl, hd⟩
          have HD_8 := Lib.hid ((HD_4.out.more (show _ ≤ q + 73 by omega)).trans hd)
          have HM_8 := Lib.hid (HM_4.out.over HD_4.out hd)
          have i0_8 : (0 : Int) ≤ (c_8 : Int) := by omega
          have HLL3_8 := Lib.hid (HLL3_4.out.over HD_4.out hd)
          clear hd HD_4 HM_4 HLL3_4
          refine hK.out _ _ (trivial) (fun hHeld => ?_)
          clear hK K
          try simp only [Act.put, List.setIfInBounds_toArray, List.set_cons_zero, List.set_cons_succ]
          refine wpAnyH_take (i := 14) (oi := { dst := some 2, op := _, type := _, pos := _, after := _, guard := _ }) (v := ?_) rfl (by kernel_rfl) (by kernel_rfl) (by kernel_rfl) (fun _ _ _ h => h) (Or.inl ⟨by rfl, ?_⟩) (by assumption) ?_
          case refine_2 => ((intro w hSw; (try dsimp only at hSw); go_simp); try with_reducible rfl)
          try simp only [Act.put, List.setIfInBounds_toArray, List.set_cons_zero, List.set_cons_succ]
          refine wpAnyH_ready (rs := [8, 9]) (by kernel_rfl) (by simp) ?_
          refine AllReadyH.cons (o := { dst := some 24, op := _, type := _, pos := _, after := _, guard := _ }) rfl (fun K hK => ?_) (AllReadyH.cons (o := { dst := some 25, op := _, type := _, pos := _, after := _, guard := _ }) rfl (fun K hK => ?_) AllReadyH.nil)
          · skip
            have x1 := HLL3_8.out.cellAt c_4 (by omega)
            obtain ⟨x_23, hx⟩ : ∃ x, x = ([-1, (n : Int), (row : Int)] : List Int).getD c_4 0 := ⟨_, rfl⟩
            rw [← hx] at x1
            clear hx
            go_simp
            refine hK.out _ _ (trivial) (fun hHeld => ?_)
            clear hK K
            try simp only [Act.put, List.setIfInBounds_toArray, List.set_cons_zero, List.set_cons_succ]
            clear x1
            refine wpAnyH_take (i := 15) (oi := { dst := some 3, op := _, type := _, pos := _, after := _, guard := _ }) (v := ?_) rfl (by kernel_rfl) (by kernel_rfl) (by kernel_rfl) (fun _ _ _ h => h) (Or.inl ⟨by rfl, ?_⟩) (by assumption) ?_
            case refine_2 => ((intro w hSw; (try dsimp only at hSw); go_simp); try with_reducible rfl)
            try simp only [Act.put, List.setIfInBounds_toArray, List.set_cons_zero, List.set_cons_succ]
            refine wpAnyH_ready (rs := [9]) (by kernel_rfl) (by simp) ?_
            refine AllReadyH.cons (o := { dst := some 25, op := _, type := _, pos := _, after := _, guard := _ }) rfl (fun K hK => ?_) AllReadyH.nil
            go_simp
            refine hK.out _ _ (trivial) (fun hHeld => ?_)
            clear hK K
            try simp only [Act.put, List.setIfInBounds_toArray, List.set_cons_zero, List.set_cons_succ]
            have HD_25 := Lib.hid (HD_8.out.alloc (.cells #[.int .i64 (-1), .int .i64 7] 3))
            have HM_25 := Lib.hid (HM_8.out.below (Below.alloc (Below.refl _ _) (Nat.le_refl _) (.cells #[.int .i64 (-1), .int .i64 7] 3)))
            have HL_25 := Lib.hid (Own.lit2 w_8 w.heap.size (-1) 7 HD_8.out.size)
            have HLL3_25 := Lib.hid (HLL3_8.out.below (Below.alloc (Below.refl _ _) (Nat.le_refl _) (.cells #[.int .i64 (-1), .int .i64 7] 3)))
            obtain ⟨W_25, hW⟩ : ∃ W, W = w_8.alloc (.cells #[.int .i64 (-1), .int .i64 7] 3) := ⟨_, rfl⟩
            rw [← hW] at HD_25 HM_25 HL_25 HLL3_25 ⊢
            clear hW
            obtain ⟨B_25, hB⟩ : ∃ B, B = w_8.heap.size := ⟨_, rfl⟩
            rw [← hB] at HL_25 ⊢
            clear hB
            clear HD_8 HM_8 HLL3_8
            refine wpAnyH_take (i := 12) (oi := { dst := some 28, op := _, type := _, pos := _, after := _, guard := _ }) (v := ?_) rfl (by kernel_rfl) (by kernel_rfl) (by kernel_rfl) (fun _ _ _ h => h) (Or.inl ⟨by rfl, ?_⟩) (by assumption) ?_
            case refine_2 => ((intro w hSw; (try dsimp only at hSw); go_simp); try with_reducible rfl)
            try simp only [Act.put, List.setIfInBounds_toArray, List.set_cons_zero, List.set_cons_succ]
            refine wpAnyH_ready (rs := [13]) (by kernel_rfl) (by simp) ?_
            refine AllReadyH.cons (o := { dst := some 29, op := _, type := _, pos := _, after := _, guard := _ }) rfl (fun K hK => ?_) AllReadyH.nil
            have x1 := HL_25.out.cellAt c_8 (by omega)
            obtain ⟨x_26, hx⟩ : ∃ x, x = ([-1, 7] : List Int).getD c_8 0 := ⟨_, rfl⟩
            rw [← hx] at x1
            clear hx
            go_simp
            refine hK.out _ _ (trivial) (fun hHeld => ?_)
            clear hK K
            try simp only [Act.put, List.setIfInBounds_toArray, List.set_cons_zero, List.set_cons_succ]
            clear x1
            refine wpAnyH_take (i := 16) (oi := { dst := some 4, op := _, type := _, pos := _, after := _, guard := _ }) (v := ?_) rfl (by kernel_rfl) (by kernel_rfl) (by kernel_rfl) (fun _ _ _ h => h) (Or.inl ⟨by rfl, ?_⟩) (by assumption) ?_
            case refine_2 => ((intro w hSw; (try dsimp only at hSw); go_simp); try with_reducible rfl)
            try simp only [Act.put, List.setIfInBounds_toArray, List.set_cons_zero, List.set_cons_succ]
            refine wpAnyH_done (by kernel_rfl) ?_ _
            clear hHeld
            go_wp2_with fail
            go_ret3
            exact ⟨g, ad, cp, n, _, _, rfl, HN.out, HS.out, HM_25.out, HD_25.out.more (by omega)⟩
          · skip
            go_simp
            refine hK.out _ _ (trivial) (fun hHeld => ?_)
            clear hK K
            try simp only [Act.put, List.setIfInBounds_toArray, List.set_cons_zero, List.set_cons_succ]
            have HD_24 := Lib.hid (HD_8.out.alloc (.cells #[.int .i64 (-1), .int .i64 7] 3))
            have HM_24 := Lib.hid (HM_8.out.below (Below.alloc (Below.refl _ _) (Nat.le_refl _) (.cells #[.int .i64 (-1), .int .i64 7] 3)))
            have HL_24 := Lib.hid (Own.lit2 w_8 w.heap.size (-1) 7 HD_8.out.size)
            have HLL3_24 := Lib.hid (HLL3_8.out.below (Below.alloc (Below.refl _ _) (Nat.le_refl _) (.cells #[.int .i64 (-1), .int .i64 7] 3)))
            obtain ⟨W_24, hW⟩ : ∃ W, W = w_8.alloc (.cells #[.int .i64 (-1), .int .i64 7] 3) := ⟨_, rfl⟩
            rw [← hW] at HD_24 HM_24 HL_24 HLL3_24 ⊢
            clear hW
            obtain ⟨B_24, hB⟩ : ∃ B, B = w_8.heap.size := ⟨_, rfl⟩
            rw [← hB] at HL_24 ⊢
            clear hB
            clear HD_8 HM_8 HLL3_8
            refine wpAnyH_take (i := 12) (oi := { dst := some 28, op := _, type := _, pos := _, after := _, guard := _ }) (v := ?_) rfl (by kernel_rfl) (by kernel_rfl) (by kernel_rfl) (fun _ _ _ h => h) (Or.inl ⟨by rfl, ?_⟩) (by assumption) ?_
            case refine_2 => ((intro w hSw; (try dsimp only at hSw); go_simp); try with_reducible rfl)
            try simp only [Act.put, List.setIfInBounds_toArray, List.set_cons_zero, List.set_cons_succ]
            refine wpAnyH_ready (rs := [8, 13]) (by kernel_rfl) (by simp) ?_
            refine AllReadyH.cons (o := { dst := some 24, op := _, type := _, pos := _, after := _, guard := _ }) rfl (fun K hK => ?_) (AllReadyH.cons (o := { dst := some 29, op := _, type := _, pos := _, after := _, guard := _ }) rfl (fun K hK => ?_) AllReadyH.nil)
            · skip
              have x1 := HLL3_24.out.cellAt c_4 (by omega)
              obtain ⟨x_27, hx⟩ : ∃ x, x = ([-1, (n : Int), (row : Int)] : List Int).getD c_4 0 := ⟨_, rfl⟩
              rw [← hx] at x1
              clear hx
              go_simp
              refine hK.out _ _ (trivial) (fun hHeld => ?_)
              clear hK K
              try simp only [Act.put, List.setIfInBounds_toArray, List.set_cons_zero, List.set_cons_succ]
              clear x1
              refine wpAnyH_take (i := 15) (oi := { dst := some 3, op := _, type := _, pos := _, after := _, guard := _ }) (v := ?_) rfl (by kernel_rfl) (by kernel_rfl) (by kernel_rfl) (fun _ _ _ h => h) (Or.inl ⟨by rfl, ?_⟩) (by assumption) ?_
              case refine_2 => ((intro w hSw; (try dsimp only at hSw); go_simp); try with_reducible rfl)
              try simp only [Act.put, List.setIfInBounds_toArray, List.set_cons_zero, List.set_cons_succ]
              refine wpAnyH_ready (rs := [13]) (by kernel_rfl) (by simp) ?_
              refine AllReadyH.cons (o := { dst := some 29, op := _, type := _, pos := _, after := _, guard := _ }) rfl (fun K hK => ?_) AllReadyH.nil
              have x1 := HL_24.out.cellAt c_8 (by omega)
              obtain ⟨x_29, hx⟩ : ∃ x, x = ([-1, 7] : List Int).getD c_8 0 := ⟨_, rfl⟩
              rw [← hx] at x1
              clear hx
              go_simp
              refine hK.out _ _ (trivial) (fun hHeld => ?_)
              clear hK K
              try simp only [Act.put, List.setIfInBounds_toArray, List.set_cons_zero, List.set_cons_succ]
              clear x1
              refine wpAnyH_take (i := 16) (oi := { dst := some 4, op := _, type := _, pos := _, after := _, guard := _ }) (v := ?_) rfl (by kernel_rfl) (by kernel_rfl) (by kernel_rfl) (fun _ _ _ h => h) (Or.inl ⟨by rfl, ?_⟩) (by assumption) ?_
              case refine_2 => ((intro w hSw; (try dsimp only at hSw); go_simp); try with_reducible rfl)
              try simp only [Act.put, List.setIfInBounds_toArray, List.set_cons_zero, List.set_cons_succ]
              refine wpAnyH_done (by kernel_rfl) ?_ _
              clear hHeld
              go_wp2_with fail
              go_ret3
              exact ⟨g, ad, cp, n, _, _, rfl, HN.out, HS.out, HM_24.out, HD_24.out.more (by omega)⟩
            · skip
              have x1 := HL_24.out.cellAt c_8 (by omega)
              obtain ⟨x_28, hx⟩ : ∃ x, x = ([-1, 7] : List Int).getD c_8 0 := ⟨_, rfl⟩
              rw [← hx] at x1
              clear hx
              go_simp
              refine hK.out _ _ (trivial) (fun hHeld => ?_)
              clear hK K
              try simp only [Act.put, List.setIfInBounds_toArray, List.set_cons_zero, List.set_cons_succ]
              clear x1
              refine wpAnyH_ready (rs := [8]) (by kernel_rfl) (by simp) ?_
              refine AllReadyH.cons (o := { dst := some 24, op := _, type := _, pos := _, after := _, guard := _ }) rfl (fun K hK => ?_) AllReadyH.nil
              have x1 := HLL3_24.out.cellAt c_4 (by omega)
              obtain ⟨x_30, hx⟩ : ∃ x, x = ([-1, (n : Int), (row : Int)] : List Int).getD c_4 0 := ⟨_, rfl⟩
              rw [← hx] at x1
              clear hx
              go_simp
              refine hK.out _ _ (trivial) (fun hHeld => ?_)
              clear hK K
              try simp only [Act.put, List.setIfInBounds_toArray, List.set_cons_zero, List.set_cons_succ]
              clear x1
              refine wpAnyH_take (i := 15) (oi := { dst := some 3, op := _, type := _, pos := _, after := _, guard := _ }) (v := ?_) rfl (by kernel_rfl) (by kernel_rfl) (by kernel_rfl) (fun _ _ _ h => h) (Or.inl ⟨by rfl, ?_⟩) (by assumption) ?_
              case refine_2 => ((intro w hSw; (try dsimp only at hSw); go_simp); try with_reducible rfl)
              try simp only [Act.put, List.setIfInBounds_toArray, List.set_cons_zero, List.set_cons_succ]
              refine wpAnyH_take (i := 16) (oi := { dst := some 4, op := _, type := _, pos := _, after := _, guard := _ }) (v := ?_) rfl (by kernel_rfl) (by kernel_rfl) (by kernel_rfl) (fun _ _ _ h => h) (Or.inl ⟨by rfl, ?_⟩) (by assumption) ?_
              case refine_2 => ((intro w hSw; (try dsimp only at hSw); go_simp); try with_reducible rfl)
              try simp only [Act.put, List.setIfInBounds_toArray, List.set_cons_zero, List.set_cons_succ]
              refine wpAnyH_done (by kernel_rfl) ?_ _
              clear hHeld
              go_wp2_with fail
              go_ret3
              exact ⟨g, ad, cp, n, _, _, rfl, HN.out, HS.out, HM_24.out, HD_24.out.more (by omega)⟩
      · skip
        go_simp
        refine hK.out _ _ (trivial) (fun hHeld => ?_)
        clear hK K
        try simp only [Act.put, List.setIfInBounds_toArray, List.set_cons_zero, List.set_cons_succ]
        have HD_5 := Lib.hid (HD_1.out.alloc (.cells #[.int .i64 (-1), .int .i64 7] 3))
        have HM_5 := Lib.hid (HM_1.out.below (Below.alloc (Below.refl _ _) (Nat.le_refl _) (.cells #[.int .i64 (-1), .int .i64 7] 3)))
        have HL_5 := Lib.hid (Own.lit2 W_1 w.heap.size (-1) 7 HD_1.out.size)
        have HLL3_5 := Lib.hid (HL_1.out.below (Below.alloc (Below.refl _ _) (Nat.le_refl _) (.cells #[.int .i64 (-1), .int .i64 7] 3)))
        obtain ⟨W_5, hW⟩ : ∃ W, W = W_1.alloc (.cells #[.int .i64 (-1), .int .i64 7] 3) := ⟨_, rfl⟩
        rw [← hW] at HD_5 HM_5 HL_5 HLL3_5 ⊢
        clear hW
        obtain ⟨B_5, hB⟩ : ∃ B, B = W_1.heap.size := ⟨_, rfl⟩
        rw [← hB] at HL_5 ⊢
        clear hB
        clear HD_1 HM_1 HL_1
        refine wpAnyH_ready (rs := [6]) (by kernel_rfl) (by simp) ?_
        refine AllReadyH.cons (o := { dst := some 22, op := _, type := _, pos := _, after := _, guard := _ }) rfl (fun K hK => ?_) AllReadyH.nil
        go_simp
        go_at_call 58
        refine (pickD w0 a m cap R (q + 72) 3 w _ HB.out hm (HD_5.out.more (by omega)) (by omega) (by omega) (by omega)).mono ?_
        rintro e w_31 ⟨c_31, hc_31, rfl, hd⟩
        have HD_31 := Lib.hid ((HD_5.out.more (show _ ≤ q + 72 by omega)).trans hd)
        have HM_31 := Lib.hid (HM_5.out.over HD_5.out hd)
        have i0_31 : (0 : Int) ≤ (c_31 : Int) := by omega
        have HLL3_31 := Lib.hid (HLL3_5.out.over HD_5.out hd)
        have HLL2_31 := Lib.hid (HL_5.out.over HD_5.out hd)
        clear hd HD_5 HM_5 HLL3_5 HL_5
        refine hK.out _ _ (trivial) (fun hHeld => ?_)
        clear hK K
        try simp only [Act.put, List.setIfInBounds_toArray, List.set_cons_zero, List.set_cons_succ]
        refine wpAnyH_take (i := 7) (oi := { dst := some 23, op := _, type := _, pos := _, after := _, guard := _ }) (v := ?_) rfl (by kernel_rfl) (by kernel_rfl) (by kernel_rfl) (fun _ _ _ h => h) (Or.inl ⟨by rfl, ?_⟩) (by assumption) ?_
        case refine_2 => ((intro w hSw; (try dsimp only at hSw); go_simp); try with_reducible rfl)
        try simp only [Act.put, List.setIfInBounds_toArray, List.set_cons_zero, List.set_cons_succ]
        refine wpAnyH_ready (rs := [8, 11]) (by kernel_rfl) (by simp) ?_
        refine AllReadyH.cons (o := { dst := some 24, op := _, type := _, pos := _, after := _, guard := _ }) rfl (fun K hK => ?_) (AllReadyH.cons (o := { dst := some 27, op := _, type := _, pos := _, after := _, guard := _ }) rfl (fun K hK => ?_) AllReadyH.nil)
        · skip
          have x1 := HLL3_31.out.cellAt c_31 (by omega)
          obtain ⟨x_32, hx⟩ : ∃ x, x = ([-1, (n : Int), (row : Int)] : List Int).getD c_31 0 := ⟨_, rfl⟩
          rw [← hx] at x1
          clear hx
          go_simp
          refine hK.out _ _ (trivial) (fun hHeld => ?_)
          clear hK K
          try simp only [Act.put, List.setIfInBounds_toArray, List.set_cons_zero, List.set_cons_succ]
          clear x1
          refine wpAnyH_ready (rs := [11]) (by kernel_rfl) (by simp) ?_
          refine AllReadyH.cons (o := { dst := some 27, op := _, type := _, pos := _, after := _, guard := _ }) rfl (fun K hK => ?_) AllReadyH.nil
          go_simp
          go_at_call 58
          refine (pickD w0 a m cap R (q + 73) 2 w _ HB.out hm (HD_31.out.more (by omega)) (by omega) (by omega) (by omega)).mono ?_
          rintro e w_34 ⟨c_34, hc_34, rfl, hd⟩
          have HD_34 := Lib.hid ((HD_31.out.more (show _ ≤ q + 73 by omega)).trans hd)
          have HM_34 := Lib.hid (HM_31.out.over HD_31.out hd)
          have i0_34 : (0 : Int) ≤ (c_34 : Int) := by omega
          have HLL3_34 := Lib.hid (HLL3_31.out.over HD_31.out hd)
          have HLL2_34 := Lib.hid (HLL2_31.out.over HD_31.out hd)
          clear hd HD_31 HM_31 HLL3_31 HLL2_31
          refine hK.out _ _ (trivial) (fun hHeld => ?_)
          clear hK K
          try simp only [Act.put, List.setIfInBounds_toArray, List.set_cons_zero, List.set_cons_succ]
          refine wpAnyH_take (i := 12) (oi := { dst := some 28, op := _, type := _, pos := _, after := _, guard := _ }) (v := ?_) rfl (by kernel_rfl) (by kernel_rfl) (by kernel_rfl) (fun _ _ _ h => h) (Or.inl ⟨by rfl, ?_⟩) (by assumption) ?_
          case refine_2 => ((intro w hSw; (try dsimp only at hSw); go_simp); try with_reducible rfl)
          try simp only [Act.put, List.setIfInBounds_toArray, List.set_cons_zero, List.set_cons_succ]
          refine wpAnyH_take (i := 14) (oi := { dst := some 2, op := _, type := _, pos := _, after := _, guard := _ }) (v := ?_) rfl (by kernel_rfl) (by kernel_rfl) (by kernel_rfl) (fun _ _ _ h => h) (Or.inl ⟨by rfl, ?_⟩) (by assumption) ?_
          case refine_2 => ((intro w hSw; (try dsimp only at hSw); go_simp); try with_reducible rfl)
          try simp only [Act.put, List.setIfInBounds_toArray, List.set_cons_zero, List.set_cons_succ]
          refine wpAnyH_take (i := 15) (oi := { dst := some 3, op := _, type := _, pos := _, after := _, guard := _ }) (v := ?_) rfl (by kernel_rfl) (by kernel_rfl) (by kernel_rfl) (fun _ _ _ h => h) (Or.inl ⟨by rfl, ?_⟩) (by assumption) ?_
          case refine_2 => ((intro w hSw; (try dsimp only at hSw); go_simp); try with_reducible rfl)
          try simp only [Act.put, List.setIfInBounds_toArray, List.set_cons_zero, List.set_cons_succ]
          refine wpAnyH_ready (rs := [13]) (by kernel_rfl) (by simp) ?_
          refine AllReadyH.cons (o := { dst := some 29, op := _, type := _, pos := _, after := _, guard := _ }) rfl (fun K hK => ?_) AllReadyH.nil
          have x1 := HLL2_34.out.cellAt c_34 (by omega)
          obtain ⟨x_35, hx⟩ : ∃ x, x = ([-1, 7] : List Int).getD c_34 0 := ⟨_, rfl⟩
          rw [← hx] at x1
          clear hx
          go_simp
          refine hK.out _ _ (trivial) (fun hHeld => ?_)
          clear hK K
          try simp only [Act.put, List.setIfInBounds_toArray, List.set_cons_zero, List.set_cons_succ]
          clear x1
          refine wpAnyH_take (i := 16) (oi := { dst := some 4, op := _, type := _, pos := _, after := _, guard := _ }) (v := ?_) rfl (by kernel_rfl) (by kernel_rfl) (by kernel_rfl) (fun _ _ _ h => h) (Or.inl ⟨by rfl, ?_⟩) (by assumption) ?_
          case refine_2 => ((intro w hSw; (try dsimp only at hSw); go_simp); try with_reducible rfl)
          try simp only [Act.put, List.setIfInBounds_toArray, List.set_cons_zero, List.set_cons_succ]
          refine wpAnyH_done (by kernel_rfl) ?_ _
          clear hHeld
          go_wp2_with fail
          go_ret3
          exact ⟨g, ad, cp, n, _, _, rfl, HN.out, HS.out, HM_34.out, HD_34.out.more (by omega)⟩
        · skip
          go_simp
          go_at_call 58
          refine (pickD w0 a m cap R (q + 73) 2 w _ HB.out hm (HD_31.out.more (by omega)) (by omega) (by omega) (by omega)).mono ?_
          rintro e w_33 ⟨c_33, hc_33, rfl, hd⟩
          have HD_33 := Lib.hid ((HD_31.out.more (show _ ≤ q + 73 by omega)).trans hd)
          have HM_33 := Lib.hid (HM_31.out.over HD_31.out hd)
          have i0_33 : (0 : Int) ≤ (c_33 : Int) := by omega
          have HLL3_33 := Lib.hid (HLL3_31.out.over HD_31.out hd)
          have HLL2_33 := Lib.hid (HLL2_31.out.over HD_31.out hd)
          clear hd HD_31 HM_31 HLL3_31 HLL2_31
          refine hK.out _ _ (trivial) (fun hHeld => ?_)
          clear hK K
          try simp only [Act.put, List.setIfInBounds_toArray, List.set_cons_zero, List.set_cons_succ]
          refine wpAnyH_take (i := 12) (oi := { dst := some 28, op := _, type := _, pos := _, after := _, guard := _ }) (v := ?_) rfl (by kernel_rfl) (by kernel_rfl) (by kernel_rfl) (fun _ _ _ h => h) (Or.inl ⟨by rfl, ?_⟩) (by assumption) ?_
          case refine_2 => ((intro w hSw; (try dsimp only at hSw); go_simp); try with_reducible rfl)
          try simp only [Act.put, List.setIfInBounds_toArray, List.set_cons_zero, List.set_cons_succ]
          refine wpAnyH_take (i := 14) (oi := { dst := some 2, op := _, type := _, pos := _, after := _, guard := _ }) (v := ?_) rfl (by kernel_rfl) (by kernel_rfl) (by kernel_rfl) (fun _ _ _ h => h) (Or.inl ⟨by rfl, ?_⟩) (by assumption) ?_
          case refine_2 => ((intro w hSw; (try dsimp only at hSw); go_simp); try with_reducible rfl)
          try simp only [Act.put, List.setIfInBounds_toArray, List.set_cons_zero, List.set_cons_succ]
          refine wpAnyH_ready (rs := [8, 13]) (by kernel_rfl) (by simp) ?_
          refine AllReadyH.cons (o := { dst := some 24, op := _, type := _, pos := _, after := _, guard := _ }) rfl (fun K hK => ?_) (AllReadyH.cons (o := { dst := some 29, op := _, type := _, pos := _, after := _, guard := _ }) rfl (fun K hK => ?_) AllReadyH.nil)
          · skip
            have x1 := HLL3_33.out.cellAt c_31 (by omega)
            obtain ⟨x_36, hx⟩ : ∃ x, x = ([-1, (n : Int), (row : Int)] : List Int).getD c_31 0 := ⟨_, rfl⟩
            rw [← hx] at x1
            clear hx
            go_simp
            refine hK.out _ _ (trivial) (fun hHeld => ?_)
            clear hK K
            try simp only [Act.put, List.setIfInBounds_toArray, List.set_cons_zero, List.set_cons_succ]
            clear x1
            refine wpAnyH_take (i := 15) (oi := { dst := some 3, op := _, type := _, pos := _, after := _, guard := _ }) (v := ?_) rfl (by kernel_rfl) (by kernel_rfl) (by kernel_rfl) (fun _ _ _ h => h) (Or.inl ⟨by rfl, ?_⟩) (by assumption) ?_
            case refine_2 => ((intro w hSw; (try dsimp only at hSw); go_simp); try with_reducible rfl)
            try simp only [Act.put, List.setIfInBounds_toArray, List.set_cons_zero, List.set_cons_succ]
            refine wpAnyH_ready (rs := [13]) (by kernel_rfl) (by simp) ?_
            refine AllReadyH.cons (o := { dst := some 29, op := _, type := _, pos := _, after := _, guard := _ }) rfl (fun K hK => ?_) AllReadyH.nil
            have x1 := HLL2_33.out.cellAt c_33 (by omega)
            obtain ⟨x_38, hx⟩ : ∃ x, x = ([-1, 7] : List Int).getD c_33 0 := ⟨_, rfl⟩
            rw [← hx] at x1
            clear hx
            go_simp
            refine hK.out _ _ (trivial) (fun hHeld => ?_)
            clear hK K
            try simp only [Act.put, List.setIfInBounds_toArray, List.set_cons_zero, List.set_cons_succ]
            clear x1
            refine wpAnyH_take (i := 16) (oi := { dst := some 4, op := _, type := _, pos := _, after := _, guard := _ }) (v := ?_) rfl (by kernel_rfl) (by kernel_rfl) (by kernel_rfl) (fun _ _ _ h => h) (Or.inl ⟨by rfl, ?_⟩) (by assumption) ?_
            case refine_2 => ((intro w hSw; (try dsimp only at hSw); go_simp); try with_reducible rfl)
            try simp only [Act.put, List.setIfInBounds_toArray, List.set_cons_zero, List.set_cons_succ]
            refine wpAnyH_done (by kernel_rfl) ?_ _
            clear hHeld
            go_wp2_with fail
            go_ret3
            exact ⟨g, ad, cp, n, _, _, rfl, HN.out, HS.out, HM_33.out, HD_33.out.more (by omega)⟩
          · skip
            have x1 := HLL2_33.out.cellAt c_33 (by omega)
            obtain ⟨x_37, hx⟩ : ∃ x, x = ([-1, 7] : List Int).getD c_33 0 := ⟨_, rfl⟩
            rw [← hx] at x1
            clear hx
            go_simp
            refine hK.out _ _ (trivial) (fun hHeld => ?_)
            clear hK K
            try simp only [Act.put, List.setIfInBounds_toArray, List.set_cons_zero, List.set_cons_succ]
            clear x1
            refine wpAnyH_ready (rs := [8]) (by kernel_rfl) (by simp) ?_
            refine AllReadyH.cons (o := { dst := some 24, op := _, type := _, pos := _, after := _, guard := _ }) rfl (fun K hK => ?_) AllReadyH.nil
            have x1 := HLL3_33.out.cellAt c_31 (by omega)
            obtain ⟨x_39, hx⟩ : ∃ x, x = ([-1, (n : Int), (row : Int)] : List Int).getD c_31 0 := ⟨_, rfl⟩
            rw [← hx] at x1
            clear hx
            go_simp
            refine hK.out _ _ (trivial) (fun hHeld => ?_)
            clear hK K
            try simp only [Act.put, List.setIfInBounds_toArray, List.set_cons_zero, List.set_cons_succ]
            clear x1
            refine wpAnyH_take (i := 15) (oi := { dst := some 3, op := _, type := _, pos := _, after := _, guard := _ }) (v := ?_) rfl (by kernel_rfl) (by kernel_rfl) (by kernel_rfl) (fun _ _ _ h => h) (Or.inl ⟨by rfl, ?_⟩) (by assumption) ?_
            case refine_2 => ((intro w hSw; (try dsimp only at hSw); go_simp); try with_reducible rfl)
            try simp only [Act.put, List.setIfInBounds_toArray, List.set_cons_zero, List.set_cons_succ]
            refine wpAnyH_take (i := 16) (oi := { dst := some 4, op := _, type := _, pos := _, after := _, guard := _ }) (v := ?_) rfl (by kernel_rfl) (by kernel_rfl) (by kernel_rfl) (fun _ _ _ h => h) (Or.inl ⟨by rfl, ?_⟩) (by assumption) ?_
            case refine_2 => ((intro w hSw; (try dsimp only at hSw); go_simp); try with_reducible rfl)
            try simp only [Act.put, List.setIfInBounds_toArray, List.set_cons_zero, List.set_cons_succ]
            refine wpAnyH_done (by kernel_rfl) ?_ _
            clear hHeld
            go_wp2_with fail
            go_ret3
            exact ⟨g, ad, cp, n, _, _, rfl, HN.out, HS.out, HM_33.out, HD_33.out.more (by omega)⟩
    · skip
      go_simp
      go_at_call 58
      refine (pickD w0 a m cap R (q + 72) 3 w _ HB.out hm (HDs.out.more (by omega)) (by omega) (by omega) (by omega)).mono ?_
      rintro e w_2 ⟨c_2, hc_2, rfl, hd⟩
      have HD_2 := Lib.hid ((HDs.out.more (show _ ≤ q + 72 by omega)).trans hd)
      have HM_2 := Lib.hid (HMs.out.over HDs.out hd)
      have i0_2 : (0 : Int) ≤ (c_2 : Int) := by omega
      clear hd HDs HMs
      refine hK.out _ _ (trivial) (fun hHeld => ?_)
      clear hK K
      try simp only [Act.put, List.setIfInBounds_toArray, List.set_cons_zero, List.set_cons_succ]
      refine wpAnyH_ready (rs := [4, 9, 11]) (by kernel_rfl) (by simp) ?_
      refine AllReadyH.cons (o := { dst := some 20, op := _, type := _, pos := _, after := _, guard := _ }) rfl (fun K hK => ?_) (AllReadyH.cons (o := { dst := some 25, op := _, type := _, pos := _, after := _, guard := _ }) rfl (fun K hK => ?_) (AllReadyH.cons (o := { dst := some 27, op := _, type := _, pos := _, after := _, guard := _ }) rfl (fun K hK => ?_) AllReadyH.nil))
      · skip
        go_simp
        refine hK.out _ _ (trivial) (fun hHeld => ?_)
        clear hK K
        try simp only [Act.put, List.setIfInBounds_toArray, List.set_cons_zero, List.set_cons_succ]
        have HD_40 := Lib.hid (HD_2.out.alloc (.cells #[.int .i64 (-1), .int .i64 (n : Nat), .int .i64 (row : Nat)] 3))
        have HM_40 := Lib.hid (HM_2.out.below (Below.alloc (Below.refl _ _) (Nat.le_refl _) (.cells #[.int .i64 (-1), .int .i64 (n : Nat), .int .i64 (row : Nat)] 3)))
        have HL_40 := Lib.hid (Own.lit3 w_2 w.heap.size (-1) (n : Int) (row : Int) HD_2.out.size)
        obtain ⟨W_40, hW⟩ : ∃ W, W = w_2.alloc (.cells #[.int .i64 (-1), .int .i64 (n : Nat), .int .i64 (row : Nat)] 3) := ⟨_, rfl⟩
        rw [← hW] at HD_40 HM_40 HL_40 ⊢
        clear hW
        obtain ⟨B_40, hB⟩ : ∃ B, B = w_2.heap.size := ⟨_, rfl⟩
        rw [← hB] at HL_40 ⊢
        clear hB
        clear HD_2 HM_2
        refine wpAnyH_take (i := 7) (oi := { dst := some 23, op := _, type := _, pos := _, after := _, guard := _ }) (v := ?_) rfl (by kernel_rfl) (by kernel_rfl) (by kernel_rfl) (fun _ _ _ h => h) (Or.inl ⟨by rfl, ?_⟩) (by assumption) ?_
        case refine_2 => ((intro w hSw; (try dsimp only at hSw); go_simp); try with_reducible rfl)
        try simp only [Act.put, List.setIfInBounds_toArray, List.set_cons_zero, List.set_cons_succ]
        refine wpAnyH_ready (rs := [8, 9, 11]) (by kernel_rfl) (by simp) ?_
        refine AllReadyH.cons (o := { dst := some 24, op := _, type := _, pos := _, after := _, guard := _ }) rfl (fun K hK => ?_) (AllReadyH.cons (o := { dst := some 25, op := _, type := _, pos := _, after := _, guard := _ }) rfl (fun K hK => ?_) (AllReadyH.cons (o := { dst := some 27, op := _, type := _, pos := _, after := _, guard := _ }) rfl (fun K hK => ?_) AllReadyH.nil))
        · skip
          have x1 := HL_40.out.cellAt c_2 (by omega)
          obtain ⟨x_43, hx⟩ : ∃ x, x = ([-1, (n : Int), (row : Int)] : List Int).getD c_2 0 := ⟨_, rfl⟩
          rw [← hx] at x1
          clear hx
          go_simp
          refine hK.out _ _ (trivial) (fun hHeld => ?_)
          clear hK K
          try simp only [Act.put, List.setIfInBounds_toArray, List.set_cons_zero, List.set_cons_succ]
          clear x1
          refine wpAnyH_ready (rs := [9, 11]) (by kernel_rfl) (by simp) ?_
          refine AllReadyH.cons (o := { dst := some 25, op := _, type := _, pos := _, after := _, guard := _ }) rfl (fun K hK => ?_) (AllReadyH.cons (o := { dst := some 27, op := _, type := _, pos := _, after := _, guard := _ }) rfl (fun K hK => ?_) AllReadyH.nil)
          · skip
            go_simp
            refine hK.out _ _ (trivial) (fun hHeld => ?_)
            clear hK K
            try simp only [Act.put, List.setIfInBounds_toArray, List.set_cons_zero, List.set_cons_succ]
            have HD_46 := Lib.hid (HD_40.out.alloc (.cells #[.int .i64 (-1), .int .i64 7] 3))
            have HM_46 := Lib.hid (HM_40.out.below (Below.alloc (Below.refl _ _) (Nat.le_refl _) (.cells #[.int .i64 (-1), .int .i64 7] 3)))
            have HL_46 := Lib.hid (Own.lit2 W_40 w.heap.size (-1) 7 HD_40.out.size)
            have HLL3_46 := Lib.hid (HL_40.out.below (Below.alloc (Below.refl _ _) (Nat.le_refl _) (.cells #[.int .i64 (-1), .int .i64 7] 3)))
            obtain ⟨W_46, hW⟩ : ∃ W, W = W_40.alloc (.cells #[.int .i64 (-1), .int .i64 7] 3) := ⟨_, rfl⟩
            rw [← hW] at HD_46 HM_46 HL_46 HLL3_46 ⊢
            clear hW
            obtain ⟨B_46, hB⟩ : ∃ B, B = W_40.heap.size := ⟨_, rfl⟩
            rw [← hB] at HL_46 ⊢
            clear hB
            clear HD_40 HM_40 HL_40
            refine wpAnyH_ready (rs := [11]) (by kernel_rfl) (by simp) ?_
            refine AllReadyH.cons (o := { dst := some 27, op := _, type := _, pos := _, after := _, guard := _ }) rfl (fun K hK => ?_) AllReadyH.nil
            go_simp
            go_at_call 58
            refine (pickD w0 a m cap R (q + 73) 2 w _ HB.out hm (HD_46.out.more (by omega)) (by omega) (by omega) (by omega)).mono ?_
            rintro e w_48 ⟨c_48, hc_48, rfl, hd⟩
            have HD_48 := Lib.hid ((HD_46.out.more (show _ ≤ q + 73 by omega)).trans hd)
            have HM_48 := Lib.hid (HM_46.out.over HD_46.out hd)
            have i0_48 : (0 : Int) ≤ (c_48 : Int) := by omega
            have HLL3_48 := Lib.hid (HLL3_46.out.over HD_46.out hd)
            have HLL2_48 := Lib.hid (HL_46.out.over HD_46.out hd)
            clear hd HD_46 HM_46 HLL3_46 HL_46
            refine hK.out _ _ (trivial) (fun hHeld => ?_)
            clear hK K
            try simp only [Act.put, List.setIfInBounds_toArray, List.set_cons_zero, List.set_cons_succ]
            refine wpAnyH_take (i := 12) (oi := { dst := some 28, op := _, type := _, pos := _, after := _, guard := _ }) (v := ?_) rfl (by kernel_rfl) (by kernel_rfl) (by kernel_rfl) (fun _ _ _ h => h) (Or.inl ⟨by rfl, ?_⟩) (by assumption) ?_
            case refine_2 => ((intro w hSw; (try dsimp only at hSw); go_simp); try with_reducible rfl)
            try simp only [Act.put, List.setIfInBounds_toArray, List.set_cons_zero, List.set_cons_succ]
            refine wpAnyH_take (i := 14) (oi := { dst := some 2, op := _, type := _, pos := _, after := _, guard := _ }) (v := ?_) rfl (by kernel_rfl) (by kernel_rfl) (by kernel_rfl) (fun _ _ _ h => h) (Or.inl ⟨by rfl, ?_⟩) (by assumption) ?_
            case refine_2 => ((intro w hSw; (try dsimp only at hSw); go_simp); try with_reducible rfl)
            try simp only [Act.put, List.setIfInBounds_toArray, List.set_cons_zero, List.set_cons_succ]
            refine wpAnyH_take (i := 15) (oi := { dst := some 3, op := _, type := _, pos := _, after := _, guard := _ }) (v := ?_) rfl (by kernel_rfl) (by kernel_rfl) (by kernel_rfl) (fun _ _ _ h => h) (Or.inl ⟨by rfl, ?_⟩) (by assumption) ?_
            case refine_2 => ((intro w hSw; (try dsimp only at hSw); go_simp); try with_reducible rfl)
            try simp only [Act.put, List.setIfInBounds_toArray, List.set_cons_zero, List.set_cons_succ]
            refine wpAnyH_ready (rs := [13]) (by kernel_rfl) (by simp) ?_
            refine AllReadyH.cons (o := { dst := some 29, op := _, type := _, pos := _, after := _, guard := _ }) rfl (fun K hK => ?_) AllReadyH.nil
            have x1 := HLL2_48.out.cellAt c_48 (by omega)
            obtain ⟨x_49, hx⟩ : ∃ x, x = ([-1, 7] : List Int).getD c_48 0 := ⟨_, rfl⟩
            rw [← hx] at x1
            clear hx
            go_simp
            refine hK.out _ _ (trivial) (fun hHeld => ?_)
            clear hK K
            try simp only [Act.put, List.setIfInBounds_toArray, List.set_cons_zero, List.set_cons_succ]
            clear x1
            refine wpAnyH_take (i := 16) (oi := { dst := some 4, op := _, type := _, pos := _, after := _, guard := _ }) (v := ?_) rfl (by kernel_rfl) (by kernel_rfl) (by kernel_rfl) (fun _ _ _ h => h) (Or.inl ⟨by rfl, ?_⟩) (by assumption) ?_
            case refine_2 => ((intro w hSw; (try dsimp only at hSw); go_simp); try with_reducible rfl)
            try simp only [Act.put, List.setIfInBounds_toArray, List.set_cons_zero, List.set_cons_succ]
            refine wpAnyH_done (by kernel_rfl) ?_ _
            clear hHeld
            go_wp2_with fail
            go_ret3
            exact ⟨g, ad, cp, n, _, _, rfl, HN.out, HS.out, HM_48.out, HD_48.out.more (by omega)⟩
          · skip
            go_simp
            go_at_call 58
            refine (pickD w0 a m cap R (q + 73) 2 w _ HB.out hm (HD_40.out.more (by omega)) (by omega) (by omega) (by omega)).mono ?_
            rintro e w_47 ⟨c_47, hc_47, rfl, hd⟩
            have HD_47 := Lib.hid ((HD_40.out.more (show _ ≤ q + 73 by omega)).trans hd)
            have HM_47 := Lib.hid (HM_40.out.over HD_40.out hd)
            have i0_47 : (0 : Int) ≤ (c_47 : Int) := by omega
            have HLL3_47 := Lib.hid (HL_40.out.over HD_40.out hd)
            clear hd HD_40 HM_40 HL_40
            refine hK.out _ _ (trivial) (fun hHeld => ?_)
            clear hK K
            try simp only [Act.put, List.setIfInBounds_toArray, List.set_cons_zero, List.set_cons_succ]
            refine wpAnyH_take (i := 14) (oi := { dst := some 2, op := _, type := _, pos := _, after := _, guard := _ }) (v := ?_) rfl (by kernel_rfl) (by kernel_rfl) (by kernel_rfl) (fun _ _ _ h => h) (Or.inl ⟨by rfl, ?_⟩) (by assumption) ?_
            case refine_2 => ((intro w hSw; (try dsimp only at hSw); go_simp); try with_reducible rfl)
            try simp only [Act.put, List.setIfInBounds_toArray, List.set_cons_zero, List.set_cons_succ]
            refine wpAnyH_take (i := 15) (oi := { dst := some 3, op := _, type := _, pos := _, after := _, guard := _ }) (v := ?_) rfl (by kernel_rfl) (by kernel_rfl) (by kernel_rfl) (fun _ _ _ h => h) (Or.inl ⟨by rfl, ?_⟩) (by assumption) ?_
            case refine_2 => ((intro w hSw; (try dsimp only at hSw); go_simp); try with_reducible rfl)
            try simp only [Act.put, List.setIfInBounds_toArray, List.set_cons_zero, List.set_cons_succ]
            refine wpAnyH_ready (rs := [9]) (by kernel_rfl) (by simp) ?_
            refine AllReadyH.cons (o := { dst := some 25, op := _, type := _, pos := _, after := _, guard := _ }) rfl (fun K hK => ?_) AllReadyH.nil
            go_simp
            refine hK.out _ _ (trivial) (fun hHeld => ?_)
            clear hK K
            try simp only [Act.put, List.setIfInBounds_toArray, List.set_cons_zero, List.set_cons_succ]
            have HD_50 := Lib.hid (HD_47.out.alloc (.cells #[.int .i64 (-1), .int .i64 7] 3))
            have HM_50 := Lib.hid (HM_47.out.below (Below.alloc (Below.refl _ _) (Nat.le_refl _) (.cells #[.int .i64 (-1), .int .i64 7] 3)))
            have HL_50 := Lib.hid (Own.lit2 w_47 w.heap.size (-1) 7 HD_47.out.size)
            have HLL3_50 := Lib.hid (HLL3_47.out.below (Below.alloc (Below.refl _ _) (Nat.le_refl _) (.cells #[.int .i64 (-1), .int .i64 7] 3)))
            obtain ⟨W_50, hW⟩ : ∃ W, W = w_47.alloc (.cells #[.int .i64 (-1), .int .i64 7] 3) := ⟨_, rfl⟩
            rw [← hW] at HD_50 HM_50 HL_50 HLL3_50 ⊢
            clear hW
            obtain ⟨B_50, hB⟩ : ∃ B, B = w_47.heap.size := ⟨_, rfl⟩
            rw [← hB] at HL_50 ⊢
            clear hB
            clear HD_47 HM_47 HLL3_47
            refine wpAnyH_take (i := 12) (oi := { dst := some 28, op := _, type := _, pos := _, after := _, guard := _ }) (v := ?_) rfl (by kernel_rfl) (by kernel_rfl) (by kernel_rfl) (fun _ _ _ h => h) (Or.inl ⟨by rfl, ?_⟩) (by assumption) ?_
            case refine_2 => ((intro w hSw; (try dsimp only at hSw); go_simp); try with_reducible rfl)
            try simp only [Act.put, List.setIfInBounds_toArray, List.set_cons_zero, List.set_cons_succ]
            refine wpAnyH_ready (rs := [13]) (by kernel_rfl) (by simp) ?_
            refine AllReadyH.cons (o := { dst := some 29, op := _, type := _, pos := _, after := _, guard := _ }) rfl (fun K hK => ?_) AllReadyH.nil
            have x1 := HL_50.out.cellAt c_47 (by omega)
            obtain ⟨x_51, hx⟩ : ∃ x, x = ([-1, 7] : List Int).getD c_47 0 := ⟨_, rfl⟩
            rw [← hx] at x1
            clear hx
            go_simp
            refine hK.out _ _ (trivial) (fun hHeld => ?_)
            clear hK K
            try simp only [Act.put, List.setIfInBounds_toArray, List.set_cons_zero, List.set_cons_succ]
            clear x1
            refine wpAnyH_take (i := 16) (oi := { dst := some 4, op := _, type := _, pos := _, after := _, guard := _ }) (v := ?_) rfl (by kernel_rfl) (by kernel_rfl) (by kernel_rfl) (fun _ _ _ h => h) (Or.inl ⟨by rfl, ?_⟩) (by assumption) ?_
            case refine_2 => ((intro w hSw; (try dsimp only at hSw); go_simp); try with_reducible rfl)
            try simp only [Act.put, List.setIfInBounds_toArray, List.set_cons_zero, List.set_cons_succ]
            refine wpAnyH_done (by kernel_rfl) ?_ _
            clear hHeld
            go_wp2_with fail
            go_ret3
            exact ⟨g, ad, cp, n, _, _, rfl, HN.out, HS.out, HM_50.out, HD_50.out.more (by omega)⟩
        · skip
          go_simp
          refine hK.out _ _ (trivial) (fun hHeld => ?_)
          clear hK K
          try simp only [Act.put, List.setIfInBounds_toArray, List.set_cons_zero, List.set_cons_succ]
          have HD_44 := Lib.hid (HD_40.out.alloc (.cells #[.int .i64 (-1), .int .i64 7] 3))
          have HM_44 := Lib.hid (HM_40.out.below (Below.alloc (Below.refl _ _) (Nat.le_refl _) (.cells #[.int .i64 (-1), .int .i64 7] 3)))
          have HL_44 := Lib.hid (Own.lit2 W_40 w.heap.size (-1) 7 HD_40.out.size)
          have HLL3_44 := Lib.hid (HL_40.out.below (Below.alloc (Below.refl _ _) (Nat.le_refl _) (.cells #[.int .i64 (-1), .int .i64 7] 3)))
          obtain ⟨W_44, hW⟩ : ∃ W, W = W_40.alloc (.cells #[.int .i64 (-1), .int .i64 7] 3) := ⟨_, rfl⟩
          rw [← hW] at HD_44 HM_44 HL_44 HLL3_44 ⊢
          clear hW
          obtain ⟨B_44, hB⟩ : ∃ B, B = W_40.heap.size := ⟨_, rfl⟩
          rw [← hB] at HL_44 ⊢
          clear hB
          clear HD_40 HM_40 HL_40
          refine wpAnyH_ready (rs := [8, 11]) (by kernel_rfl) (by simp) ?_
          refine AllReadyH.cons (o := { dst := some 24, op := _, type := _, pos := _, after := _, guard := _ }) rfl (fun K hK => ?_) (AllReadyH.cons (o := { dst := some 27, op := _, type := _, pos := _, after := _, guard := _ }) rfl (fun K hK => ?_) AllReadyH.nil)
          · skip
            have x1 := HLL3_44.out.cellAt c_2 (by omega)
            obtain ⟨x_52, hx⟩ : ∃ x, x = ([-1, (n : Int), (row : Int)] : List Int).getD c_2 0 := ⟨_, rfl⟩
            rw [← hx] at x1
            clear hx
            go_simp
            refine hK.out _ _ (trivial) (fun hHeld => ?_)
            clear hK K
            try simp only [Act.put, List.setIfInBounds_toArray, List.set_cons_zero, List.set_cons_succ]
            clear x1
            refine wpAnyH_ready (rs := [11]) (by kernel_rfl) (by simp) ?_
            refine AllReadyH.cons (o := { dst := some 27, op := _, type := _, pos := _, after := _, guard := _ }) rfl (fun K hK => ?_) AllReadyH.nil
            go_simp
            go_at_call 58
            refine (pickD w0 a m cap R (q + 73) 2 w _ HB.out hm (HD_44.out.more (by omega)) (by omega) (by omega) (by omega)).mono ?_
            rintro e w_54 ⟨c_54, hc_54, rfl, hd⟩
            have HD_54 := Lib.hid ((HD_44.out.more (show _ ≤ q + 73 by omega)).trans hd)
            have HM_54 := Lib.hid (HM_44.out.over HD_44.out hd)
            have i0_54 : (0 : Int) ≤ (c_54 : Int) := by omega
            have HLL3_54 := Lib.hid (HLL3_44.out.over HD_44.out hd)
            have HLL2_54 := Lib.hid (HL_44.out.over HD_44.out hd)
            clear hd HD_44 HM_44 HLL3_44 HL_44
            refine hK.out _ _ (trivial) (fun hHeld => ?_)
            clear hK K
            try simp only [Act.put, List.setIfInBounds_toArray, List.set_cons_zero, List.set_cons_succ]
            refine wpAnyH_take (i := 12) (oi := { dst := some 28, op := _, type := _, pos := _, after := _, guard := _ }) (v := ?_) rfl (by kernel_rfl) (by kernel_rfl) (by kernel_rfl) (fun _ _ _ h => h) (Or.inl ⟨by rfl, ?_⟩) (by assumption) ?_
            case refine_2 => ((intro w hSw; (try dsimp only at hSw); go_simp); try with_reducible rfl)
            try simp only [Act.put, List.setIfInBounds_toArray, List.set_cons_zero, List.set_cons_succ]
            refine wpAnyH_take (i := 14) (oi := { dst := some 2, op := _, type := _, pos := _, after := _, guard := _ }) (v := ?_) rfl (by kernel_rfl) (by kernel_rfl) (by kernel_rfl) (fun _ _ _ h => h) (Or.inl ⟨by rfl, ?_⟩) (by assumption) ?_
            case refine_2 => ((intro w hSw; (try dsimp only at hSw); go_simp); try with_reducible rfl)
            try simp only [Act.put, List.setIfInBounds_toArray, List.set_cons_zero, List.set_cons_succ]
            refine wpAnyH_take (i := 15) (oi := { dst := some 3, op := _, type := _, pos := _, after := _, guard := _ }) (v := ?_) rfl (by kernel_rfl) (by kernel_rfl) (by kernel_rfl) (fun _ _ _ h => h) (Or.inl ⟨by rfl, ?_⟩) (by assumption) ?_
            case refine_2 => ((intro w hSw; (try dsimp only at hSw); go_simp); try with_reducible rfl)
            try simp only [Act.put, List.setIfInBounds_toArray, List.set_cons_zero, List.set_cons_succ]
            refine wpAnyH_ready (rs := [13]) (by kernel_rfl) (by simp) ?_
            refine AllReadyH.cons (o := { dst := some 29, op := _, type := _, pos := _, after := _, guard := _ }) rfl (fun K hK => ?_) AllReadyH.nil
            have x1 := HLL2_54.out.cellAt c_54 (by omega)
            obtain ⟨x_55, hx⟩ : ∃ x, x = ([-1, 7] : List Int).getD c_54 0 := ⟨_, rfl⟩
            rw [← hx] at x1
            clear hx
            go_simp
            refine hK.out _ _ (trivial) (fun hHeld => ?_)
            clear hK K
            try simp only [Act.put, List.setIfInBounds_toArray, List.set_cons_zero, List.set_cons_succ]
            clear x1
            refine wpAnyH_take (i := 16) (oi := { dst := some 4, op := _, type := _, pos := _, after := _, guard := _ }) (v := ?_) rfl (by kernel_rfl) (by kernel_rfl) (by kernel_rfl) (fun _ _ _ h => h) (Or.inl ⟨by rfl, ?_⟩) (by assumption) ?_
            case refine_2 => ((intro w hSw; (try dsimp only at hSw); go_simp); try with_reducible rfl)
            try simp only [Act.put, List.setIfInBounds_toArray, List.set_cons_zero, List.set_cons_succ]
            refine wpAnyH_done (by kernel_rfl) ?_ _
            clear hHeld
            go_wp2_with fail
            go_ret3
            exact ⟨g, ad, cp, n, _, _, rfl, HN.out, HS.out, HM_54.out, HD_54.out.more (by omega)⟩
          · skip
            go_simp
            go_at_call 58
            refine (pickD w0 a m cap R (q + 73) 2 w _ HB.out hm (HD_44.out.more (by omega)) (by omega) (by omega) (by omega)).mono ?_
            rintro e w_53 ⟨c_53, hc_53, rfl, hd⟩
            have HD_53 := Lib.hid ((HD_44.out.more (show _ ≤ q + 73 by omega)).trans hd)
            have HM_53 := Lib.hid (HM_44.out.over HD_44.out hd)
            have i0_53 : (0 : Int) ≤ (c_53 : Int) := by omega
            have HLL3_53 := Lib.hid (HLL3_44.out.over HD_44.out hd)
            have HLL2_53 := Lib.hid (HL_44.out.over HD_44.out hd)
            clear hd HD_44 HM_44 HLL3_44 HL_44
            refine hK.out _ _ (trivial) (fun hHeld => ?_)
            clear hK K
            try simp only [Act.put, List.setIfInBounds_toArray, List.set_cons_zero, List.set_cons_succ]
            refine wpAnyH_take (i := 12) (oi := { dst := some 28, op := _, type := _, pos := _, after := _, guard := _ }) (v := ?_) rfl (by kernel_rfl) (by kernel_rfl) (by kernel_rfl) (fun _ _ _ h => h) (Or.inl ⟨by rfl, ?_⟩) (by assumption) ?_
            case refine_2 => ((intro w hSw; (try dsimp only at hSw); go_simp); try with_reducible rfl)
            try simp only [Act.put, List.setIfInBounds_toArray, List.set_cons_zero, List.set_cons_succ]
            refine wpAnyH_take (i := 14) (oi := { dst := some 2, op := _, type := _, pos := _, after := _, guard := _ }) (v := ?_) rfl (by kernel_rfl) (by kernel_rfl) (by kernel_rfl) (fun _ _ _ h => h) (Or.inl ⟨by rfl, ?_⟩) (by assumption) ?_
            case refine_2 => ((intro w hSw; (try dsimp only at hSw); go_simp); try with_reducible rfl)
            try simp only [Act.put, List.setIfInBounds_toArray, List.set_cons_zero, List.set_cons_succ]
            refine wpAnyH_ready (rs := [8, 13]) (by kernel_rfl) (by simp) ?_
            refine AllReadyH.cons (o := { dst := some 24, op := _, type := _, pos := _, after := _, guard := _ }) rfl (fun K hK => ?_) (AllReadyH.cons (o := { dst := some 29, op := _, type := _, pos := _, after := _, guard := _ }) rfl (fun K hK => ?_) AllReadyH.nil)
            · skip
              have x1 := HLL3_53.out.cellAt c_2 (by omega)
              obtain ⟨x_56, hx⟩ : ∃ x, x = ([-1, (n : Int), (row : Int)] : List Int).getD c_2 0 := ⟨_, rfl⟩
              rw [← hx] at x1
              clear hx
              go_simp
              refine hK.out _ _ (trivial) (fun hHeld => ?_)
              clear hK K
              try simp only [Act.put, List.setIfInBounds_toArray, List.set_cons_zero, List.set_cons_succ]
              clear x1
              refine wpAnyH_take (i := 15) (oi := { dst := some 3, op := _, type := _, pos := _, after := _, guard := _ }) (v := ?_) rfl (by kernel_rfl) (by kernel_rfl) (by kernel_rfl) (fun _ _ _ h => h) (Or.inl ⟨by rfl, ?_⟩) (by assumption) ?_
              case refine_2 => ((intro w hSw; (try dsimp only at hSw); go_simp); try with_reducible rfl)
              try simp only [Act.put, List.setIfInBounds_toArray, List.set_cons_zero, List.set_cons_succ]
              refine wpAnyH_ready (rs := [13]) (by kernel_rfl) (by simp) ?_
              refine AllReadyH.cons (o := { dst := some 29, op := _, type := _, pos := _, after := _, guard := _ }) rfl (fun K hK => ?_) AllReadyH.nil
              have x1 := HLL2_53.out.cellAt c_53 (by omega)
              obtain ⟨x_58, hx⟩ : ∃ x, x = ([-1, 7] : List Int).getD c_53 0 := ⟨_, rfl⟩
              rw [← hx] at x1
              clear hx
              go_simp
              refine hK.out _ _ (trivial) (fun hHeld => ?_)
              clear hK K
              try simp only [Act.put, List.setIfInBounds_toArray, List.set_cons_zero, List.set_cons_succ]
              clear x1
              refine wpAnyH_take (i := 16) (oi := { dst := some 4, op := _, type := _, pos := _, after := _, guard := _ }) (v := ?_) rfl (by kernel_rfl) (by kernel_rfl) (by kernel_rfl) (fun _ _ _ h => h) (Or.inl ⟨by rfl, ?_⟩) (by assumption) ?_
              case refine_2 => ((intro w hSw; (try dsimp only at hSw); go_simp); try with_reducible rfl)
              try simp only [Act.put, List.setIfInBounds_toArray, List.set_cons_zero, List.set_cons_succ]
              refine wpAnyH_done (by kernel_rfl) ?_ _
              clear hHeld
              go_wp2_with fail
              go_ret3
              exact ⟨g, ad, cp, n, _, _, rfl, HN.out, HS.out, HM_53.out, HD_53.out.more (by omega)⟩
            · skip
              have x1 := HLL2_53.out.cellAt c_53 (by omega)
              obtain ⟨x_57, hx⟩ : ∃ x, x = ([-1, 7] : List Int).getD c_53 0 := ⟨_, rfl⟩
              rw [← hx] at x1
              clear hx
              go_simp
              refine hK.out _ _ (trivial) (fun hHeld => ?_)
              clear hK K
              try simp only [Act.put, List.setIfInBounds_toArray, List.set_cons_zero, List.set_cons_succ]
              clear x1
              refine wpAnyH_ready (rs := [8]) (by kernel_rfl) (by simp) ?_
              refine AllReadyH.cons (o := { dst := some 24, op := _, type := _, pos := _, after := _, guard := _ }) rfl (fun K hK => ?_) AllReadyH.nil
              have x1 := HLL3_53.out.cellAt c_2 (by omega)
              obtain ⟨x_59, hx⟩ : ∃ x, x = ([-1, (n : Int), (row : Int)] : List Int).getD c_2 0 := ⟨_, rfl⟩
              rw [← hx] at x1
              clear hx
              go_simp
              refine hK.out _ _ (trivial) (fun hHeld => ?_)
              clear hK K
              try simp only [Act.put, List.setIfInBounds_toArray, List.set_cons_zero, List.set_cons_succ]
              clear x1
              refine wpAnyH_take (i := 15) (oi := { dst := some 3, op := _, type := _, pos := _, after := _, guard := _ }) (v := ?_) rfl (by kernel_rfl) (by kernel_rfl) (by kernel_rfl) (fun _ _ _ h => h) (Or.inl ⟨by rfl, ?_⟩) (by assumption) ?_
              case refine_2 => ((intro w hSw; (try dsimp only at hSw); go_simp); try with_reducible rfl)
              try simp only [Act.put, List.setIfInBounds_toArray, List.set_cons_zero, List.set_cons_succ]
              refine wpAnyH_take (i := 16) (oi := { dst := some 4, op := _, type := _, pos := _, after := _, guard := _ }) (v := ?_) rfl (by kernel_rfl) (by kernel_rfl) (by kernel_rfl) (fun _ _ _ h => h) (Or.inl ⟨by rfl, ?_⟩) (by assumption) ?_
              case refine_2 => ((intro w hSw; (try dsimp only at hSw); go_simp); try with_reducible rfl)
              try simp only [Act.put, List.setIfInBounds_toArray, List.set_cons_zero, List.set_cons_succ]
              refine wpAnyH_done (by kernel_rfl) ?_ _
              clear hHeld
              go_wp2_with fail
              go_ret3
              exact ⟨g, ad, cp, n, _, _, rfl, HN.out, HS.out, HM_53.out, HD_53.out.more (by omega)⟩
        · skip
          go_simp
          go_at_call 58
          refine (pickD w0 a m cap R (q + 73) 2 w _ HB.out hm (HD_40.out.more (by omega)) (by omega) (by omega) (by omega)).mono ?_
          rintro e w_45 ⟨c_45, hc_45, rfl, hd⟩
          have HD_45 := Lib.hid ((HD_40.out.more (show _ ≤ q + 73 by omega)).trans hd)
          have HM_45 := Lib.hid (HM_40.out.over HD_40.out hd)
          have i0_45 : (0 : Int) ≤ (c_45 : Int) := by omega
          have HLL3_45 := Lib.hid (HL_40.out.over HD_40.out hd)
          clear hd HD_40 HM_40 HL_40
          refine hK.out _ _ (trivial) (fun hHeld => ?_)
          clear hK K
          try simp only [Act.put, List.setIfInBounds_toArray, List.set_cons_zero, List.set_cons_succ]
          refine wpAnyH_take (i := 14) (oi := { dst := some 2, op := _, type := _, pos := _, after := _, guard := _ }) (v := ?_) rfl (by kernel_rfl) (by kernel_rfl) (by kernel_rfl) (fun _ _ _ h => h) (Or.inl ⟨by rfl, ?_⟩) (by assumption) ?_
          case refine_2 => ((intro w hSw; (try dsimp only at hSw); go_simp); try with_reducible rfl)
          try simp only [Act.put, List.setIfInBounds_toArray, List.set_cons_zero, List.set_cons_succ]
          refine wpAnyH_ready (rs := [8, 9]) (by kernel_rfl) (by simp) ?_
          refine AllReadyH.cons (o := { dst := some 24, op := _, type := _, pos := _, after := _, guard := _ }) rfl (fun K hK => ?_) (AllReadyH.cons (o := { dst := some 25, op := _, type := _, pos := _, after := _, guard := _ }) rfl (fun K hK => ?_) AllReadyH.nil)
          · skip
            have x1 := HLL3_45.out.cellAt c_2 (by omega)
            obtain ⟨x_60, hx⟩ : ∃ x, x = ([-1, (n : Int), (row : Int)] : List Int).getD c_2 0 := ⟨_, rfl⟩
            rw [← hx] at x1
            clear hx
            go_simp
            refine hK.out _ _ (trivial) (fun hHeld => ?_)
            clear hK K
            try simp only [Act.put, List.setIfInBounds_toArray, List.set_cons_zero, List.set_cons_succ]
            clear x1
            refine wpAnyH_take (i := 15) (oi := { dst := some 3, op := _, type := _, pos := _, after := _, guard := _ }) (v := ?_) rfl (by kernel_rfl) (by kernel_rfl) (by kernel_rfl) (fun _ _ _ h => h) (Or.inl ⟨by rfl, ?_⟩) (by assumption) ?_
            case refine_2 => ((intro w hSw; (try dsimp only at hSw); go_simp); try with_reducible rfl)
            try simp only [Act.put, List.setIfInBounds_toArray, List.set_cons_zero, List.set_cons_succ]
            refine wpAnyH_ready (rs := [9]) (by kernel_rfl) (by simp) ?_
            refine AllReadyH.cons (o := { dst := some 25, op := _, type := _, pos := _, after := _, guard := _ }) rfl (fun K hK => ?_) AllReadyH.nil
            go_simp
            refine hK.out _ _ (trivial) (fun hHeld => ?_)
            clear hK K
            try simp only [Act.put, List.setIfInBounds_toArray, List.set_cons_zero, List.set_cons_succ]
            have HD_62 := Lib.hid (HD_45.out.alloc (.cells #[.int .i64 (-1), .int .i64 7] 3))
            have HM_62 := Lib.hid (HM_45.out.below (Below.alloc (Below.refl _ _) (Nat.le_refl _) (.cells #[.int .i64 (-1), .int .i64 7] 3)))
            have HL_62 := Lib.hid (Own.lit2 w_45 w.heap.size (-1) 7 HD_45.out.size)
            have HLL3_62 := Lib.hid (HLL3_45.out.below (Below.alloc (Below.refl _ _) (Nat.le_refl _) (.cells #[.int .i64 (-1), .int .i64 7] 3)))
            obtain ⟨W_62, hW⟩ : ∃ W, W = w_45.alloc (.cells #[.int .i64 (-1), .int .i64 7] 3) := ⟨_, rfl⟩
            rw [← hW] at HD_62 HM_62 HL_62 HLL3_62 ⊢
            clear hW
            obtain ⟨B_62, hB⟩ : ∃ B, B = w_45.heap.size := ⟨_, rfl⟩
            rw [← hB] at HL_62 ⊢
            clear hB
            clear HD_45 HM_45 HLL3_45
            refine wpAnyH_take (i := 12) (oi := { dst := some 28, op := _, type := _, pos := _, after := _, guard := _ }) (v := ?_) rfl (by kernel_rfl) (by kernel_rfl) (by kernel_rfl) (fun _ _ _ h => h) (Or.inl ⟨by rfl, ?_⟩) (by assumption) ?_
            case refine_2 => ((intro w hSw; (try dsimp only at hSw); go_simp); try with_reducible rfl)
            try simp only [Act.put, List.setIfInBounds_toArray, List.set_cons_zero, List.set_cons_succ]
            refine wpAnyH_ready (rs := [13]) (by kernel_rfl) (by simp) ?_
            refine AllReadyH.cons (o := { dst := some 29, op := _, type := _, pos := _, after := _, guard := _ }) rfl (fun K hK => ?_) AllReadyH.nil
            have x1 := HL_62.out.cellAt c_45 (by omega)
            obtain ⟨x_63, hx⟩ : ∃ x, x = ([-1, 7] : List Int).getD c_45 0 := ⟨_, rfl⟩
            rw [← hx] at x1
            clear hx
            go_simp
            refine hK.out _ _ (trivial) (fun hHeld => ?_)
            clear hK K
            try simp only [Act.put, List.setIfInBounds_toArray, List.set_cons_zero, List.set_cons_succ]
            clear x1
            refine wpAnyH_take (i := 16) (oi := { dst := some 4, op := _, type := _, pos := _, after := _, guard := _ }) (v := ?_) rfl (by kernel_rfl) (by kernel_rfl) (by kernel_rfl) (fun _ _ _ h => h) (Or.inl ⟨by rfl, ?_⟩) (by assumption) ?_
            case refine_2 => ((intro w hSw; (try dsimp only at hSw); go_simp); try with_reducible rfl)
            try simp only [Act.put, List.setIfInBounds_toArray, List.set_cons_zero, List.set_cons_succ]
            refine wpAnyH_done (by kernel_rfl) ?_ _
            clear hHeld
            go_wp2_with fail
            go_ret3
            exact ⟨g, ad, cp, n, _, _, rfl, HN.out, HS.out, HM_62.out, HD_62.out.more (by omega)⟩
          · skip
            go_simp
            refine hK.out _ _ (trivial) (fun hHeld => ?_)
            clear hK K
            try simp only [Act.put, List.setIfInBounds_toArray, List.set_cons_zero, List.set_cons_succ]
            have HD_61 := Lib.hid (HD_45.out.alloc (.cells #[.int .i64 (-1), .int .i64 7] 3))
            have HM_61 := Lib.hid (HM_45.out.below (Below.alloc (Below.refl _ _) (Nat.le_refl _) (.cells #[.int .i64 (-1), .int .i64 7] 3)))
            have HL_61 := Lib.hid (Own.lit2 w_45 w.heap.size (-1) 7 HD_45.out.size)
            have HLL3_61 := Lib.hid (HLL3_45.out.below (Below.alloc (Below.refl _ _) (Nat.le_refl _) (.cells #[.int .i64 (-1), .int .i64 7] 3)))
            obtain ⟨W_61, hW⟩ : ∃ W, W = w_45.alloc (.cells #[.int .i64 (-1), .int .i64 7] 3) := ⟨_, rfl⟩
            rw [← hW] at HD_61 HM_61 HL_61 HLL3_61 ⊢
            clear hW
            obtain ⟨B_61, hB⟩ : ∃ B, B = w_45.heap.size := ⟨_, rfl⟩
            rw [← hB] at HL_61 ⊢
            clear hB
            clear HD_45 HM_45 HLL3_45
            refine wpAnyH_take (i := 12) (oi := { dst := some 28, op := _, type := _, pos := _, after := _, guard := _ }) (v := ?_) rfl (by kernel_rfl) (by kernel_rfl) (by kernel_rfl) (fun _ _ _ h => h) (Or.inl ⟨by rfl, ?_⟩) (by assumption) ?_
            case refine_2 => ((intro w hSw; (try dsimp only at hSw); go_simp); try with_reducible rfl)
            try simp only [Act.put, List.setIfInBounds_toArray, List.set_cons_zero, List.set_cons_succ]
            refine wpAnyH_ready (rs := [8, 13]) (by kernel_rfl) (by simp) ?_
            refine AllReadyH.cons (o := { dst := some 24, op := _, type := _, pos := _, after := _, guard := _ }) rfl (fun K hK => ?_) (AllReadyH.cons (o := { dst := some 29, op := _, type := _, pos := _, after := _, guard := _ }) rfl (fun K hK => ?_) AllReadyH.nil)
            · skip
              have x1 := HLL3_61.out.cellAt c_2 (by omega)
              obtain ⟨x_64, hx⟩ : ∃ x, x = ([-1, (n : Int), (row : Int)] : List Int).getD c_2 0 := ⟨_, rfl⟩
              rw [← hx] at x1
              clear hx
              go_simp
              refine hK.out _ _ (trivial) (fun hHeld => ?_)
              clear hK K
              try simp only [Act.put, List.setIfInBounds_toArray, List.set_cons_zero, List.set_cons_succ]
              clear x1
              refine wpAnyH_take (i := 15) (oi := { dst := some 3, op := _, type := _, pos := _, after := _, guard := _ }) (v := ?_) rfl (by kernel_rfl) (by kernel_rfl) (by kernel_rfl) (fun _ _ _ h => h) (Or.inl ⟨by rfl, ?_⟩) (by assumption) ?_
              case refine_2 => ((intro w hSw; (try dsimp only at hSw); go_simp); try with_reducible rfl)
              try simp only [Act.put, List.setIfInBounds_toArray, List.set_cons_zero, List.set_cons_succ]
              refine wpAnyH_ready (rs := [13]) (by kernel_rfl) (by simp) ?_
              refine AllReadyH.cons (o := { dst := some 29, op := _, type := _, pos := _, after := _, guard := _ }) rfl (fun K hK => ?_) AllReadyH.nil
              have x1 := HL_61.out.cellAt c_45 (by omega)
              obtain ⟨x_66, hx⟩ : ∃ x, x = ([-1, 7] : List Int).getD c_45 0 := ⟨_, rfl⟩
              rw [← hx] at x1
              clear hx
              go_simp
              refine hK.out _ _ (trivial) (fun hHeld => ?_)
              clear hK K
              try simp only [Act.put, List.setIfInBounds_toArray, List.set_cons_zero, List.set_cons_succ]
              clear x1
              refine wpAnyH_take (i := 16) (oi := { dst := some 4, op := _, type := _, pos := _, after := _, guard := _ }) (v := ?_) rfl (by kernel_rfl) (by kernel_rfl) (by kernel_rfl) (fun _ _ _ h => h) (Or.inl ⟨by rfl, ?_⟩) (by assumption) ?_
              case refine_2 => ((intro w hSw; (try dsimp only at hSw); go_simp); try with_reducible rfl)
              try simp only [Act.put, List.setIfInBounds_toArray, List.set_cons_zero, List.set_cons_succ]
              refine wpAnyH_done (by kernel_rfl) ?_ _
              clear hHeld
              go_wp2_with fail
              go_ret3
              exact ⟨g, ad, cp, n, _, _, rfl, HN.out, HS.out, HM_61.out, HD_61.out.more (by omega)⟩
            · skip
              have x1 := HL_61.out.cellAt c_45 (by omega)
              obtain ⟨x_65, hx⟩ : ∃ x, x = ([-1, 7] : List Int).getD c_45 0 := ⟨_, rfl⟩
              rw [← hx] at x1
              clear hx
              go_simp
              refine hK.out _ _ (trivial) (fun hHeld => ?_)
              clear hK K
              try simp only [Act.put, List.setIfInBounds_toArray, List.set_cons_zero, List.set_cons_succ]
              clear x1
              refine wpAnyH_ready (rs := [8]) (by kernel_rfl) (by simp) ?_
              refine AllReadyH.cons (o := { dst := some 24, op := _, type := _, pos := _, after := _, guard := _ }) rfl (fun K hK => ?_) AllReadyH.nil
              have x1 := HLL3_61.out.cellAt c_2 (by omega)
              obtain ⟨x_67, hx⟩ : ∃ x, x = ([-1, (n : Int), (row : Int)] : List Int).getD c_2 0 := ⟨_, rfl⟩
              rw [← hx] at x1
              clear hx
              go_simp
              refine hK.out _ _ (trivial) (fun hHeld => ?_)
              clear hK K
              try simp only [Act.put, List.setIfInBounds_toArray, List.set_cons_zero, List.set_cons_succ]
              clear x1
              refine wpAnyH_take (i := 15) (oi := { dst := some 3, op := _, type := _, pos := _, after := _, guard := _ }) (v := ?_) rfl (by kernel_rfl) (by kernel_rfl) (by kernel_rfl) (fun _ _ _ h => h) (Or.inl ⟨by rfl, ?_⟩) (by assumption) ?_
              case refine_2 => ((intro w hSw; (try dsimp only at hSw); go_simp); try with_reducible rfl)
              try simp only [Act.put, List.setIfInBounds_toArray, List.set_cons_zero, List.set_cons_succ]
              refine wpAnyH_take (i := 16) (oi := { dst := some 4, op := _, type := _, pos := _, after := _, guard := _ }) (v := ?_) rfl (by kernel_rfl) (by kernel_rfl) (by kernel_rfl) (fun _ _ _ h => h) (Or.inl ⟨by rfl, ?_⟩) (by assumption) ?_
              case refine_2 => ((intro w hSw; (try dsimp only at hSw); go_simp); try with_reducible rfl)
              try simp only [Act.put, List.setIfInBounds_toArray, List.set_cons_zero, List.set_cons_succ]
              refine wpAnyH_done (by kernel_rfl) ?_ _
              clear hHeld
              go_wp2_with fail
              go_ret3
              exact ⟨g, ad, cp, n, _, _, rfl, HN.out, HS.out, HM_61.out, HD_61.out.more (by omega)⟩
      · skip
        go_simp
        refine hK.out _ _ (trivial) (fun hHeld => ?_)
        clear hK K
        try simp only [Act.put, List.setIfInBounds_toArray, List.set_cons_zero, List.set_cons_succ]
        have HD_41 := Lib.hid (HD_2.out.alloc (.cells #[.int .i64 (-1), .int .i64 7] 3))
        have HM_41 := Lib.hid (HM_2.out.below (Below.alloc (Below.refl _ _) (Nat.le_refl _) (.cells #[.int .i64 (-1), .int .i64 7] 3)))
        have HL_41 := Lib.hid (Own.lit2 w_2 w.heap.size (-1) 7 HD_2.out.size)
        obtain ⟨W_41, hW⟩ : ∃ W, W = w_2.alloc (.cells #[.int .i64 (-1), .int .i64 7] 3) := ⟨_, rfl⟩
        rw [← hW] at HD_41 HM_41 HL_41 ⊢
        clear hW
        obtain ⟨B_41, hB⟩ : ∃ B, B = w_2.heap.size := ⟨_, rfl⟩
        rw [← hB] at HL_41 ⊢
        clear hB
        clear HD_2 HM_2
        refine wpAnyH_ready (rs := [4, 11]) (by kernel_rfl) (by simp) ?_
        refine AllReadyH.cons (o := { dst := some 20, op := _, type := _, pos := _, after := _, guard := _ }) rfl (fun K hK => ?_) (AllReadyH.cons (o := { dst := some 27, op := _, type := _, pos := _, after := _, guard := _ }) rfl (fun K hK => ?_) AllReadyH.nil)
        · skip
          go_simp
          refine hK.out _ _ (trivial) (fun hHeld => ?_)
          clear hK K
          try simp only [Act.put, List.setIfInBounds_toArray, List.set_cons_zero, List.set_cons_succ]
          have HD_68 := Lib.hid (HD_41.out.alloc (.cells #[.int .i64 (-1), .int .i64 (n : Nat), .int .i64 (row : Nat)] 3))
          have HM_68 := Lib.hid (HM_41.out.below (Below.alloc (Below.refl _ _) (Nat.le_refl _) (.cells #[.int .i64 (-1), .int .i64 (n : Nat), .int .i64 (row : Nat)] 3)))
          have HL_68 := Lib.hid (Own.lit3 W_41 w.heap.size (-1) (n : Int) (row : Int) HD_41.out.size)
          have HLL2_68 := Lib.hid (HL_41.out.below (Below.alloc (Below.refl _ _) (Nat.le_refl _) (.cells #[.int .i64 (-1), .int .i64 (n : Nat), .int .i64 (row : Nat)] 3)))
          obtain ⟨W_68, hW⟩ : ∃ W, W = W_41.alloc (.cells #[.int .i64 (-1), .int .i64 (n : Nat), .int .i64 (row : Nat)] 3) := ⟨_, rfl⟩
          rw [← hW] at HD_68 HM_68 HL_68 HLL2_68 ⊢
          clear hW
          obtain ⟨B_68, hB⟩ : ∃ B, B = W_41.heap.size := ⟨_, rfl⟩
          rw [← hB] at HL_68 ⊢
          clear hB
          clear HD_41 HM_41 HL_41
          refine wpAnyH_take (i := 7) (oi := { dst := some 23, op := _, type := _, pos := _, after := _, guard := _ }) (v := ?_) rfl (by kernel_rfl) (by kernel_rfl) (by kernel_rfl) (fun _ _ _ h => h) (Or.inl ⟨by rfl, ?_⟩) (by assumption) ?_
          case refine_2 => ((intro w hSw; (try dsimp only at hSw); go_simp); try with_reducible rfl)
          try simp only [Act.put, List.setIfInBounds_toArray, List.set_cons_zero, List.set_cons_succ]
          refine wpAnyH_ready (rs := [8, 11]) (by kernel_rfl) (by simp) ?_
          refine AllReadyH.cons (o := { dst := some 24, op := _, type := _, pos := _, after := _, guard := _ }) rfl (fun K hK => ?_) (AllReadyH.cons (o := { dst := some 27, op := _, type := _, pos := _, after := _, guard := _ }) rfl (fun K hK => ?_) AllReadyH.nil)
          · skip
            have x1 := HL_68.out.cellAt c_2 (by omega)
            obtain ⟨x_70, hx⟩ : ∃ x, x = ([-1, (n : Int), (row : Int)] : List Int).getD c_2 0 := ⟨_, rfl⟩
            rw [← hx] at x1
            clear hx
            go_simp
            refine hK.out _ _ (trivial) (fun hHeld => ?_)
            clear hK K
            try simp only [Act.put, List.setIfInBounds_toArray, List.set_cons_zero, List.set_cons_succ]
            clear x1
            refine wpAnyH_ready (rs := [11]) (by kernel_rfl) (by simp) ?_
            refine AllReadyH.cons (o := { dst := some 27, op := _, type := _, pos := _, after := _, guard := _ }) rfl (fun K hK => ?_) AllReadyH.nil
            go_simp
            go_at_call 58
            refine (pickD w0 a m cap R (q + 73) 2 w _ HB.out hm (HD_68.out.more (by omega)) (by omega) (by omega) (by omega)).mono ?_
            rintro e w_72 ⟨c_72, hc_72, rfl, hd⟩
            have HD_72 := Lib.hid ((HD_68.out.more (show _ ≤ q + 73 by omega)).trans hd)
            have HM_72 := Lib.hid (HM_68.out.over HD_68.out hd)
            have i0_72 : (0 : Int) ≤ (c_72 : Int) := by omega
            have HLL3_72 := Lib.hid (HL_68.out.over HD_68.out hd)
            have HLL2_72 := Lib.hid (HLL2_68.out.over HD_68.out hd)
            clear hd HD_68 HM_68 HL_68 HLL2_68
            refine hK.out _ _ (trivial) (fun hHeld => ?_)
            clear hK K
            try simp only [Act.put, List.setIfInBounds_toArray, List.set_cons_zero, List.set_cons_succ]
            refine wpAnyH_take (i := 12) (oi := { dst := some 28, op := _, type := _, pos := _, after := _, guard := _ }) (v := ?_) rfl (by kernel_rfl) (by kernel_rfl) (by kernel_rfl) (fun _ _ _ h => h) (Or.inl ⟨by rfl, ?_⟩) (by assumption) ?_
            case refine_2 => ((intro w hSw; (try dsimp only at hSw); go_simp); try with_reducible rfl)
            try simp only [Act.put, List.setIfInBounds_toArray, List.set_cons_zero, List.set_cons_succ]
            refine wpAnyH_take (i := 14) (oi := { dst := some 2, op := _, type := _, pos := _, after := _, guard := _ }) (v := ?_) rfl (by kernel_rfl) (by kernel_rfl) (by kernel_rfl) (fun _ _ _ h => h) (Or.inl ⟨by rfl, ?_⟩) (by assumption) ?_
            case refine_2 => ((intro w hSw; (try dsimp only at hSw); go_simp); try with_reducible rfl)
            try simp only [Act.put, List.setIfInBounds_toArray, List.set_cons_zero, List.set_cons_succ]
            refine wpAnyH_take (i := 15) (oi := { dst := some 3, op := _, type := _, pos := _, after := _, guard := _ }) (v := ?_) rfl (by kernel_rfl) (by kernel_rfl) (by kernel_rfl) (fun _ _ _ h => h) (Or.inl ⟨by rfl, ?_⟩) (by assumption) ?_
            case refine_2 => ((intro w hSw; (try dsimp only at hSw); go_simp); try with_reducible rfl)
            try simp only [Act.put, List.setIfInBounds_toArray, List.set_cons_zero, List.set_cons_succ]
            refine wpAnyH_ready (rs := [13]) (by kernel_rfl) (by simp) ?_
            refine AllReadyH.cons (o := { dst := some 29, op := _, type := _, pos := _, after := _, guard := _ }) rfl (fun K hK => ?_) AllReadyH.nil
            have x1 := HLL2_72.out.cellAt c_72 (by omega)
            obtain ⟨x_73, hx⟩ : ∃ x, x = ([-1, 7] : List Int).getD c_72 0 := ⟨_, rfl⟩
            rw [← hx] at x1
            clear hx
            go_simp
            refine hK.out _ _ (trivial) (fun hHeld => ?_)
            clear hK K
            try simp only [Act.put, List.setIfInBounds_toArray, List.set_cons_zero, List.set_cons_succ]
            clear x1
            refine wpAnyH_take (i := 16) (oi := { dst := some 4, op := _, type := _, pos := _, after := _, guard := _ }) (v := ?_) rfl (by kernel_rfl) (by kernel_rfl) (by kernel_rfl) (fun _ _ _ h => h) (Or.inl ⟨by rfl, ?_⟩) (by assumption) ?_
            case refine_2 => ((intro w hSw; (try dsimp only at hSw); go_simp); try with_reducible rfl)
            try simp only [Act.put, List.setIfInBounds_toArray, List.set_cons_zero, List.set_cons_succ]
            refine wpAnyH_done (by kernel_rfl) ?_ _
            clear hHeld
            go_wp2_with fail
            go_ret3
            exact ⟨g, ad, cp, n, _, _, rfl, HN.out, HS.out, HM_72.out, HD_72.out.more (by omega)⟩
          · skip
            go_simp
            go_at_call 58
            refine (pickD w0 a m cap R (q + 73) 2 w _ HB.out hm (HD_68.out.more (by omega)) (by omega) (by omega) (by omega)).mono ?_
            rintro e w_71 ⟨c_71, hc_71, rfl, hd⟩
            have HD_71 := Lib.hid ((HD_68.out.more (show _ ≤ q + 73 by omega)).trans hd)
            have HM_71 := Lib.hid (HM_68.out.over HD_68.out hd)
            have i0_71 : (0 : Int) ≤ (c_71 : Int) := by omega
            have HLL3_71 := Lib.hid (HL_68.out.over HD_68.out hd)
            have HLL2_71 := Lib.hid (HLL2_68.out.over HD_68.out hd)
            clear hd HD_68 HM_68 HL_68 HLL2_68
            refine hK.out _ _ (trivial) (fun hHeld => ?_)
            clear hK K
            try simp only [Act.put, List.setIfInBounds_toArray, List.set_cons_zero, List.set_cons_succ]
            refine wpAnyH_take (i := 12) (oi := { dst := some 28, op := _, type := _, pos := _, after := _, guard := _ }) (v := ?_) rfl (by kernel_rfl) (by kernel_rfl) (by kernel_rfl) (fun _ _ _ h => h) (Or.inl ⟨by rfl, ?_⟩) (by assumption) ?_
            case refine_2 => ((intro w hSw; (try dsimp only at hSw); go_simp); try with_reducible rfl)
            try simp only [Act.put, List.setIfInBounds_toArray, List.set_cons_zero, List.set_cons_succ]
            refine wpAnyH_take (i := 14) (oi := { dst := some 2, op := _, type := _, pos := _, after := _, guard := _ }) (v := ?_) rfl (by kernel_rfl) (by kernel_rfl) (by kernel_rfl) (fun _ _ _ h => h) (Or.inl ⟨by rfl, ?_⟩) (by assumption) ?_
            case refine_2 => ((intro w hSw; (try dsimp only at hSw); go_simp); try with_reducible rfl)
            try simp only [Act.put, List.setIfInBounds_toArray, List.set_cons_zero, List.set_cons_succ]
            refine wpAnyH_ready (rs := [8, 13]) (by kernel_rfl) (by simp) ?_
            refine AllReadyH.cons (o := { dst := some 24, op := _, type := _, pos := _, after := _, guard := _ }) rfl (fun K hK => ?_) (AllReadyH.cons (o := { dst := some 29, op := _, type := _, pos := _, after := _, guard := _ }) rfl (fun K hK => ?_) AllReadyH.nil)
            · skip
              have x1 := HLL3_71.out.cellAt c_2 (by omega)
              obtain ⟨x_74, hx⟩ : ∃ x, x = ([-1, (n : Int), (row : Int)] : List Int).getD c_2 0 := ⟨_, rfl⟩
              rw [← hx] at x1
              clear hx
              go_simp
              refine hK.out _ _ (trivial) (fun hHeld => ?_)
              clear hK K
              try simp only [Act.put, List.setIfInBounds_toArray, List.set_cons_zero, List.set_cons_succ]
              clear x1
              refine wpAnyH_take (i := 15) (oi := { dst := some 3, op := _, type := _, pos := _, after := _, guard := _ }) (v := ?_) rfl (by kernel_rfl) (by kernel_rfl) (by kernel_rfl) (fun _ _ _ h => h) (Or.inl ⟨by rfl, ?_⟩) (by assumption) ?_
              case refine_2 => ((intro w hSw; (try dsimp only at hSw); go_simp); try with_reducible rfl)
              try simp only [Act.put, List.setIfInBounds_toArray, List.set_cons_zero, List.set_cons_succ]
              refine wpAnyH_ready (rs := [13]) (by kernel_rfl) (by simp) ?_
              refine AllReadyH.cons (o := { dst := some 29, op := _, type := _, pos := _, after := _, guard := _ }) rfl (fun K hK => ?_) AllReadyH.nil
              have x1 := HLL2_71.out.cellAt c_71 (by omega)
              obtain ⟨x_76, hx⟩ : ∃ x, x = ([-1, 7] : List Int).getD c_71 0 := ⟨_, rfl⟩
              rw [← hx] at x1
              clear hx
              go_simp
              refine hK.out _ _ (trivial) (fun hHeld => ?_)
              clear hK K
              try simp only [Act.put, List.setIfInBounds_toArray, List.set_cons_zero, List.set_cons_succ]
              clear x1
              refine wpAnyH_take (i := 16) (oi := { dst := some 4, op := _, type := _, pos := _, after := _, guard := _ }) (v := ?_) rfl (by kernel_rfl) (by kernel_rfl) (by kernel_rfl) (fun _ _ _ h => h) (Or.inl ⟨by rfl, ?_⟩) (by assumption) ?_
              case refine_2 => ((intro w hSw; (try dsimp only at hSw); go_simp); try with_reducible rfl)
              try simp only [Act.put, List.setIfInBounds_toArray, List.set_cons_zero, List.set_cons_succ]
              refine wpAnyH_done (by kernel_rfl) ?_ _
              clear hHeld
              go_wp2_with fail
              go_ret3
              exact ⟨g, ad, cp, n, _, _, rfl, HN.out, HS.out, HM_71.out, HD_71.out.more (by omega)⟩
            · skip
              have x1 := HLL2_71.out.cellAt c_71 (by omega)
              obtain ⟨x_75, hx⟩ : ∃ x, x = ([-1, 7] : List Int).getD c_71 0 := ⟨_, rfl⟩
              rw [← hx] at x1
              clear hx
              go_simp
              refine hK.out _ _ (trivial) (fun hHeld => ?_)
              clear hK K
              try simp only [Act.put, List.setIfInBounds_toArray, List.set_cons_zero, List.set_cons_succ]
              clear x1
              refine wpAnyH_ready (rs := [8]) (by kernel_rfl) (by simp) ?_
              refine AllReadyH.cons (o := { dst := some 24, op := _, type := _, pos := _, after := _, guard := _ }) rfl (fun K hK => ?_) AllReadyH.nil
              have x1 := HLL3_71.out.cellAt c_2 (by omega)
              obtain ⟨x_77, hx⟩ : ∃ x, x = ([-1, (n : Int), (row : Int)] : List Int).getD c_2 0 := ⟨_, rfl⟩
              rw [← hx] at x1
              clear hx
              go_simp
              refine hK.out _ _ (trivial) (fun hHeld => ?_)
              clear hK K
              try simp only [Act.put, List.setIfInBounds_toArray, List.set_cons_zero, List.set_cons_succ]
              clear x1
              refine wpAnyH_take (i := 15) (oi := { dst := some 3, op := _, type := _, pos := _, after := _, guard := _ }) (v := ?_) rfl (by kernel_rfl) (by kernel_rfl) (by kernel_rfl) (fun _ _ _ h => h) (Or.inl ⟨by rfl, ?_⟩) (by assumption) ?_
              case refine_2 => ((intro w hSw; (try dsimp only at hSw); go_simp); try with_reducible rfl)
              try simp only [Act.put, List.setIfInBounds_toArray, List.set_cons_zero, List.set_cons_succ]
              refine wpAnyH_take (i := 16) (oi := { dst := some 4, op := _, type := _, pos := _, after := _, guard := _ }) (v := ?_) rfl (by kernel_rfl) (by kernel_rfl) (by kernel_rfl) (fun _ _ _ h => h) (Or.inl ⟨by rfl, ?_⟩) (by assumption) ?_
              case refine_2 => ((intro w hSw; (try dsimp only at hSw); go_simp); try with_reducible rfl)
              try simp only [Act.put, List.setIfInBounds_toArray, List.set_cons_zero, List.set_cons_succ]
              refine wpAnyH_done (by kernel_rfl) ?_ _
              clear hHeld
              go_wp2_with fail
              go_ret3
              exact ⟨g, ad, cp, n, _, _, rfl, HN.out, HS.out, HM_71.out, HD_71.out.more (by omega)⟩
        · skip
          go_simp
          go_at_call 58
          refine (pickD w0 a m cap R (q + 73) 2 w _ HB.out hm (HD_41.out.more (by omega)) (by omega) (by omega) (by omega)).mono ?_
          rintro e w_69 ⟨c_69, hc_69, rfl, hd⟩
          have HD_69 := Lib.hid ((HD_41.out.more (show _ ≤ q + 73 by omega)).trans hd)
          have HM_69 := Lib.hid (HM_41.out.over HD_41.out hd)
          have i0_69 : (0 : Int) ≤ (c_69 : Int) := by omega
          have HLL2_69 := Lib.hid (HL_41.out.over HD_41.out hd)
          clear hd HD_41 HM_41 HL_41
          refine hK.out _ _ (trivial) (fun hHeld => ?_)
          clear hK K
          try simp only [Act.put, List.setIfInBounds_toArray, List.set_cons_zero, List.set_cons_succ]
          refine wpAnyH_take (i := 12) (oi := { dst := some 28, op := _, type := _, pos := _, after := _, guard := _ }) (v := ?_) rfl (by kernel_rfl) (by kernel_rfl) (by kernel_rfl) (fun _ _ _ h => h) (Or.inl ⟨by rfl, ?_⟩) (by assumption) ?_
          case refine_2 => ((intro w hSw; (try dsimp only at hSw); go_simp); try with_reducible rfl)
          try simp only [Act.put, List.setIfInBounds_toArray, List.set_cons_zero, List.set_cons_succ]
          refine wpAnyH_take (i := 14) (oi := { dst := some 2, op := _, type := _, pos := _, after := _, guard := _ }) (v := ?_) rfl (by kernel_rfl) (by kernel_rfl) (by kernel_rfl) (fun _ _ _ h => h) (Or.inl ⟨by rfl, ?_⟩) (by assumption) ?_
          case refine_2 => ((intro w hSw; (try dsimp only at hSw); go_simp); try with_reducible rfl)
          try simp only [Act.put, List.setIfInBounds_toArray, List.set_cons_zero, List.set_cons_succ]
          refine wpAnyH_ready (rs := [4, 13]) (by kernel_rfl) (by simp) ?_
          refine AllReadyH.cons (o := { dst := some 20, op := _, type := _, pos := _, after := _, guard := _ }) rfl (fun K hK => ?_) (AllReadyH.cons (o := { dst := some 29, op := _, type := _, pos := _, after := _, guard := _ }) rfl (fun K hK => ?_) AllReadyH.nil)
          · skip
            go_simp
            refine hK.out _ _ (trivial) (fun hHeld => ?_)
            clear hK K
            try simp only [Act.put, List.setIfInBounds_toArray, List.set_cons_zero, List.set_cons_succ]
            have HD_78 := Lib.hid (HD_69.out.alloc (.cells #[.int .i64 (-1), .int .i64 (n : Nat), .int .i64 (row : Nat)] 3))
            have HM_78 := Lib.hid (HM_69.out.below (Below.alloc (Below.refl _ _) (Nat.le_refl _) (.cells #[.int .i64 (-1), .int .i64 (n : Nat), .int .i64 (row : Nat)] 3)))
            have HL_78 := Lib.hid (Own.lit3 w_69 w.heap.size (-1) (n : Int) (row : Int) HD_69.out.size)
            have HLL2_78 := Lib.hid (HLL2_69.out.below (Below.alloc (Below.refl _ _) (Nat.le_refl _) (.cells #[.int .i64 (-1), .int .i64 (n : Nat), .int .i64 (row : Nat)] 3)))
            obtain ⟨W_78, hW⟩ : ∃ W, W = w_69.alloc (.cells #[.int .i64 (-1), .int .i64 (n : Nat), .int .i64 (row : Nat)] 3) := ⟨_, rfl⟩
            rw [← hW] at HD_78 HM_78 HL_78 HLL2_78 ⊢
            clear hW
            obtain ⟨B_78, hB⟩ : ∃ B, B = w_69.heap.size := ⟨_, rfl⟩
            rw [← hB] at HL_78 ⊢
            clear hB
            clear HD_69 HM_69 HLL2_69
            refine wpAnyH_take (i := 7) (oi := { dst := some 23, op := _, type := _, pos := _, after := _, guard := _ }) (v := ?_) rfl (by kernel_rfl) (by kernel_rfl) (by kernel_rfl) (fun _ _ _ h => h) (Or.inl ⟨by rfl, ?_⟩) (by assumption) ?_
            case refine_2 => ((intro w hSw; (try dsimp only at hSw); go_simp); try with_reducible rfl)
            try simp only [Act.put, List.setIfInBounds_toArray, List.set_cons_zero, List.set_cons_succ]
            refine wpAnyH_ready (rs := [8, 13]) (by kernel_rfl) (by simp) ?_
            refine AllReadyH.cons (o := { dst := some 24, op := _, type := _, pos := _, after := _, guard := _ }) rfl (fun K hK => ?_) (AllReadyH.cons (o := { dst := some 29, op := _, type := _, pos := _, after := _, guard := _ }) rfl (fun K hK => ?_) AllReadyH.nil)
            · skip
              have x1 := HL_78.out.cellAt c_2 (by omega)
              obtain ⟨x_80, hx⟩ : ∃ x, x = ([-1, (n : Int), (row : Int)] : List Int).getD c_2 0 := ⟨_, rfl⟩
              rw [← hx] at x1
              clear hx
              go_simp
              refine hK.out _ _ (trivial) (fun hHeld => ?_)
              clear hK K
              try simp only [Act.put, List.setIfInBounds_toArray, List.set_cons_zero, List.set_cons_succ]
              clear x1
              refine wpAnyH_take (i := 15) (oi := { dst := some 3, op := _, type := _, pos := _, after := _, guard := _ }) (v := ?_) rfl (by kernel_rfl) (by kernel_rfl) (by kernel_rfl) (fun _ _ _ h => h) (Or.inl ⟨by rfl, ?_⟩) (by assumption) ?_
              case refine_2 => ((intro w hSw; (try dsimp only at hSw); go_simp); try with_reducible rfl)
              try simp only [Act.put, List.setIfInBounds_toArray, List.set_cons_zero, List.set_cons_succ]
              refine wpAnyH_ready (rs := [13]) (by kernel_rfl) (by simp) ?_
              refine AllReadyH.cons (o := { dst := some 29, op := _, type := _, pos := _, after := _, guard := _ }) rfl (fun K hK => ?_) AllReadyH.nil
              have x1 := HLL2_78.out.cellAt c_69 (by omega)
              obtain ⟨x_82, hx⟩ : ∃ x, x = ([-1, 7] : List Int).getD c_69 0 := ⟨_, rfl⟩
              rw [← hx] at x1
              clear hx
              go_simp
              refine hK.out _ _ (trivial) (fun hHeld => ?_)
              clear hK K
              try simp only [Act.put, List.setIfInBounds_toArray, List.set_cons_zero, List.set_cons_succ]
              clear x1
              refine wpAnyH_take (i := 16) (oi := { dst := some 4, op := _, type := _, pos := _, after := _, guard := _ }) (v := ?_) rfl (by kernel_rfl) (by kernel_rfl) (by kernel_rfl) (fun _ _ _ h => h) (Or.inl ⟨by rfl, ?_⟩) (by assumption) ?_
              case refine_2 => ((intro w hSw; (try dsimp only at hSw); go_simp); try with_reducible rfl)
              try simp only [Act.put, List.setIfInBounds_toArray, List.set_cons_zero, List.set_cons_succ]
              refine wpAnyH_done (by kernel_rfl) ?_ _
              clear hHeld
              go_wp2_with fail
              go_ret3
              exact ⟨g, ad, cp, n, _, _, rfl, HN.out, HS.out, HM_78.out, HD_78.out.more (by omega)⟩
            · skip
              have x1 := HLL2_78.out.cellAt c_69 (by omega)
              obtain ⟨x_81, hx⟩ : ∃ x, x = ([-1, 7] : List Int).getD c_69 0 := ⟨_, rfl⟩
              rw [← hx] at x1
              clear hx
              go_simp
              refine hK.out _ _ (trivial) (fun hHeld => ?_)
              clear hK K
              try simp only [Act.put, List.setIfInBounds_toArray, List.set_cons_zero, List.set_cons_succ]
              clear x1
              refine wpAnyH_ready (rs := [8]) (by kernel_rfl) (by simp) ?_
              refine AllReadyH.cons (o := { dst := some 24, op := _, type := _, pos := _, after := _, guard := _ }) rfl (fun K hK => ?_) AllReadyH.nil
              have x1 := HL_78.out.cellAt c_2 (by omega)
              obtain ⟨x_83, hx⟩ : ∃ x, x = ([-1, (n : Int), (row : Int)] : List Int).getD c_2 0 := ⟨_, rfl⟩
              rw [← hx] at x1
              clear hx
              go_simp
              refine hK.out _ _ (trivial) (fun hHeld => ?_)
              clear hK K
              try simp only [Act.put, List.setIfInBounds_toArray, List.set_cons_zero, List.set_cons_succ]
              clear x1
              refine wpAnyH_take (i := 15) (oi := { dst := some 3, op := _, type := _, pos := _, after := _, guard := _ }) (v := ?_) rfl (by kernel_rfl) (by kernel_rfl) (by kernel_rfl) (fun _ _ _ h => h) (Or.inl ⟨by rfl, ?_⟩) (by assumption) ?_
              case refine_2 => ((intro w hSw; (try dsimp only at hSw); go_simp); try with_reducible rfl)
              try simp only [Act.put, List.setIfInBounds_toArray, List.set_cons_zero, List.set_cons_succ]
              refine wpAnyH_take (i := 16) (oi := { dst := some 4, op := _, type := _, pos := _, after := _, guard := _ }) (v := ?_) rfl (by kernel_rfl) (by kernel_rfl) (by kernel_rfl) (fun _ _ _ h => h) (Or.inl ⟨by rfl, ?_⟩) (by assumption) ?_
              case refine_2 => ((intro w hSw; (try dsimp only at hSw); go_simp); try with_reducible rfl)
              try simp only [Act.put, List.setIfInBounds_toArray, List.set_cons_zero, List.set_cons_succ]
              refine wpAnyH_done (by kernel_rfl) ?_ _
              clear hHeld
              go_wp2_with fail
              go_ret3
              exact ⟨g, ad, cp, n, _, _, rfl, HN.out, HS.out, HM_78.out, HD_78.out.more (by omega)⟩
          · skip
            have x1 := HLL2_69.out.cellAt c_69 (by omega)
            obtain ⟨x_79, hx⟩ : ∃ x, x = ([-1, 7] : List Int).getD c_69 0 := ⟨_, rfl⟩
            rw [← hx] at x1
            clear hx
            go_simp
            refine hK.out _ _ (trivial) (fun hHeld => ?_)
            clear hK K
            try simp only [Act.put, List.setIfInBounds_toArray, List.set_cons_zero, List.set_cons_succ]
            clear x1
            refine wpAnyH_ready (rs := [4]) (by kernel_rfl) (by simp) ?_
            refine AllReadyH.cons (o := { dst := some 20, op := _, type := _, pos := _, after := _, guard := _ }) rfl (fun K hK => ?_) AllReadyH.nil
            go_simp
            refine hK.out _ _ (trivial) (fun hHeld => ?_)
            clear hK K
            try simp only [Act.put, List.setIfInBounds_toArray, List.set_cons_zero, List.set_cons_succ]
            have HD_84 := Lib.hid (HD_69.out.alloc (.cells #[.int .i64 (-1), .int .i64 (n : Nat), .int .i64 (row : Nat)] 3))
            have HM_84 := Lib.hid (HM_69.out.below (Below.alloc (Below.refl _ _) (Nat.le_refl _) (.cells #[.int .i64 (-1), .int .i64 (n : Nat), .int .i64 (row : Nat)] 3)))
            have HL_84 := Lib.hid (Own.lit3 w_69 w.heap.size (-1) (n : Int) (row : Int) HD_69.out.size)
            have HLL2_84 := Lib.hid (HLL2_69.out.below (Below.alloc (Below.refl _ _) (Nat.le_refl _) (.cells #[.int .i64 (-1), .int .i64 (n : Nat), .int .i64 (row : Nat)] 3)))
            obtain ⟨W_84, hW⟩ : ∃ W, W = w_69.alloc (.cells #[.int .i64 (-1), .int .i64 (n : Nat), .int .i64 (row : Nat)] 3) := ⟨_, rfl⟩
            rw [← hW] at HD_84 HM_84 HL_84 HLL2_84 ⊢
            clear hW
            obtain ⟨B_84, hB⟩ : ∃ B, B = w_69.heap.size := ⟨_, rfl⟩
            rw [← hB] at HL_84 ⊢
            clear hB
            clear HD_69 HM_69 HLL2_69
            refine wpAnyH_take (i := 7) (oi := { dst := some 23, op := _, type := _, pos := _, after := _, guard := _ }) (v := ?_) rfl (by kernel_rfl) (by kernel_rfl) (by kernel_rfl) (fun _ _ _ h => h) (Or.inl ⟨by rfl, ?_⟩) (by assumption) ?_
            case refine_2 => ((intro w hSw; (try dsimp only at hSw); go_simp); try with_reducible rfl)
            try simp only [Act.put, List.setIfInBounds_toArray, List.set_cons_zero, List.set_cons_succ]
            refine wpAnyH_ready (rs := [8]) (by kernel_rfl) (by simp) ?_
            refine AllReadyH.cons (o := { dst := some 24, op := _, type := _, pos := _, after := _, guard := _ }) rfl (fun K hK => ?_) AllReadyH.nil
            have x1 := HL_84.out.cellAt c_2 (by omega)
            obtain ⟨x_85, hx⟩ : ∃ x, x = ([-1, (n : Int), (row : Int)] : List Int).getD c_2 0 := ⟨_, rfl⟩
            rw [← hx] at x1
            clear hx
            go_simp
            refine hK.out _ _ (trivial) (fun hHeld => ?_)
            clear hK K
            try simp only [Act.put, List.setIfInBounds_toArray, List.set_cons_zero, List.set_cons_succ]
            clear x1
            refine wpAnyH_take (i := 15) (oi := { dst := some 3, op := _, type := _, pos := _, after := _, guard := _ }) (v := ?_) rfl (by kernel_rfl) (by kernel_rfl) (by kernel_rfl) (fun _ _ _ h => h) (Or.inl ⟨by rfl, ?_⟩) (by assumption) ?_
            case refine_2 => ((intro w hSw; (try dsimp only at hSw); go_simp); try with_reducible rfl)
            try simp only [Act.put, List.setIfInBounds_toArray, List.set_cons_zero, List.set_cons_succ]
            refine wpAnyH_take (i := 16) (oi := { dst := some 4, op := _, type := _, pos := _, after := _, guard := _ }) (v := ?_) rfl (by kernel_rfl) (by kernel_rfl) (by kernel_rfl) (fun _ _ _ h => h) (Or.inl ⟨by rfl, ?_⟩) (by assumption) ?_
            case refine_2 => ((intro w hSw; (try dsimp only at hSw); go_simp); try with_reducible rfl)
            try simp only [Act.put, List.setIfInBounds_toArray, List.set_cons_zero, List.set_cons_succ]
            refine wpAnyH_done (by kernel_rfl) ?_ _
            clear hHeld
            go_wp2_with fail
            go_ret3
            exact ⟨g, ad, cp, n, _, _, rfl, HN.out, HS.out, HM_84.out, HD_84.out.more (by omega)⟩
      · skip
        go_simp
        go_at_call 58
        refine (pickD w0 a m cap R (q + 73) 2 w _ HB.out hm (HD_2.out.more (by omega)) (by omega) (by omega) (by omega)).mono ?_
        rintro e w_42 ⟨c_42, hc_42, rfl, hd⟩
        have HD_42 := Lib.hid ((HD_2.out.more (show _ ≤ q + 73 by omega)).trans hd)
        have HM_42 := Lib.hid (HM_2.out.over HD_2.out hd)
        have i0_42 : (0 : Int) ≤ (c_42 : Int) := by omega
        clear hd HD_2 HM_2
        refine hK.out _ _ (trivial) (fun hHeld => ?_)
        clear hK K
        try simp only [Act.put, List.setIfInBounds_toArray, List.set_cons_zero, List.set_cons_succ]
        refine wpAnyH_take (i := 14) (oi := { dst := some 2, op := _, type := _, pos := _, after := _, guard := _ }) (v := ?_) rfl (by kernel_rfl) (by kernel_rfl) (by kernel_rfl) (fun _ _ _ h => h) (Or.inl ⟨by rfl, ?_⟩) (by assumption) ?_
        case refine_2 => ((intro w hSw; (try dsimp only at hSw); go_simp); try with_reducible rfl)
        try simp only [Act.put, List.setIfInBounds_toArray, List.set_cons_zero, List.set_cons_succ]
        refine wpAnyH_ready (rs := [4, 9]) (by kernel_rfl) (by simp) ?_
        refine AllReadyH.cons (o := { dst := some 20, op := _, type := _, pos := _, after := _, guard := _ }) rfl (fun K hK => ?_) (AllReadyH.cons (o := { dst := some 25, op := _, type := _, pos := _, after := _, guard := _ }) rfl (fun K hK => ?_) AllReadyH.nil)
        · skip
          go_simp
          refine hK.out _ _ (trivial) (fun hHeld => ?_)
          clear hK K
          try simp only [Act.put, List.setIfInBounds_toArray, List.set_cons_zero, List.set_cons_succ]
          have HD_86 := Lib.hid (HD_42.out.alloc (.cells #[.int .i64 (-1), .int .i64 (n : Nat), .int .i64 (row : Nat)] 3))
          have HM_86 := Lib.hid (HM_42.out.below (Below.alloc (Below.refl _ _) (Nat.le_refl _) (.cells #[.int .i64 (-1), .int .i64 (n : Nat), .int .i64 (row : Nat)] 3)))
          have HL_86 := Lib.hid (Own.lit3 w_42 w.heap.size (-1) (n : Int) (row : Int) HD_42.out.size)
          obtain ⟨W_86, hW⟩ : ∃ W, W = w_42.alloc (.cells #[.int .i64 (-1), .int .i64 (n : Nat), .int .i64 (row : Nat)] 3) := ⟨_, rfl⟩
          rw [← hW] at HD_86 HM_86 HL_86 ⊢
          clear hW
          obtain ⟨B_86, hB⟩ : ∃ B, B = w_42.heap.size := ⟨_, rfl⟩
          rw [← hB] at HL_86 ⊢
          clear hB
          clear HD_42 HM_42
          refine wpAnyH_take (i := 7) (oi := { dst := some 23, op := _, type := _, pos := _, after := _, guard := _ }) (v := ?_) rfl (by kernel_rfl) (by kernel_rfl) (by kernel_rfl) (fun _ _ _ h => h) (Or.inl ⟨by rfl, ?_⟩) (by assumption) ?_
          case refine_2 => ((intro w hSw; (try dsimp only at hSw); go_simp); try with_reducible rfl)
          try simp only [Act.put, List.setIfInBounds_toArray, List.set_cons_zero, List.set_cons_succ]
          refine wpAnyH_ready (rs := [8, 9]) (by kernel_rfl) (by simp) ?_
          refine AllReadyH.cons (o := { dst := some 24, op := _, type := _, pos := _, after := _, guard := _ }) rfl (fun K hK => ?_) (AllReadyH.cons (o := { dst := some 25, op := _, type := _, pos := _, after := _, guard := _ }) rfl (fun K hK => ?_) AllReadyH.nil)
          · skip
            have x1 := HL_86.out.cellAt c_2 (by omega)
            obtain ⟨x_88, hx⟩ : ∃ x, x = ([-1, (n : Int), (row : Int)] : List Int).getD c_2 0 := ⟨_, rfl⟩
            rw [← hx] at x1
            clear hx
            go_simp
            refine hK.out _ _ (trivial) (fun hHeld => ?_)
            clear hK K
            try simp only [Act.put, List.setIfInBounds_toArray, List.set_cons_zero, List.set_cons_succ]
            clear x1
            refine wpAnyH_take (i := 15) (oi := { dst := some 3, op := _, type := _, pos := _, after := _, guard := _ }) (v := ?_) rfl (by kernel_rfl) (by kernel_rfl) (by kernel_rfl) (fun _ _ _ h => h) (Or.inl ⟨by rfl, ?_⟩) (by assumption) ?_
            case refine_2 => ((intro w hSw; (try dsimp only at hSw); go_simp); try with_reducible rfl)
            try simp only [Act.put, List.setIfInBounds_toArray, List.set_cons_zero, List.set_cons_succ]
            refine wpAnyH_ready (rs := [9]) (by kernel_rfl) (by simp) ?_
            refine AllReadyH.cons (o := { dst := some 25, op := _, type := _, pos := _, after := _, guard := _ }) rfl (fun K hK => ?_) AllReadyH.nil
            go_simp
            refine hK.out _ _ (trivial) (fun hHeld => ?_)
            clear hK K
            try simp only [Act.put, List.setIfInBounds_toArray, List.set_cons_zero, List.set_cons_succ]
            have HD_90 := Lib.hid (HD_86.out.alloc (.cells #[.int .i64 (-1), .int .i64 7] 3))
            have HM_90 := Lib.hid (HM_86.out.below (Below.alloc (Below.refl _ _) (Nat.le_refl _) (.cells #[.int .i64 (-1), .int .i64 7] 3)))
            have HL_90 := Lib.hid (Own.lit2 W_86 w.heap.size (-1) 7 HD_86.out.size)
            have HLL3_90 := Lib.hid (HL_86.out.below (Below.alloc (Below.refl _ _) (Nat.le_refl _) (.cells #[.int .i64 (-1), .int .i64 7] 3)))
            obtain ⟨W_90, hW⟩ : ∃ W, W = W_86.alloc (.cells #[.int .i64 (-1), .int .i64 7] 3) := ⟨_, rfl⟩
            rw [← hW] at HD_90 HM_90 HL_90 HLL3_90 ⊢
            clear hW
            obtain ⟨B_90, hB⟩ : ∃ B, B = W_86.heap.size := ⟨_, rfl⟩
            rw [← hB] at HL_90 ⊢
            clear hB
            clear HD_86 HM_86 HL_86
            refine wpAnyH_take (i := 12) (oi := { dst := some 28, op := _, type := _, pos := _, after := _, guard := _ }) (v := ?_) rfl (by kernel_rfl) (by kernel_rfl) (by kernel_rfl) (fun _ _ _ h => h) (Or.inl ⟨by rfl, ?_⟩) (by assumption) ?_
            case refine_2 => ((intro w hSw; (try dsimp only at hSw); go_simp); try with_reducible rfl)
            try simp only [Act.put, List.setIfInBounds_toArray, List.set_cons_zero, List.set_cons_succ]
            refine wpAnyH_ready (rs := [13]) (by kernel_rfl) (by simp) ?_
            refine AllReadyH.cons (o := { dst := some 29, op := _, type := _, pos := _, after := _, guard := _ }) rfl (fun K hK => ?_) AllReadyH.nil
            have x1 := HL_90.out.cellAt c_42 (by omega)
            obtain ⟨x_91, hx⟩ : ∃ x, x = ([-1, 7] : List Int).getD c_42 0 := ⟨_, rfl⟩
            rw [← hx] at x1
            clear hx
            go_simp
            refine hK.out _ _ (trivial) (fun hHeld => ?_)
            clear hK K
            try simp only [Act.put, List.setIfInBounds_toArray, List.set_cons_zero, List.set_cons_succ]
            clear x1
            refine wpAnyH_take (i := 16) (oi := { dst := some 4, op := _, type := _, pos := _, after := _, guard := _ }) (v := ?_) rfl (by kernel_rfl) (by kernel_rfl) (by kernel_rfl) (fun _ _ _ h => h) (Or.inl ⟨by rfl, ?_⟩) (by assumption) ?_
            case refine_2 => ((intro w hSw; (try dsimp only at hSw); go_simp); try with_reducible rfl)
            try simp only [Act.put, List.setIfInBounds_toArray, List.set_cons_zero, List.set_cons_succ]
            refine wpAnyH_done (by kernel_rfl) ?_ _
            clear hHeld
            go_wp2_with fail
            go_ret3
            exact ⟨g, ad, cp, n, _, _, rfl, HN.out, HS.out, HM_90.out, HD_90.out.more (by omega)⟩
          · skip
            go_simp
            refine hK.out _ _ (trivial) (fun hHeld => ?_)
            clear hK K
            try simp only [Act.put, List.setIfInBounds_toArray, List.set_cons_zero, List.set_cons_succ]
            have HD_89 := Lib.hid (HD_86.out.alloc (.cells #[.int .i64 (-1), .int .i64 7] 3))
            have HM_89 := Lib.hid (HM_86.out.below (Below.alloc (Below.refl _ _) (Nat.le_refl _) (.cells #[.int .i64 (-1), .int .i64 7] 3)))
            have HL_89 := Lib.hid (Own.lit2 W_86 w.heap.size (-1) 7 HD_86.out.size)
            have HLL3_89 := Lib.hid (HL_86.out.below (Below.alloc (Below.refl _ _) (Nat.le_refl _) (.cells #[.int .i64 (-1), .int .i64 7] 3)))
            obtain ⟨W_89, hW⟩ : ∃ W, W = W_86.alloc (.cells #[.int .i64 (-1), .int .i64 7] 3) := ⟨_, rfl⟩
            rw [← hW] at HD_89 HM_89 HL_89 HLL3_89 ⊢
            clear hW
            obtain ⟨B_89, hB⟩ : ∃ B, B = W_86.heap.size := ⟨_, rfl⟩
            rw [← hB] at HL_89 ⊢
            clear hB
            clear HD_86 HM_86 HL_86
            refine wpAnyH_take (i := 12) (oi := { dst := some 28, op := _, type := _, pos := _, after := _, guard := _ }) (v := ?_) rfl (by kernel_rfl) (by kernel_rfl) (by kernel_rfl) (fun _ _ _ h => h) (Or.inl ⟨by rfl, ?_⟩) (by assumption) ?_
            case refine_2 => ((intro w hSw; (try dsimp only at hSw); go_simp); try with_reducible rfl)
            try simp only [Act.put, List.setIfInBounds_toArray, List.set_cons_zero, List.set_cons_succ]
            refine wpAnyH_ready (rs := [8, 13]) (by kernel_rfl) (by simp) ?_
            refine AllReadyH.cons (o := { dst := some 24, op := _, type := _, pos := _, after := _, guard := _ }) rfl (fun K hK => ?_) (AllReadyH.cons (o := { dst := some 29, op := _, type := _, pos := _, after := _, guard := _ }) rfl (fun K hK => ?_) AllReadyH.nil)
            · skip
              have x1 := HLL3_89.out.cellAt c_2 (by omega)
              obtain ⟨x_92, hx⟩ : ∃ x, x = ([-1, (n : Int), (row : Int)] : List Int).getD c_2 0 := ⟨_, rfl⟩
              rw [← hx] at x1
              clear hx
              go_simp
              refine hK.out _ _ (trivial) (fun hHeld => ?_)
              clear hK K
              try simp only [Act.put, List.setIfInBounds_toArray, List.set_cons_zero, List.set_cons_succ]
              clear x1
              refine wpAnyH_take (i := 15) (oi := { dst := some 3, op := _, type := _, pos := _, after := _, guard := _ }) (v := ?_) rfl (by kernel_rfl) (by kernel_rfl) (by kernel_rfl) (fun _ _ _ h => h) (Or.inl ⟨by rfl, ?_⟩) (by assumption) ?_
              case refine_2 => ((intro w hSw; (try dsimp only at hSw); go_simp); try with_reducible rfl)
              try simp only [Act.put, List.setIfInBounds_toArray, List.set_cons_zero, List.set_cons_succ]
              refine wpAnyH_ready (rs := [13]) (by kernel_rfl) (by simp) ?_
              refine AllReadyH.cons (o := { dst := some 29, op := _, type := _, pos := _, after := _, guard := _ }) rfl (fun K hK => ?_) AllReadyH.nil
              have x1 := HL_89.out.cellAt c_42 (by omega)
              obtain ⟨x_94, hx⟩ : ∃ x, x = ([-1, 7] : List Int).getD c_42 0 := ⟨_, rfl⟩
              rw [← hx] at x1
              clear hx
              go_simp
              refine hK.out _ _ (trivial) (fun hHeld => ?_)
              clear hK K
              try simp only [Act.put, List.setIfInBounds_toArray, List.set_cons_zero, List.set_cons_succ]
              clear x1
              refine wpAnyH_take (i := 16) (oi := { dst := some 4, op := _, type := _, pos := _, after := _, guard := _ }) (v := ?_) rfl (by kernel_rfl) (by kernel_rfl) (by kernel_rfl) (fun _ _ _ h => h) (Or.inl ⟨by rfl, ?_⟩) (by assumption) ?_
              case refine_2 => ((intro w hSw; (try dsimp only at hSw); go_simp); try with_reducible rfl)
              try simp only [Act.put, List.setIfInBounds_toArray, List.set_cons_zero, List.set_cons_succ]
              refine wpAnyH_done (by kernel_rfl) ?_ _
              clear hHeld
              go_wp2_with fail
              go_ret3
              exact ⟨g, ad, cp, n, _, _, rfl, HN.out, HS.out, HM_89.out, HD_89.out.more (by omega)⟩
            · skip
              have x1 := HL_89.out.cellAt c_42 (by omega)
              obtain ⟨x_93, hx⟩ : ∃ x, x = ([-1, 7] : List Int).getD c_42 0 := ⟨_, rfl⟩
              rw [← hx] at x1
              clear hx
              go_simp
              refine hK.out _ _ (trivial) (fun hHeld => ?_)
              clear hK K
              try simp only [Act.put, List.setIfInBounds_toArray, List.set_cons_zero, List.set_cons_succ]
              clear x1
              refine wpAnyH_ready (rs := [8]) (by kernel_rfl) (by simp) ?_
              refine AllReadyH.cons (o := { dst := some 24, op := _, type := _, pos := _, after := _, guard := _ }) rfl (fun K hK => ?_) AllReadyH.nil
              have x1 := HLL3_89.out.cellAt c_2 (by omega)
              obtain ⟨x_95, hx⟩ : ∃ x, x = ([-1, (n : Int), (row : Int)] : List Int).getD c_2 0 := ⟨_, rfl⟩
              rw [← hx] at x1
              clear hx
              go_simp
              refine hK.out _ _ (trivial) (fun hHeld => ?_)
              clear hK K
              try simp only [Act.put, List.setIfInBounds_toArray, List.set_cons_zero, List.set_cons_succ]
              clear x1
              refine wpAnyH_take (i := 15) (oi := { dst := some 3, op := _, type := _, pos := _, after := _, guard := _ }) (v := ?_) rfl (by kernel_rfl) (by kernel_rfl) (by kernel_rfl) (fun _ _ _ h => h) (Or.inl ⟨by rfl, ?_⟩) (by assumption) ?_
              case refine_2 => ((intro w hSw; (try dsimp only at hSw); go_simp); try with_reducible rfl)
              try simp only [Act.put, List.setIfInBounds_toArray, List.set_cons_zero, List.set_cons_succ]
              refine wpAnyH_take (i := 16) (oi := { dst := some 4, op := _, type := _, pos := _, after := _, guard := _ }) (v := ?_) rfl (by kernel_rfl) (by kernel_rfl) (by kernel_rfl) (fun _ _ _ h => h) (Or.inl ⟨by rfl, ?_⟩) (by assumption) ?_
              case refine_2 => ((intro w hSw; (try dsimp only at hSw); go_simp); try with_reducible rfl)
              try simp only [Act.put, List.setIfInBounds_toArray, List.set_cons_zero, List.set_cons_succ]
              refine wpAnyH_done (by kernel_rfl) ?_ _
              clear hHeld
              go_wp2_with fail
              go_ret3
              exact ⟨g, ad, cp, n, _, _, rfl, HN.out, HS.out, HM_89.out, HD_89.out.more (by omega)⟩
        · skip
          go_simp
          refine hK.out _ _ (trivial) (fun hHeld => ?_)
          clear hK K
          try simp only [Act.put, List.setIfInBounds_toArray, List.set_cons_zero, List.set_cons_succ]
          have HD_87 := Lib.hid (HD_42.out.alloc (.cells #[.int .i64 (-1), .int .i64 7] 3))
          have HM_87 := Lib.hid (HM_42.out.below (Below.alloc (Below.refl _ _) (Nat.le_refl _) (.cells #[.int .i64 (-1), .int .i64 7] 3)))
          have HL_87 := Lib.hid (Own.lit2 w_42 w.heap.size (-1) 7 HD_42.out.size)
          obtain ⟨W_87, hW⟩ : ∃ W, W = w_42.alloc (.cells #[.int .i64 (-1), .int .i64 7] 3) := ⟨_, rfl⟩
          rw [← hW] at HD_87 HM_87 HL_87 ⊢
          clear hW
          obtain ⟨B_87, hB⟩ : ∃ B, B = w_42.heap.size := ⟨_, rfl⟩
          rw [← hB] at HL_87 ⊢
          clear hB
          clear HD_42 HM_42
          refine wpAnyH_take (i := 12) (oi := { dst := some 28, op := _, type := _, pos := _, after := _, guard := _ }) (v := ?_) rfl (by kernel_rfl) (by kernel_rfl) (by kernel_rfl) (fun _ _ _ h => h) (Or.inl ⟨by rfl, ?_⟩) (by assumption) ?_
          case refine_2 => ((intro w hSw; (try dsimp only at hSw); go_simp); try with_reducible rfl)
          try simp only [Act.put, List.setIfInBounds_toArray, List.set_cons_zero, List.set_cons_succ]
          refine wpAnyH_ready (rs := [4, 13]) (by kernel_rfl) (by simp) ?_
          refine AllReadyH.cons (o := { dst := some 20, op := _, type := _, pos := _, after := _, guard := _ }) rfl (fun K hK => ?_) (AllReadyH.cons (o := { dst := some 29, op := _, type := _, pos := _, after := _, guard := _ }) rfl (fun K hK => ?_) AllReadyH.nil)
          · skip
            go_simp
            refine hK.out _ _ (trivial) (fun hHeld => ?_)
            clear hK K
            try simp only [Act.put, List.setIfInBounds_toArray, List.set_cons_zero, List.set_cons_succ]
            have HD_96 := Lib.hid (HD_87.out.alloc (.cells #[.int .i64 (-1), .int .i64 (n : Nat), .int .i64 (row : Nat)] 3))
            have HM_96 := Lib.hid (HM_87.out.below (Below.alloc (Below.refl _ _) (Nat.le_refl _) (.cells #[.int .i64 (-1), .int .i64 (n : Nat), .int .i64 (row : Nat)] 3)))
            have HL_96 := Lib.hid (Own.lit3 W_87 w.heap.size (-1) (n : Int) (row : Int) HD_87.out.size)
            have HLL2_96 := Lib.hid (HL_87.out.below (Below.alloc (Below.refl _ _) (Nat.le_refl _) (.cells #[.int .i64 (-1), .int .i64 (n : Nat), .int .i64 (row : Nat)] 3)))
            obtain ⟨W_96, hW⟩ : ∃ W, W = W_87.alloc (.cells #[.int .i64 (-1), .int .i64 (n : Nat), .int .i64 (row : Nat)] 3) := ⟨_, rfl⟩
            rw [← hW] at HD_96 HM_96 HL_96 HLL2_96 ⊢
            clear hW
            obtain ⟨B_96, hB⟩ : ∃ B, B = W_87.heap.size := ⟨_, rfl⟩
            rw [← hB] at HL_96 ⊢
            clear hB
            clear HD_87 HM_87 HL_87
            refine wpAnyH_take (i := 7) (oi := { dst := some 23, op := _, type := _, pos := _, after := _, guard := _ }) (v := ?_) rfl (by kernel_rfl) (by kernel_rfl) (by kernel_rfl) (fun _ _ _ h => h) (Or.inl ⟨by rfl, ?_⟩) (by assumption) ?_
            case refine_2 => ((intro w hSw; (try dsimp only at hSw); go_simp); try with_reducible rfl)
            try simp only [Act.put, List.setIfInBounds_toArray, List.set_cons_zero, List.set_cons_succ]
            refine wpAnyH_ready (rs := [8, 13]) (by kernel_rfl) (by simp) ?_
            refine AllReadyH.cons (o := { dst := some 24, op := _, type := _, pos := _, after := _, guard := _ }) rfl (fun K hK => ?_) (AllReadyH.cons (o := { dst := some 29, op := _, type := _, pos := _, after := _, guard := _ }) rfl (fun K hK => ?_) AllReadyH.nil)
            · skip
              have x1 := HL_96.out.cellAt c_2 (by omega)
              obtain ⟨x_98, hx⟩ : ∃ x, x = ([-1, (n : Int), (row : Int)] : List Int).getD c_2 0 := ⟨_, rfl⟩
              rw [← hx] at x1
              clear hx
              go_simp
              refine hK.out _ _ (trivial) (fun hHeld => ?_)
              clear hK K
              try simp only [Act.put, List.setIfInBounds_toArray, List.set_cons_zero, List.set_cons_succ]
              clear x1
              refine wpAnyH_take (i := 15) (oi := { dst := some 3, op := _, type := _, pos := _, after := _, guard := _ }) (v := ?_) rfl (by kernel_rfl) (by kernel_rfl) (by kernel_rfl) (fun _ _ _ h => h) (Or.inl ⟨by rfl, ?_⟩) (by assumption) ?_
              case refine_2 => ((intro w hSw; (try dsimp only at hSw); go_simp); try with_reducible rfl)
              try simp only [Act.put, List.setIfInBounds_toArray, List.set_cons_zero, List.set_cons_succ]
              refine wpAnyH_ready (rs := [13]) (by kernel_rfl) (by simp) ?_
              refine AllReadyH.cons (o := { dst := some 29, op := _, type := _, pos := _, after := _, guard := _ }) rfl (fun K hK => ?_) AllReadyH.nil
              have x1 := HLL2_96.out.cellAt c_42 (by omega)
              obtain ⟨x_100, hx⟩ : ∃ x, x = ([-1, 7] : List Int).getD c_42 0 := ⟨_, rfl⟩
              rw [← hx] at x1
              clear hx
              go_simp
              refine hK.out _ _ (trivial) (fun hHeld => ?_)
              clear hK K
              try simp only [Act.put, List.setIfInBounds_toArray, List.set_cons_zero, List.set_cons_succ]
              clear x1
              refine wpAnyH_take (i := 16) (oi := { dst := some 4, op := _, type := _, pos := _, after := _, guard := _ }) (v := ?_) rfl (by kernel_rfl) (by kernel_rfl) (by kernel_rfl) (fun _ _ _ h => h) (Or.inl ⟨by rfl, ?_⟩) (by assumption) ?_
              case refine_2 => ((intro w hSw; (try dsimp only at hSw); go_simp); try with_reducible rfl)
              try simp only [Act.put, List.setIfInBounds_toArray, List.set_cons_zero, List.set_cons_succ]
              refine wpAnyH_done (by kernel_rfl) ?_ _
              clear hHeld
              go_wp2_with fail
              go_ret3
              exact ⟨g, ad, cp, n, _, _, rfl, HN.out, HS.out, HM_96.out, HD_96.out.more (by omega)⟩
            · skip
              have x1 := HLL2_96.out.cellAt c_42 (by omega)
              obtain ⟨x_99, hx⟩ : ∃ x, x = ([-1, 7] : List Int).getD c_42 0 := ⟨_, rfl⟩
              rw [← hx] at x1
              clear hx
              go_simp
              refine hK.out _ _ (trivial) (fun hHeld => ?_)
              clear hK K
              try simp only [Act.put, List.setIfInBounds_toArray, List.set_cons_zero, List.set_cons_succ]
              clear x1
              refine wpAnyH_ready (rs := [8]) (by kernel_rfl) (by simp) ?_
              refine AllReadyH.cons (o := { dst := some 24, op := _, type := _, pos := _, after := _, guard := _ }) rfl (fun K hK => ?_) AllReadyH.nil
              have x1 := HL_96.out.cellAt c_2 (by omega)
              obtain ⟨x_101, hx⟩ : ∃ x, x = ([-1, (n : Int), (row : Int)] : List Int).getD c_2 0 := ⟨_, rfl⟩
              rw [← hx] at x1
              clear hx
              go_simp
              refine hK.out _ _ (trivial) (fun hHeld => ?_)
              clear hK K
              try simp only [Act.put, List.setIfInBounds_toArray, List.set_cons_zero, List.set_cons_succ]
              clear x1
              refine wpAnyH_take (i := 15) (oi := { dst := some 3, op := _, type := _, pos := _, after := _, guard := _ }) (v := ?_) rfl (by kernel_rfl) (by kernel_rfl) (by kernel_rfl) (fun _ _ _ h => h) (Or.inl ⟨by rfl, ?_⟩) (by assumption) ?_
              case refine_2 => ((intro w hSw; (try dsimp only at hSw); go_simp); try with_reducible rfl)
              try simp only [Act.put, List.setIfInBounds_toArray, List.set_cons_zero, List.set_cons_succ]
              refine wpAnyH_take (i := 16) (oi := { dst := some 4, op := _, type := _, pos := _, after := _, guard := _ }) (v := ?_) rfl (by kernel_rfl) (by kernel_rfl) (by kernel_rfl) (fun _ _ _ h => h) (Or.inl ⟨by rfl, ?_⟩) (by assumption) ?_
              case refine_2 => ((intro w hSw; (try dsimp only at hSw); go_simp); try with_reducible rfl)
              try simp only [Act.put, List.setIfInBounds_toArray, List.set_cons_zero, List.set_cons_succ]
              refine wpAnyH_done (by kernel_rfl) ?_ _
              clear hHeld
              go_wp2_with fail
              go_ret3
              exact ⟨g, ad, cp, n, _, _, rfl, HN.out, HS.out, HM_96.out, HD_96.out.more (by omega)⟩
          · skip
            have x1 := HL_87.out.cellAt c_42 (by omega)
            obtain ⟨x_97, hx⟩ : ∃ x, x = ([-1, 7] : List Int).getD c_42 0 := ⟨_, rfl⟩
            rw [← hx] at x1
            clear hx
            go_simp
            refine hK.out _ _ (trivial) (fun hHeld => ?_)
            clear hK K
            try simp only [Act.put, List.setIfInBounds_toArray, List.set_cons_zero, List.set_cons_succ]
            clear x1
            refine wpAnyH_ready (rs := [4]) (by kernel_rfl) (by simp) ?_
            refine AllReadyH.cons (o := { dst := some 20, op := _, type := _, pos := _, after := _, guard := _ }) rfl (fun K hK => ?_) AllReadyH.nil
            go_simp
            refine hK.out _ _ (trivial) (fun hHeld => ?_)
            clear hK K
            try simp only [Act.put, List.setIfInBounds_toArray, List.set_cons_zero, List.set_cons_succ]
            have HD_102 := Lib.hid (HD_87.out.alloc (.cells #[.int .i64 (-1), .int .i64 (n : Nat), .int .i64 (row : Nat)] 3))
            have HM_102 := Lib.hid (HM_87.out.below (Below.alloc (Below.refl _ _) (Nat.le_refl _) (.cells #[.int .i64 (-1), .int .i64 (n : Nat), .int .i64 (row : Nat)] 3)))
            have HL_102 := Lib.hid (Own.lit3 W_87 w.heap.size (-1) (n : Int) (row : Int) HD_87.out.size)
            have HLL2_102 := Lib.hid (HL_87.out.below (Below.alloc (Below.refl _ _) (Nat.le_refl _) (.cells #[.int .i64 (-1), .int .i64 (n : Nat), .int .i64 (row : Nat)] 3)))
            obtain ⟨W_102, hW⟩ : ∃ W, W = W_87.alloc (.cells #[.int .i64 (-1), .int .i64 (n : Nat), .int .i64 (row : Nat)] 3) := ⟨_, rfl⟩
            rw [← hW] at HD_102 HM_102 HL_102 HLL2_102 ⊢
            clear hW
            obtain ⟨B_102, hB⟩ : ∃ B, B = W_87.heap.size := ⟨_, rfl⟩
            rw [← hB] at HL_102 ⊢
            clear hB
            clear HD_87 HM_87 HL_87
            refine wpAnyH_take (i := 7) (oi := { dst := some 23, op := _, type := _, pos := _, after := _, guard := _ }) (v := ?_) rfl (by kernel_rfl) (by kernel_rfl) (by kernel_rfl) (fun _ _ _ h => h) (Or.inl ⟨by rfl, ?_⟩) (by assumption) ?_
            case refine_2 => ((intro w hSw; (try dsimp only at hSw); go_simp); try with_reducible rfl)
            try simp only [Act.put, List.setIfInBounds_toArray, List.set_cons_zero, List.set_cons_succ]
            refine wpAnyH_ready (rs := [8]) (by kernel_rfl) (by simp) ?_
            refine AllReadyH.cons (o := { dst := some 24, op := _, type := _, pos := _, after := _, guard := _ }) rfl (fun K hK => ?_) AllReadyH.nil
            have x1 := HL_102.out.cellAt c_2 (by omega)
            obtain ⟨x_103, hx⟩ : ∃ x, x = ([-1, (n : Int), (row : Int)] : List Int).getD c_2 0 := ⟨_, rfl⟩
            rw [← hx] at x1
            clear hx
            go_simp
            refine hK.out _ _ (trivial) (fun hHeld => ?_)
            clear hK K
            try simp only [Act.put, List.setIfInBounds_toArray, List.set_cons_zero, List.set_cons_succ]
            clear x1
            refine wpAnyH_take (i := 15) (oi := { dst := some 3, op := _, type := _, pos := _, after := _, guard := _ }) (v := ?_) rfl (by kernel_rfl) (by kernel_rfl) (by kernel_rfl) (fun _ _ _ h => h) (Or.inl ⟨by rfl, ?_⟩) (by assumption) ?_
            case refine_2 => ((intro w hSw; (try dsimp only at hSw); go_simp); try with_reducible rfl)
            try simp only [Act.put, List.setIfInBounds_toArray, List.set_cons_zero, List.set_cons_succ]
            refine wpAnyH_take (i := 16) (oi := { dst := some 4, op := _, type := _, pos := _, after := _, guard := _ }) (v := ?_) rfl (by kernel_rfl) (by kernel_rfl) (by kernel_rfl) (fun _ _ _ h => h) (Or.inl ⟨by rfl, ?_⟩) (by assumption) ?_
            case refine_2 => ((intro w hSw; (try dsimp only at hSw); go_simp); try with_reducible rfl)
            try simp only [Act.put, List.setIfInBounds_toArray, List.set_cons_zero, List.set_cons_succ]
            refine wpAnyH_done (by kernel_rfl) ?_ _
            clear hHeld
            go_wp2_with fail
            go_ret3
            exact ⟨g, ad, cp, n, _, _, rfl, HN.out, HS.out, HM_102.out, HD_102.out.more (by omega)⟩
    · skip
      go_simp
      refine hK.out _ _ (trivial) (fun hHeld => ?_)
      clear hK K
      try simp only [Act.put, List.setIfInBounds_toArray, List.set_cons_zero, List.set_cons_succ]
      have HD_3 := Lib.hid (HDs.out.alloc (.cells #[.int .i64 (-1), .int .i64 7] 3))
      have HM_3 := Lib.hid (HMs.out.below (Below.alloc (Below.refl _ _) (Nat.le_refl _) (.cells #[.int .i64 (-1), .int .i64 7] 3)))
      have HL_3 := Lib.hid (Own.lit2 W_0 w.heap.size (-1) 7 HDs.out.size)
      obtain ⟨W_3, hW⟩ : ∃ W, W = W_0.alloc (.cells #[.int .i64 (-1), .int .i64 7] 3) := ⟨_, rfl⟩
      rw [← hW] at HD_3 HM_3 HL_3 ⊢
      clear hW
      obtain ⟨B_3, hB⟩ : ∃ B, B = W_0.heap.size := ⟨_, rfl⟩
      rw [← hB] at HL_3 ⊢
      clear hB
      clear HDs HMs
      refine wpAnyH_ready (rs := [4, 6]) (by kernel_rfl) (by simp) ?_
      refine AllReadyH.cons (o := { dst := some 20, op := _, type := _, pos := _, after := _, guard := _ }) rfl (fun K hK => ?_) (AllReadyH.cons (o := { dst := some 22, op := _, type := _, pos := _, after := _, guard := _ }) rfl (fun K hK => ?_) AllReadyH.nil)
      · skip
        go_simp
        refine hK.out _ _ (trivial) (fun hHeld => ?_)
        clear hK K
        try simp only [Act.put, List.setIfInBounds_toArray, List.set_cons_zero, List.set_cons_succ]
        have HD_104 := Lib.hid (HD_3.out.alloc (.cells #[.int .i64 (-1), .int .i64 (n : Nat), .int .i64 (row : Nat)] 3))
        have HM_104 := Lib.hid (HM_3.out.below (Below.alloc (Below.refl _ _) (Nat.le_refl _) (.cells #[.int .i64 (-1), .int .i64 (n : Nat), .int .i64 (row : Nat)] 3)))
        have HL_104 := Lib.hid (Own.lit3 W_3 w.heap.size (-1) (n : Int) (row : Int) HD_3.out.size)
        have HLL2_104 := Lib.hid (HL_3.out.below (Below.alloc (Below.refl _ _) (Nat.le_refl _) (.cells #[.int .i64 (-1), .int .i64 (n : Nat), .int .i64 (row : Nat)] 3)))
        obtain ⟨W_104, hW⟩ : ∃ W, W = W_3.alloc (.cells #[.int .i64 (-1), .int .i64 (n : Nat), .int .i64 (row : Nat)] 3) := ⟨_, rfl⟩
        rw [← hW] at HD_104 HM_104 HL_104 HLL2_104 ⊢
        clear hW
        obtain ⟨B_104, hB⟩ : ∃ B, B = W_3.heap.size := ⟨_, rfl⟩
        rw [← hB] at HL_104 ⊢
        clear hB
        clear HD_3 HM_3 HL_3
        refine wpAnyH_ready (rs := [6]) (by kernel_rfl) (by simp) ?_
        refine AllReadyH.cons (o := { dst := some 22, op := _, type := _, pos := _, after := _, guard := _ }) rfl (fun K hK => ?_) AllReadyH.nil
        go_simp
        go_at_call 58
        refine (pickD w0 a m cap R (q + 72) 3 w _ HB.out hm (HD_104.out.more (by omega)) (by omega) (by omega) (by omega)).mono ?_
        rintro e w_106 ⟨c_106, hc_106, rfl, hd⟩
        have HD_106 := Lib.hid ((HD_104.out.more (show _ ≤ q + 72 by omega)).trans hd)
        have HM_106 := Lib.hid (HM_104.out.over HD_104.out hd)
        have i0_106 : (0 : Int) ≤ (c_106 : Int) := by omega
        have HLL3_106 := Lib.hid (HL_104.out.over HD_104.out hd)
        have HLL2_106 := Lib.hid (HLL2_104.out.over HD_104.out hd)
        clear hd HD_104 HM_104 HL_104 HLL2_104
        refine hK.out _ _ (trivial) (fun hHeld => ?_)
        clear hK K
        try simp only [Act.put, List.setIfInBounds_toArray, List.set_cons_zero, List.set_cons_succ]
        refine wpAnyH_take (i := 7) (oi := { dst := some 23, op := _, type := _, pos := _, after := _, guard := _ }) (v := ?_) rfl (by kernel_rfl) (by kernel_rfl) (by kernel_rfl) (fun _ _ _ h => h) (Or.inl ⟨by rfl, ?_⟩) (by assumption) ?_
        case refine_2 => ((intro w hSw; (try dsimp only at hSw); go_simp); try with_reducible rfl)
        try simp only [Act.put, List.setIfInBounds_toArray, List.set_cons_zero, List.set_cons_succ]
        refine wpAnyH_ready (rs := [8, 11]) (by kernel_rfl) (by simp) ?_
        refine AllReadyH.cons (o := { dst := some 24, op := _, type := _, pos := _, after := _, guard := _ }) rfl (fun K hK => ?_) (AllReadyH.cons (o := { dst := some 27, op := _, type := _, pos := _, after := _, guard := _ }) rfl (fun K hK => ?_) AllReadyH.nil)
        · skip
          have x1 := HLL3_106.out.cellAt c_106 (by omega)
          obtain ⟨x_107, hx⟩ : ∃ x, x = ([-1, (n : Int), (row : Int)] : List Int).getD c_106 0 := ⟨_, rfl⟩
          rw [← hx] at x1
          clear hx
          go_simp
          refine hK.out _ _ (trivial) (fun hHeld => ?_)
          clear hK K
          try simp only [Act.put, List.setIfInBounds_toArray, List.set_cons_zero, List.set_cons_succ]
          clear x1
          refine wpAnyH_ready (rs := [11]) (by kernel_rfl) (by simp) ?_
          refine AllReadyH.cons (o := { dst := some 27, op := _, type := _, pos := _, after := _, guard := _ }) rfl (fun K hK => ?_) AllReadyH.nil
          go_simp
          go_at_call 58
          refine (pickD w0 a m cap R (q + 73) 2 w _ HB.out hm (HD_106.out.more (by omega)) (by omega) (by omega) (by omega)).mono ?_
          rintro e w_109 ⟨c_109, hc_109, rfl, hd⟩
          have HD_109 := Lib.hid ((HD_106.out.more (show _ ≤ q + 73 by omega)).trans hd)
          have HM_109 := Lib.hid (HM_106.out.over HD_106.out hd)
          have i0_109 : (0 : Int) ≤ (c_109 : Int) := by omega
          have HLL3_109 := Lib.hid (HLL3_106.out.over HD_106.out hd)
          have HLL2_109 := Lib.hid (HLL2_106.out.over HD_106.out hd)
          clear hd HD_106 HM_106 HLL3_106 HLL2_106
          refine hK.out _ _ (trivial) (fun hHeld => ?_)
          clear hK K
          try simp only [Act.put, List.setIfInBounds_toArray, List.set_cons_zero, List.set_cons_succ]
          refine wpAnyH_take (i := 12) (oi := { dst := some 28, op := _, type := _, pos := _, after := _, guard := _ }) (v := ?_) rfl (by kernel_rfl) (by kernel_rfl) (by kernel_rfl) (fun _ _ _ h => h) (Or.inl ⟨by rfl, ?_⟩) (by assumption) ?_
          case refine_2 => ((intro w hSw; (try dsimp only at hSw); go_simp); try with_reducible rfl)
          try simp only [Act.put, List.setIfInBounds_toArray, List.set_cons_zero, List.set_cons_succ]
          refine wpAnyH_take (i := 14) (oi := { dst := some 2, op := _, type := _, pos := _, after := _, guard := _ }) (v := ?_) rfl (by kernel_rfl) (by kernel_rfl) (by kernel_rfl) (fun _ _ _ h => h) (Or.inl ⟨by rfl, ?_⟩) (by assumption) ?_
          case refine_2 => ((intro w hSw; (try dsimp only at hSw); go_simp); try with_reducible rfl)
          try simp only [Act.put, List.setIfInBounds_toArray, List.set_cons_zero, List.set_cons_succ]
          refine wpAnyH_take (i := 15) (oi := { dst := some 3, op := _, type := _, pos := _, after := _, guard := _ }) (v := ?_) rfl (by kernel_rfl) (by kernel_rfl) (by kernel_rfl) (fun _ _ _ h => h) (Or.inl ⟨by rfl, ?_⟩) (by assumption) ?_
          case refine_2 => ((intro w hSw; (try dsimp only at hSw); go_simp); try with_reducible rfl)
          try simp only [Act.put, List.setIfInBounds_toArray, List.set_cons_zero, List.set_cons_succ]
          refine wpAnyH_ready (rs := [13]) (by kernel_rfl) (by simp) ?_
          refine AllReadyH.cons (o := { dst := some 29, op := _, type := _, pos := _, after := _, guard := _ }) rfl (fun K hK => ?_) AllReadyH.nil
          have x1 := HLL2_109.out.cellAt c_109 (by omega)
          obtain ⟨x_110, hx⟩ : ∃ x, x = ([-1, 7] : List Int).getD c_109 0 := ⟨_, rfl⟩
          rw [← hx] at x1
          clear hx
          go_simp
          refine hK.out _ _ (trivial) (fun hHeld => ?_)
          clear hK K
          try simp only [Act.put, List.setIfInBounds_toArray, List.set_cons_zero, List.set_cons_succ]
          clear x1
          refine wpAnyH_take (i := 16) (oi := { dst := some 4, op := _, type := _, pos := _, after := _, guard := _ }) (v := ?_) rfl (by kernel_rfl) (by kernel_rfl) (by kernel_rfl) (fun _ _ _ h => h) (Or.inl ⟨by rfl, ?_⟩) (by assumption) ?_
          case refine_2 => ((intro w hSw; (try dsimp only at hSw); go_simp); try with_reducible rfl)
          try simp only [Act.put, List.setIfInBounds_toArray, List.set_cons_zero, List.set_cons_succ]
          refine wpAnyH_done (by kernel_rfl) ?_ _
          clear hHeld
          go_wp2_with fail
          go_ret3
          exact ⟨g, ad, cp, n, _, _, rfl, HN.out, HS.out, HM_109.out, HD_109.out.more (by omega)⟩
        · skip
          go_simp
          go_at_call 58
          refine (pickD w0 a m cap R (q + 73) 2 w _ HB.out hm (HD_106.out.more (by omega)) (by omega) (by omega) (by omega)).mono ?_
          rintro e w_108 ⟨c_108, hc_108, rfl, hd⟩
          have HD_108 := Lib.hid ((HD_106.out.more (show _ ≤ q + 73 by omega)).trans hd)
          have HM_108 := Lib.hid (HM_106.out.over HD_106.out hd)
          have i0_108 : (0 : Int) ≤ (c_108 : Int) := by omega
          have HLL3_108 := Lib.hid (HLL3_106.out.over HD_106.out hd)
          have HLL2_108 := Lib.hid (HLL2_106.out.over HD_106.out hd)
          clear hd HD_106 HM_106 HLL3_106 HLL2_106
          refine hK.out _ _ (trivial) (fun hHeld => ?_)
          clear hK K
          try simp only [Act.put, List.setIfInBounds_toArray, List.set_cons_zero, List.set_cons_succ]
          refine wpAnyH_take (i := 12) (oi := { dst := some 28, op := _, type := _, pos := _, after := _, guard := _ }) (v := ?_) rfl (by kernel_rfl) (by kernel_rfl) (by kernel_rfl) (fun _ _ _ h => h) (Or.inl ⟨by rfl, ?_⟩) (by assumption) ?_
          case refine_2 => ((intro w hSw; (try dsimp only at hSw); go_simp); try with_reducible rfl)
          try simp only [Act.put, List.setIfInBounds_toArray, List.set_cons_zero, List.set_cons_succ]
          refine wpAnyH_take (i := 14) (oi := { dst := some 2, op := _, type := _, pos := _, after := _, guard := _ }) (v := ?_) rfl (by kernel_rfl) (by kernel_rfl) (by kernel_rfl) (fun _ _ _ h => h) (Or.inl ⟨by rfl, ?_⟩) (by assumption) ?_
          case refine_2 => ((intro w hSw; (try dsimp only at hSw); go_simp); try with_reducible rfl)
          try simp only [Act.put, List.setIfInBounds_toArray, List.set_cons_zero, List.set_cons_succ]
          refine wpAnyH_ready (rs := [8, 13]) (by kernel_rfl) (by simp) ?_
          refine AllReadyH.cons (o := { dst := some 24, op := _, type := _, pos := _, after := _, guard := _ }) rfl (fun K hK => ?_) (AllReadyH.cons (o := { dst := some 29, op := _, type := _, pos := _, after := _, guard := _ }) rfl (fun K hK => ?_) AllReadyH.nil)
          · skip
            have x1 := HLL3_108.out.cellAt c_106 (by omega)
            obtain ⟨x_111, hx⟩ : ∃ x, x = ([-1, (n : Int), (row : Int)] : List Int).getD c_106 0 := ⟨_, rfl⟩
            rw [← hx] at x1
            clear hx
            go_simp
            refine hK.out _ _ (trivial) (fun hHeld => ?_)
            clear hK K
            try simp only [Act.put, List.setIfInBounds_toArray, List.set_cons_zero, List.set_cons_succ]
            clear x1
            refine wpAnyH_take (i := 15) (oi := { dst := some 3, op := _, type := _, pos := _, after := _, guard := _ }) (v := ?_) rfl (by kernel_rfl) (by kernel_rfl) (by kernel_rfl) (fun _ _ _ h => h) (Or.inl ⟨by rfl, ?_⟩) (by assumption) ?_
            case refine_2 => ((intro w hSw; (try dsimp only at hSw); go_simp); try with_reducible rfl)
            try simp only [Act.put, List.setIfInBounds_toArray, List.set_cons_zero, List.set_cons_succ]
            refine wpAnyH_ready (rs := [13]) (by kernel_rfl) (by simp) ?_
            refine AllReadyH.cons (o := { dst := some 29, op := _, type := _, pos := _, after := _, guard := _ }) rfl (fun K hK => ?_) AllReadyH.nil
            have x1 := HLL2_108.out.cellAt c_108 (by omega)
            obtain ⟨x_113, hx⟩ : ∃ x, x = ([-1, 7] : List Int).getD c_108 0 := ⟨_, rfl⟩
            rw [← hx] at x1
            clear hx
            go_simp
            refine hK.out _ _ (trivial) (fun hHeld => ?_)
            clear hK K
            try simp only [Act.put, List.setIfInBounds_toArray, List.set_cons_zero, List.set_cons_succ]
            clear x1
            refine wpAnyH_take (i := 16) (oi := { dst := some 4, op := _, type := _, pos := _, after := _, guard := _ }) (v := ?_) rfl (by kernel_rfl) (by kernel_rfl) (by kernel_rfl) (fun _ _ _ h => h) (Or.inl ⟨by rfl, ?_⟩) (by assumption) ?_
            case refine_2 => ((intro w hSw; (try dsimp only at hSw); go_simp); try with_reducible rfl)
            try simp only [Act.put, List.setIfInBounds_toArray, List.set_cons_zero, List.set_cons_succ]
            refine wpAnyH_done (by kernel_rfl) ?_ _
            clear hHeld
            go_wp2_with fail
            go_ret3
            exact ⟨g, ad, cp, n, _, _, rfl, HN.out, HS.out, HM_108.out, HD_108.out.more (by omega)⟩
          · skip
            have x1 := HLL2_108.out.cellAt c_108 (by omega)
            obtain ⟨x_112, hx⟩ : ∃ x, x = ([-1, 7] : List Int).getD c_108 0 := ⟨_, rfl⟩
            rw [← hx] at x1
            clear hx
            go_simp
            refine hK.out _ _ (trivial) (fun hHeld => ?_)
            clear hK K
            try simp only [Act.put, List.setIfInBounds_toArray, List.set_cons_zero, List.set_cons_succ]
            clear x1
            refine wpAnyH_ready (rs := [8]) (by kernel_rfl) (by simp) ?_
            refine AllReadyH.cons (o := { dst := some 24, op := _, type := _, pos := _, after := _, guard := _ }) rfl (fun K hK => ?_) AllReadyH.nil
            have x1 := HLL3_108.out.cellAt c_106 (by omega)
            obtain ⟨x_114, hx⟩ : ∃ x, x = ([-1, (n : Int), (row : Int)] : List Int).getD c_106 0 := ⟨_, rfl⟩
            rw [← hx] at x1
            clear hx
            go_simp
            refine hK.out _ _ (trivial) (fun hHeld => ?_)
            clear hK K
            try simp only [Act.put, List.setIfInBounds_toArray, List.set_cons_zero, List.set_cons_succ]
            clear x1
            refine wpAnyH_take (i := 15) (oi := { dst := some 3, op := _, type := _, pos := _, after := _, guard := _ }) (v := ?_) rfl (by kernel_rfl) (by kernel_rfl) (by kernel_rfl) (fun _ _ _ h => h) (Or.inl ⟨by rfl, ?_⟩) (by assumption) ?_
            case refine_2 => ((intro w hSw; (try dsimp only at hSw); go_simp); try with_reducible rfl)
            try simp only [Act.put, List.setIfInBounds_toArray, List.set_cons_zero, List.set_cons_succ]
            refine wpAnyH_take (i := 16) (oi := { dst := some 4, op := _, type := _, pos := _, after := _, guard := _ }) (v := ?_) rfl (by kernel_rfl) (by kernel_rfl) (by kernel_rfl) (fun _ _ _ h => h) (Or.inl ⟨by rfl, ?_⟩) (by assumption) ?_
            case refine_2 => ((intro w hSw; (try dsimp only at hSw); go_simp); try with_reducible rfl)
            try simp only [Act.put, List.setIfInBounds_toArray, List.set_cons_zero, List.set_cons_succ]
            refine wpAnyH_done (by kernel_rfl) ?_ _
            clear hHeld
            go_wp2_with fail
            go_ret3
            exact ⟨g, ad, cp, n, _, _, rfl, HN.out, HS.out, HM_108.out, HD_108.out.more (by omega)⟩
      · skip
        go_simp
        go_at_call 58
        refine (pickD w0 a m cap R (q + 72) 3 w _ HB.out hm (HD_3.out.more (by omega)) (by omega) (by omega) (by omega)).mono ?_
        rintro e w_105 ⟨c_105, hc_105, rfl, hd⟩
        have HD_105 := Lib.hid ((HD_3.out.more (show _ ≤ q + 72 by omega)).trans hd)
        have HM_105 := Lib.hid (HM_3.out.over HD_3.out hd)
        have i0_105 : (0 : Int) ≤ (c_105 : Int) := by omega
        have HLL2_105 := Lib.hid (HL_3.out.over HD_3.out hd)
        clear hd HD_3 HM_3 HL_3
        refine hK.out _ _ (trivial) (fun hHeld => ?_)
        clear hK K
        try simp only [Act.put, List.setIfInBounds_toArray, List.set_cons_zero, List.set_cons_succ]
        refine wpAnyH_ready (rs := [4, 11]) (by kernel_rfl) (by simp) ?_
        refine AllReadyH.cons (o := { dst := some 20, op := _, type := _, pos := _, after := _, guard := _ }) rfl (fun K hK => ?_) (AllReadyH.cons (o := { dst := some 27, op := _, type := _, pos := _, after := _, guard := _ }) rfl (fun K hK => ?_) AllReadyH.nil)
        · skip
          go_simp
          refine hK.out _ _ (trivial) (fun hHeld => ?_)
          clear hK K
          try simp only [Act.put, List.setIfInBounds_toArray, List.set_cons_zero, List.set_cons_succ]
          have HD_115 := Lib.hid (HD_105.out.alloc (.cells #[.int .i64 (-1), .int .i64 (n : Nat), .int .i64 (row : Nat)] 3))
          have HM_115 := Lib.hid (HM_105.out.below (Below.alloc (Below.refl _ _) (Nat.le_refl _) (.cells #[.int .i64 (-1), .int .i64 (n : Nat), .int .i64 (row : Nat)] 3)))
          have HL_115 := Lib.hid (Own.lit3 w_105 w.heap.size (-1) (n : Int) (row : Int) HD_105.out.size)
          have HLL2_115 := Lib.hid (HLL2_105.out.below (Below.alloc (Below.refl _ _) (Nat.le_refl _) (.cells #[.int .i64 (-1), .int .i64 (n : Nat), .int .i64 (row : Nat)] 3)))
          obtain ⟨W_115, hW⟩ : ∃ W, W = w_105.alloc (.cells #[.int .i64 (-1), .int .i64 (n : Nat), .int .i64 (row : Nat)] 3) := ⟨_, rfl⟩
          rw [← hW] at HD_115 HM_115 HL_115 HLL2_115 ⊢
          clear hW
          obtain ⟨B_115, hB⟩ : ∃ B, B = w_105.heap.size := ⟨_, rfl⟩
          rw [← hB] at HL_115 ⊢
          clear hB
          clear HD_105 HM_105 HLL2_105
          refine wpAnyH_take (i := 7) (oi := { dst := some 23, op := _, type := _, pos := _, after := _, guard := _ }) (v := ?_) rfl (by kernel_rfl) (by kernel_rfl) (by kernel_rfl) (fun _ _ _ h => h) (Or.inl ⟨by rfl, ?_⟩) (by assumption) ?_
          case refine_2 => ((intro w hSw; (try dsimp only at hSw); go_simp); try with_reducible rfl)
          try simp only [Act.put, List.setIfInBounds_toArray, List.set_cons_zero, List.set_cons_succ]
          refine wpAnyH_ready (rs := [8, 11]) (by kernel_rfl) (by simp) ?_
          refine AllReadyH.cons (o := { dst := some 24, op := _, type := _, pos := _, after := _, guard := _ }) rfl (fun K hK => ?_) (AllReadyH.cons (o := { dst := some 27, op := _, type := _, pos := _, after := _, guard := _ }) rfl (fun K hK => ?_) AllReadyH.nil)
          · skip
            have x1 := HL_115.out.cellAt c_105 (by omega)
            obtain ⟨x_117, hx⟩ : ∃ x, x = ([-1, (n : Int), (row : Int)] : List Int).getD c_105 0 := ⟨_, rfl⟩
            rw [← hx] at x1
            clear hx
            go_simp
            refine hK.out _ _ (trivial) (fun hHeld => ?_)
            clear hK K
            try simp only [Act.put, List.setIfInBounds_toArray, List.set_cons_zero, List.set_cons_succ]
            clear x1
            refine wpAnyH_ready (rs := [11]) (by kernel_rfl) (by simp) ?_
            refine AllReadyH.cons (o := { dst := some 27, op := _, type := _, pos := _, after := _, guard := _ }) rfl (fun K hK => ?_) AllReadyH.nil
            go_simp
            go_at_call 58
            refine (pickD w0 a m cap R (q + 73) 2 w _ HB.out hm (HD_115.out.more (by omega)) (by omega) (by omega) (by omega)).mono ?_
            rintro e w_119 ⟨c_119, hc_119, rfl, hd⟩
            have HD_119 := Lib.hid ((HD_115.out.more (show _ ≤ q + 73 by omega)).trans hd)
            have HM_119 := Lib.hid (HM_115.out.over HD_115.out hd)
            have i0_119 : (0 : Int) ≤ (c_119 : Int) := by omega
            have HLL3_119 := Lib.hid (HL_115.out.over HD_115.out hd)
            have HLL2_119 := Lib.hid (HLL2_115.out.over HD_115.out hd)
            clear hd HD_115 HM_115 HL_115 HLL2_115
            refine hK.out _ _ (trivial) (fun hHeld => ?_)
            clear hK K
            try simp only [Act.put, List.setIfInBounds_toArray, List.set_cons_zero, List.set_cons_succ]
            refine wpAnyH_take (i := 12) (oi := { dst := some 28, op := _, type := _, pos := _, after := _, guard := _ }) (v := ?_) rfl (by kernel_rfl) (by kernel_rfl) (by kernel_rfl) (fun _ _ _ h => h) (Or.inl ⟨by rfl, ?_⟩) (by assumption) ?_
            case refine_2 => ((intro w hSw; (try dsimp only at hSw); go_simp); try with_reducible rfl)
            try simp only [Act.put, List.setIfInBounds_toArray, List.set_cons_zero, List.set_cons_succ]
            refine wpAnyH_take (i := 14) (oi := { dst := some 2, op := _, type := _, pos := _, after := _, guard := _ }) (v := ?_) rfl (by kernel_rfl) (by kernel_rfl) (by kernel_rfl) (fun _ _ _ h => h) (Or.inl ⟨by rfl, ?_⟩) (by assumption) ?_
            case refine_2 => ((intro w hSw; (try dsimp only at hSw); go_simp); try with_reducible rfl)
            try simp only [Act.put, List.setIfInBounds_toArray, List.set_cons_zero, List.set_cons_succ]
            refine wpAnyH_take (i := 15) (oi := { dst := some 3, op := _, type := _, pos := _, after := _, guard := _ }) (v := ?_) rfl (by kernel_rfl) (by kernel_rfl) (by kernel_rfl) (fun _ _ _ h => h) (Or.inl ⟨by rfl, ?_⟩) (by assumption) ?_
            case refine_2 => ((intro w hSw; (try dsimp only at hSw); go_simp); try with_reducible rfl)
            try simp only [Act.put, List.setIfInBounds_toArray, List.set_cons_zero, List.set_cons_succ]
            refine wpAnyH_ready (rs := [13]) (by kernel_rfl) (by simp) ?_
            refine AllReadyH.cons (o := { dst := some 29, op := _, type := _, pos := _, after := _, guard := _ }) rfl (fun K hK => ?_) AllReadyH.nil
            have x1 := HLL2_119.out.cellAt c_119 (by omega)
            obtain ⟨x_120, hx⟩ : ∃ x, x = ([-1, 7] : List Int).getD c_119 0 := ⟨_, rfl⟩
            rw [← hx] at x1
            clear hx
            go_simp
            refine hK.out _ _ (trivial) (fun hHeld => ?_)
            clear hK K
            try simp only [Act.put, List.setIfInBounds_toArray, List.set_cons_zero, List.set_cons_succ]
            clear x1
            refine wpAnyH_take (i := 16) (oi := { dst := some 4, op := _, type := _, pos := _, after := _, guard := _ }) (v := ?_) rfl (by kernel_rfl) (by kernel_rfl) (by kernel_rfl) (fun _ _ _ h => h) (Or.inl ⟨by rfl, ?_⟩) (by assumption) ?_
            case refine_2 => ((intro w hSw; (try dsimp only at hSw); go_simp); try with_reducible rfl)
            try simp only [Act.put, List.setIfInBounds_toArray, List.set_cons_zero, List.set_cons_succ]
            refine wpAnyH_done (by kernel_rfl) ?_ _
            clear hHeld
            go_wp2_with fail
            go_ret3
            exact ⟨g, ad, cp, n, _, _, rfl, HN.out, HS.out, HM_119.out, HD_119.out.more (by omega)⟩
          · skip
            go_simp
            go_at_call 58
            refine (pickD w0 a m cap R (q + 73) 2 w _ HB.out hm (HD_115.out.more (by omega)) (by omega) (by omega) (by omega)).mono ?_
            rintro e w_118 ⟨c_118, hc_118, rfl, hd⟩
            have HD_118 := Lib.hid ((HD_115.out.more (show _ ≤ q + 73 by omega)).trans hd)
            have HM_118 := Lib.hid (HM_115.out.over HD_115.out hd)
            have i0_118 : (0 : Int) ≤ (c_118 : Int) := by omega
            have HLL3_118 := Lib.hid (HL_115.out.over HD_115.out hd)
            have HLL2_118 := Lib.hid (HLL2_115.out.over HD_115.out hd)
            clear hd HD_115 HM_115 HL_115 HLL2_115
            refine hK.out _ _ (trivial) (fun hHeld => ?_)
            clear hK K
            try simp only [Act.put, List.setIfInBounds_toArray, List.set_cons_zero, List.set_cons_succ]
            refine wpAnyH_take (i := 12) (oi := { dst := some 28, op := _, type := _, pos := _, after := _, guard := _ }) (v := ?_) rfl (by kernel_rfl) (by kernel_rfl) (by kernel_rfl) (fun _ _ _ h => h) (Or.inl ⟨by rfl, ?_⟩) (by assumption) ?_
            case refine_2 => ((intro w hSw; (try dsimp only at hSw); go_simp); try with_reducible rfl)
            try simp only [Act.put, List.setIfInBounds_toArray, List.set_cons_zero, List.set_cons_succ]
            refine wpAnyH_take (i := 14) (oi := { dst := some 2, op := _, type := _, pos := _, after := _, guard := _ }) (v := ?_) rfl (by kernel_rfl) (by kernel_rfl) (by kernel_rfl) (fun _ _ _ h => h) (Or.inl ⟨by rfl, ?_⟩) (by assumption) ?_
            case refine_2 => ((intro w hSw; (try dsimp only at hSw); go_simp); try with_reducible rfl)
            try simp only [Act.put, List.setIfInBounds_toArray, List.set_cons_zero, List.set_cons_succ]
            refine wpAnyH_ready (rs := [8, 13]) (by kernel_rfl) (by simp) ?_
            refine AllReadyH.cons (o := { dst := some 24, op := _, type := _, pos := _, after := _, guard := _ }) rfl (fun K hK => ?_) (AllReadyH.cons (o := { dst := some 29, op := _, type := _, pos := _, after := _, guard := _ }) rfl (fun K hK => ?_) AllReadyH.nil)
            · skip
              have x1 := HLL3_118.out.cellAt c_105 (by omega)
              obtain ⟨x_121, hx⟩ : ∃ x, x = ([-1, (n : Int), (row : Int)] : List Int).getD c_105 0 := ⟨_, rfl⟩
              rw [← hx] at x1
              clear hx
              go_simp
              refine hK.out _ _ (trivial) (fun hHeld => ?_)
              clear hK K
              try simp only [Act.put, List.setIfInBounds_toArray, List.set_cons_zero, List.set_cons_succ]
              clear x1
              refine wpAnyH_take (i := 15) (oi := { dst := some 3, op := _, type := _, pos := _, after := _, guard := _ }) (v := ?_) rfl (by kernel_rfl) (by kernel_rfl) (by kernel_rfl) (fun _ _ _ h => h) (Or.inl ⟨by rfl, ?_⟩) (by assumption) ?_
              case refine_2 => ((intro w hSw; (try dsimp only at hSw); go_simp); try with_reducible rfl)
              try simp only [Act.put, List.setIfInBounds_toArray, List.set_cons_zero, List.set_cons_succ]
              refine wpAnyH_ready (rs := [13]) (by kernel_rfl) (by simp) ?_
              refine AllReadyH.cons (o := { dst := some 29, op := _, type := _, pos := _, after := _, guard := _ }) rfl (fun K hK => ?_) AllReadyH.nil
              have x1 := HLL2_118.out.cellAt c_118 (by omega)
              obtain ⟨x_123, hx⟩ : ∃ x, x = ([-1, 7] : List Int).getD c_118 0 := ⟨_, rfl⟩
              rw [← hx] at x1
              clear hx
              go_simp
              refine hK.out _ _ (trivial) (fun hHeld => ?_)
              clear hK K
              try simp only [Act.put, List.setIfInBounds_toArray, List.set_cons_zero, List.set_cons_succ]
              clear x1
              refine wpAnyH_take (i := 16) (oi := { dst := some 4, op := _, type := _, pos := _, after := _, guard := _ }) (v := ?_) rfl (by kernel_rfl) (by kernel_rfl) (by kernel_rfl) (fun _ _ _ h => h) (Or.inl ⟨by rfl, ?_⟩) (by assumption) ?_
              case refine_2 => ((intro w hSw; (try dsimp only at hSw); go_simp); try with_reducible rfl)
              try simp only [Act.put, List.setIfInBounds_toArray, List.set_cons_zero, List.set_cons_succ]
              refine wpAnyH_done (by kernel_rfl) ?_ _
              clear hHeld
              go_wp2_with fail
              go_ret3
              exact ⟨g, ad, cp, n, _, _, rfl, HN.out, HS.out, HM_118.out, HD_118.out.more (by omega)⟩
            · skip
              have x1 := HLL2_118.out.cellAt c_118 (by omega)
              obtain ⟨x_122, hx⟩ : ∃ x, x = ([-1, 7] : List Int).getD c_118 0 := ⟨_, rfl⟩
              rw [← hx] at x1
              clear hx
              go_simp
              refine hK.out _ _ (trivial) (fun hHeld => ?_)
              clear hK K
              try simp only [Act.put, List.setIfInBounds_toArray, List.set_cons_zero, List.set_cons_succ]
              clear x1
              refine wpAnyH_ready (rs := [8]) (by kernel_rfl) (by simp) ?_
              refine AllReadyH.cons (o := { dst := some 24, op := _, type := _, pos := _, after := _, guard := _ }) rfl (fun K hK => ?_) AllReadyH.nil
              have x1 := HLL3_118.out.cellAt c_105 (by omega)
              obtain ⟨x_124, hx⟩ : ∃ x, x = ([-1, (n : Int), (row : Int)] : List Int).getD c_105 0 := ⟨_, rfl⟩
              rw [← hx] at x1
              clear hx
              go_simp
              refine hK.out _ _ (trivial) (fun hHeld => ?_)
              clear hK K
              try simp only [Act.put, List.setIfInBounds_toArray, List.set_cons_zero, List.set_cons_succ]
              clear x1
              refine wpAnyH_take (i := 15) (oi := { dst := some 3, op := _, type := _, pos := _, after := _, guard := _ }) (v := ?_) rfl (by kernel_rfl) (by kernel_rfl) (by kernel_rfl) (fun _ _ _ h => h) (Or.inl ⟨by rfl, ?_⟩) (by assumption) ?_
              case refine_2 => ((intro w hSw; (try dsimp only at hSw); go_simp); try with_reducible rfl)
              try simp only [Act.put, List.setIfInBounds_toArray, List.set_cons_zero, List.set_cons_succ]
              refine wpAnyH_take (i := 16) (oi := { dst := some 4, op := _, type := _, pos := _, after := _, guard := _ }) (v := ?_) rfl (by kernel_rfl) (by kernel_rfl) (by kernel_rfl) (fun _ _ _ h => h) (Or.inl ⟨by rfl, ?_⟩) (by assumption) ?_
              case refine_2 => ((intro w hSw; (try dsimp only at hSw); go_simp); try with_reducible rfl)
              try simp only [Act.put, List.setIfInBounds_toArray, List.set_cons_zero, List.set_cons_succ]
              refine wpAnyH_done (by kernel_rfl) ?_ _
              clear hHeld
              go_wp2_with fail
              go_ret3
              exact ⟨g, ad, cp, n, _, _, rfl, HN.out, HS.out, HM_118.out, HD_118.out.more (by omega)⟩
        · skip
          go_simp
          go_at_call 58
          refine (pickD w0 a m cap R (q + 73) 2 w _ HB.out hm (HD_105.out.more (by omega)) (by omega) (by omega) (by omega)).mono ?_
          rintro e w_116 ⟨c_116, hc_116, rfl, hd⟩
          have HD_116 := Lib.hid ((HD_105.out.more (show _ ≤ q + 73 by omega)).trans hd)
          have HM_116 := Lib.hid (HM_105.out.over HD_105.out hd)
          have i0_116 : (0 : Int) ≤ (c_116 : Int) := by omega
          have HLL2_116 := Lib.hid (HLL2_105.out.over HD_105.out hd)
          clear hd HD_105 HM_105 HLL2_105
          refine hK.out _ _ (trivial) (fun hHeld => ?_)
          clear hK K
          try simp only [Act.put, List.setIfInBounds_toArray, List.set_cons_zero, List.set_cons_succ]
          refine wpAnyH_take (i := 12) (oi := { dst := some 28, op := _, type := _, pos := _, after := _, guard := _ }) (v := ?_) rfl (by kernel_rfl) (by kernel_rfl) (by kernel_rfl) (fun _ _ _ h => h) (Or.inl ⟨by rfl, ?_⟩) (by assumption) ?_
          case refine_2 => ((intro w hSw; (try dsimp only at hSw); go_simp); try with_reducible rfl)
          try simp only [Act.put, List.setIfInBounds_toArray, List.set_cons_zero, List.set_cons_succ]
          refine wpAnyH_take (i := 14) (oi := { dst := some 2, op := _, type := _, pos := _, after := _, guard := _ }) (v := ?_) rfl (by kernel_rfl) (by kernel_rfl) (by kernel_rfl) (fun _ _ _ h => h) (Or.inl ⟨by rfl, ?_⟩) (by assumption) ?_
          case refine_2 => ((intro w hSw; (try dsimp only at hSw); go_simp); try with_reducible rfl)
          try simp only [Act.put, List.setIfInBounds_toArray, List.set_cons_zero, List.set_cons_succ]
          refine wpAnyH_ready (rs := [4, 13]) (by kernel_rfl) (by simp) ?_
          refine AllReadyH.cons (o := { dst := some 20, op := _, type := _, pos := _, after := _, guard := _ }) rfl (fun K hK => ?_) (AllReadyH.cons (o := { dst := some 29, op := _, type := _, pos := _, after := _, guard := _ }) rfl (fun K hK => ?_) AllReadyH.nil)
          · skip
            go_simp
            refine hK.out _ _ (trivial) (fun hHeld => ?_)
            clear hK K
            try simp only [Act.put, List.setIfInBounds_toArray, List.set_cons_zero, List.set_cons_succ]
            have HD_125 := Lib.hid (HD_116.out.alloc (.cells #[.int .i64 (-1), .int .i64 (n : Nat), .int .i64 (row : Nat)] 3))
            have HM_125 := Lib.hid (HM_116.out.below (Below.alloc (Below.refl _ _) (Nat.le_refl _) (.cells #[.int .i64 (-1), .int .i64 (n : Nat), .int .i64 (row : Nat)] 3)))
            have HL_125 := Lib.hid (Own.lit3 w_116 w.heap.size (-1) (n : Int) (row : Int) HD_116.out.size)
            have HLL2_125 := Lib.hid (HLL2_116.out.below (Below.alloc (Below.refl _ _) (Nat.le_refl _) (.cells #[.int .i64 (-1), .int .i64 (n : Nat), .int .i64 (row : Nat)] 3)))
            obtain ⟨W_125, hW⟩ : ∃ W, W = w_116.alloc (.cells #[.int .i64 (-1), .int .i64 (n : Nat), .int .i64 (row : Nat)] 3) := ⟨_, rfl⟩
            rw [← hW] at HD_125 HM_125 HL_125 HLL2_125 ⊢
            clear hW
            obtain ⟨B_125, hB⟩ : ∃ B, B = w_116.heap.size := ⟨_, rfl⟩
            rw [← hB] at HL_125 ⊢
            clear hB
            clear HD_116 HM_116 HLL2_116
            refine wpAnyH_take (i := 7) (oi := { dst := some 23, op := _, type := _, pos := _, after := _, guard := _ }) (v := ?_) rfl (by kernel_rfl) (by kernel_rfl) (by kernel_rfl) (fun _ _ _ h => h) (Or.inl ⟨by rfl, ?_⟩) (by assumption) ?_
            case refine_2 => ((intro w hSw; (try dsimp only at hSw); go_simp); try with_reducible rfl)
            try simp only [Act.put, List.setIfInBounds_toArray, List.set_cons_zero, List.set_cons_succ]
            refine wpAnyH_ready (rs := [8, 13]) (by kernel_rfl) (by simp) ?_
            refine AllReadyH.cons (o := { dst := some 24, op := _, type := _, pos := _, after := _, guard := _ }) rfl (fun K hK => ?_) (AllReadyH.cons (o := { dst := some 29, op := _, type := _, pos := _, after := _, guard := _ }) rfl (fun K hK => ?_) AllReadyH.nil)
            · skip
              have x1 := HL_125.out.cellAt c_105 (by omega)
              obtain ⟨x_127, hx⟩ : ∃ x, x = ([-1, (n : Int), (row : Int)] : List Int).getD c_105 0 := ⟨_, rfl⟩
              rw [← hx] at x1
              clear hx
              go_simp
              refine hK.out _ _ (trivial) (fun hHeld => ?_)
              clear hK K
              try simp only [Act.put, List.setIfInBounds_toArray, List.set_cons_zero, List.set_cons_succ]
              clear x1
              refine wpAnyH_take (i := 15) (oi := { dst := some 3, op := _, type := _, pos := _, after := _, guard := _ }) (v := ?_) rfl (by kernel_rfl) (by kernel_rfl) (by kernel_rfl) (fun _ _ _ h => h) (Or.inl ⟨by rfl, ?_⟩) (by assumption) ?_
              case refine_2 => ((intro w hSw; (try dsimp only at hSw); go_simp); try with_reducible rfl)
              try simp only [Act.put, List.setIfInBounds_toArray, List.set_cons_zero, List.set_cons_succ]
              refine wpAnyH_ready (rs := [13]) (by kernel_rfl) (by simp) ?_
              refine AllReadyH.cons (o := { dst := some 29, op := _, type := _, pos := _, after := _, guard := _ }) rfl (fun K hK => ?_) AllReadyH.nil
              have x1 := HLL2_125.out.cellAt c_116 (by omega)
              obtain ⟨x_129, hx⟩ : ∃ x, x = ([-1, 7] : List Int).getD c_116 0 := ⟨_, rfl⟩
              rw [← hx] at x1
              clear hx
              go_simp
              refine hK.out _ _ (trivial) (fun hHeld => ?_)
              clear hK K
              try simp only [Act.put, List.setIfInBounds_toArray, List.set_cons_zero, List.set_cons_succ]
              clear x1
              refine wpAnyH_take (i := 16) (oi := { dst := some 4, op := _, type := _, pos := _, after := _, guard := _ }) (v := ?_) rfl (by kernel_rfl) (by kernel_rfl) (by kernel_rfl) (fun _ _ _ h => h) (Or.inl ⟨by rfl, ?_⟩) (by assumption) ?_
              case refine_2 => ((intro w hSw; (try dsimp only at hSw); go_simp); try with_reducible rfl)
              try simp only [Act.put, List.setIfInBounds_toArray, List.set_cons_zero, List.set_cons_succ]
              refine wpAnyH_done (by kernel_rfl) ?_ _
              clear hHeld
              go_wp2_with fail
              go_ret3
              exact ⟨g, ad, cp, n, _, _, rfl, HN.out, HS.out, HM_125.out, HD_125.out.more (by omega)⟩
            · skip
              have x1 := HLL2_125.out.cellAt c_116 (by omega)
              obtain ⟨x_128, hx⟩ : ∃ x, x = ([-1, 7] : List Int).getD c_116 0 := ⟨_, rfl⟩
              rw [← hx] at x1
              clear hx
              go_simp
              refine hK.out _ _ (trivial) (fun hHeld => ?_)
              clear hK K
              try simp only [Act.put, List.setIfInBounds_toArray, List.set_cons_zero, List.set_cons_succ]
              clear x1
              refine wpAnyH_ready (rs := [8]) (by kernel_rfl) (by simp) ?_
              refine AllReadyH.cons (o := { dst := some 24, op := _, type := _, pos := _, after := _, guard := _ }) rfl (fun K hK => ?_) AllReadyH.nil
              have x1 := HL_125.out.cellAt c_105 (by omega)
              obtain ⟨x_130, hx⟩ : ∃ x, x = ([-1, (n : Int), (row : Int)] : List Int).getD c_105 0 := ⟨_, rfl⟩
              rw [← hx] at x1
              clear hx
              go_simp
              refine hK.out _ _ (trivial) (fun hHeld => ?_)
              clear hK K
              try simp only [Act.put, List.setIfInBounds_toArray, List.set_cons_zero, List.set_cons_succ]
              clear x1
              refine wpAnyH_take (i := 15) (oi := { dst := some 3, op := _, type := _, pos := _, after := _, guard := _ }) (v := ?_) rfl (by kernel_rfl) (by kernel_rfl) (by kernel_rfl) (fun _ _ _ h => h) (Or.inl ⟨by rfl, ?_⟩) (by assumption) ?_
              case refine_2 => ((intro w hSw; (try dsimp only at hSw); go_simp); try with_reducible rfl)
              try simp only [Act.put, List.setIfInBounds_toArray, List.set_cons_zero, List.set_cons_succ]
              refine wpAnyH_take (i := 16) (oi := { dst := some 4, op := _, type := _, pos := _, after := _, guard := _ }) (v := ?_) rfl (by kernel_rfl) (by kernel_rfl) (by kernel_rfl) (fun _ _ _ h => h) (Or.inl ⟨by rfl, ?_⟩) (by assumption) ?_
              case refine_2 => ((intro w hSw; (try dsimp only at hSw); go_simp); try with_reducible rfl)
              try simp only [Act.put, List.setIfInBounds_toArray, List.set_cons_zero, List.set_cons_succ]
              refine wpAnyH_done (by kernel_rfl) ?_ _
              clear hHeld
              go_wp2_with fail
              go_ret3
              exact ⟨g, ad, cp, n, _, _, rfl, HN.out, HS.out, HM_125.out, HD_125.out.more (by omega)⟩
          · skip
            have x1 := HLL2_116.out.cellAt c_116 (by omega)
            obtain ⟨x_126, hx⟩ : ∃ x, x = ([-1, 7] : List Int).getD c_116 0 := ⟨_, rfl⟩
            rw [← hx] at x1
            clear hx
            go_simp
            refine hK.out _ _ (trivial) (fun hHeld => ?_)
            clear hK K
            try simp only [Act.put, List.setIfInBounds_toArray, List.set_cons_zero, List.set_cons_succ]
            clear x1
            refine wpAnyH_ready (rs := [4]) (by kernel_rfl) (by simp) ?_
            refine AllReadyH.cons (o := { dst := some 20, op := _, type := _, pos := _, after := _, guard := _ }) rfl (fun K hK => ?_) AllReadyH.nil
            go_simp
            refine hK.out _ _ (trivial) (fun hHeld => ?_)
            clear hK K
            try simp only [Act.put, List.setIfInBounds_toArray, List.set_cons_zero, List.set_cons_succ]
            have HD_131 := Lib.hid (HD_116.out.alloc (.cells #[.int .i64 (-1), .int .i64 (n : Nat), .int .i64 (row : Nat)] 3))
            have HM_131 := Lib.hid (HM_116.out.below (Below.alloc (Below.refl _ _) (Nat.le_refl _) (.cells #[.int .i64 (-1), .int .i64 (n : Nat), .int .i64 (row : Nat)] 3)))
            have HL_131 := Lib.hid (Own.lit3 w_116 w.heap.size (-1) (n : Int) (row : Int) HD_116.out.size)
            have HLL2_131 := Lib.hid (HLL2_116.out.below (Below.alloc (Below.refl _ _) (Nat.le_refl _) (.cells #[.int .i64 (-1), .int .i64 (n : Nat), .int .i64 (row : Nat)] 3)))
            obtain ⟨W_131, hW⟩ : ∃ W, W = w_116.alloc (.cells #[.int .i64 (-1), .int .i64 (n : Nat), .int .i64 (row : Nat)] 3) := ⟨_, rfl⟩
            rw [← hW] at HD_131 HM_131 HL_131 HLL2_131 ⊢
            clear hW
            obtain ⟨B_131, hB⟩ : ∃ B, B = w_116.heap.size := ⟨_, rfl⟩
            rw [← hB] at HL_131 ⊢
            clear hB
            clear HD_116 HM_116 HLL2_116
            refine wpAnyH_take (i := 7) (oi := { dst := some 23, op := _, type := _, pos := _, after := _, guard := _ }) (v := ?_) rfl (by kernel_rfl) (by kernel_rfl) (by kernel_rfl) (fun _ _ _ h => h) (Or.inl ⟨by rfl, ?_⟩) (by assumption) ?_
            case refine_2 => ((intro w hSw; (try dsimp only at hSw); go_simp); try with_reducible rfl)
            try simp only [Act.put, List.setIfInBounds_toArray, List.set_cons_zero, List.set_cons_succ]
            refine wpAnyH_ready (rs := [8]) (by kernel_rfl) (by simp) ?_
            refine AllReadyH.cons (o := { dst := some 24, op := _, type := _, pos := _, after := _, guard := _ }) rfl (fun K hK => ?_) AllReadyH.nil
            have x1 := HL_131.out.cellAt c_105 (by omega)
            obtain ⟨x_132, hx⟩ : ∃ x, x = ([-1, (n : Int), (row : Int)] : List Int).getD c_105 0 := ⟨_, rfl⟩
            rw [← hx] at x1
            clear hx
            go_simp
            refine hK.out _ _ (trivial) (fun hHeld => ?_)
            clear hK K
            try simp only [Act.put, List.setIfInBounds_toArray, List.set_cons_zero, List.set_cons_succ]
            clear x1
            refine wpAnyH_take (i := 15) (oi := { dst := some 3, op := _, type := _, pos := _, after := _, guard := _ }) (v := ?_) rfl (by kernel_rfl) (by kernel_rfl) (by kernel_rfl) (fun _ _ _ h => h) (Or.inl ⟨by rfl, ?_⟩) (by assumption) ?_
            case refine_2 => ((intro w hSw; (try dsimp only at hSw); go_simp); try with_reducible rfl)
            try simp only [Act.put, List.setIfInBounds_toArray, List.set_cons_zero, List.set_cons_succ]
            refine wpAnyH_take (i := 16) (oi := { dst := some 4, op := _, type := _, pos := _, after := _, guard := _ }) (v := ?_) rfl (by kernel_rfl) (by kernel_rfl) (by kernel_rfl) (fun _ _ _ h => h) (Or.inl ⟨by rfl, ?_⟩) (by assumption) ?_
            case refine_2 => ((intro w hSw; (try dsimp only at hSw); go_simp); try with_reducible rfl)
            try simp only [Act.put, List.setIfInBounds_toArray, List.set_cons_zero, List.set_cons_succ]
            refine wpAnyH_done (by kernel_rfl) ?_ _
            clear hHeld
            go_wp2_with fail
            go_ret3
            exact ⟨g, ad, cp, n, _, _, rfl, HN.out, HS.out, HM_131.out, HD_131.out.more (by omega)⟩
  · have b1 : ((c : Int) == 0) = false := by simp; omega
    obtain ⟨-, hgc⟩ := HM4.out.mrow.cells
    obtain ⟨b2, o2, u2, rfl, hcell, hrow0⟩ := hgc 0 (by omega)
    obtain ⟨au, cu, rfl⟩ := hrow0.shape
    obtain ⟨l, hl⟩ : ∃ l, l = (g.getD 0 []).length := ⟨_, rfl⟩
    have hl1 : 1 ≤ l := by rw [hl]; exact (HS.out.2.2 0 (by rw [← HN.out]; omega)).1
    have hl6 : l ≤ 6 := by rw [hl]; exact (HS.out.2.2 0 (by rw [← HN.out]; omega)).2
    rw [← hl] at hcell
    rw [Nat.add_zero] at hcell
    have i2 : (0 : Int) < (n : Int) := by omega
    have i3 : 0 < n := by omega
    clear hgc hrow0 hl
    go_wp2_with fail
    refine (pickD w0 a m cap R (q + 70 + 1 + 1) l w _ HB.out hm HD4.out (by omega) (by omega) (by omega)).mono ?_
    rintro e w5 ⟨d, hdd, rfl, hd⟩
    have HD5 := Lib.hid (HD4.out.trans hd)
    have HM5 := Lib.hid (HM4.out.over HD4.out hd)
    clear hd hcell
    go_wp2_with fail
    go_ret3
    exact ⟨g, _, cp, n, _, _, rfl, HN.out, HS.out, HM5.out, HD5.out.more (by omega)⟩

end Go.Proofs.Ytkhhloeemecokaa
