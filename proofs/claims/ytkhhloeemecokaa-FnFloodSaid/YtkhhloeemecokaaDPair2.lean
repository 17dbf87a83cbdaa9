/- Contracts of the draws of an index and of two indexes; DrawPassWay, DrawPeakFlood. -/
import Derived.Test.YtkhhloeemecokaaDPair
namespace Go.Proofs.Ytkhhloeemecokaa
open Go.RowKit
set_option linter.unusedVariables false

set_option maxRecDepth 4000 in
set_option maxHeartbeats 2000000 in
theorem index_draw (w0 : World) (a : Option Addr) (m cap R q : Nat) (w1 w : World) (hb : Bytes w0 a m) (hm : m ≤ 2000) (hr : Drawn w0 a m cap R w1 q w) (hq : q ≤ 8000) :
    Calls Try.prog 57 #[.pointer (some ⟨R, 0, none⟩)] w (GivesIdx w0 a m cap R q w) := by
  have HG := Lib.hid (cell_any w0 a m cap R q w1 w hb hm hr (by omega))
  clear hr hb
  go_enter Try.func57, Try.ntmps57
  go_wp2_with fail
  go_at_call 74
  with_reducible refine HG.out.mono ?_
  rintro e w2 ⟨g, ad, cp, n, x, y, rfl, hn, hs, hM, hd⟩
  have HN := Lib.hid hn
  have HS := Lib.hid hs
  have HM := Lib.hid hM
  have HD := Lib.hid hd
  have hn1 : 1 ≤ n := by rw [hn]; exact hs.1
  clear hn hs hM hd HG
  obtain ⟨-, hgc⟩ := HM.out.mrow.cells
  obtain ⟨b2, o2, u2, rfl, hcell, hrow0⟩ := hgc 0 (by omega)
  obtain ⟨au, cu, rfl⟩ := hrow0.shape
  obtain ⟨l, hl⟩ : ∃ l, l = (g.getD 0 []).length := ⟨_, rfl⟩
  rw [← hl] at hcell
  rw [Nat.add_zero] at hcell
  have i2 : (0 : Int) < (n : Int) := by omega
  have i3 : 0 < n := by omega
  clear hgc hrow0 hl
  go_upto_region 2 with (fail)
  refine wp_region_held_drew (S := fun wx => wx.cell? ⟨b2, o2, none⟩ = some (.slice au l cu)) (by kernel_rfl) (hcell) (fun hHeld => ?_)
  refine wpAnyH_take (i := 0) (oi := { dst := some 13, op := _, type := _, pos := _, after := _, guard := _ }) (v := ?_) rfl (by kernel_rfl) (by kernel_rfl) (by kernel_rfl) (fun _ _ _ h => h) (Or.inl ⟨by rfl, ?_⟩) (by assumption) ?_
  case refine_2 => ((intro w hSw; (try dsimp only at hSw); go_simp); try with_reducible rfl)
  try simp only [Act.put, List.setIfInBounds_toArray, List.set_cons_zero, List.set_cons_succ]
  refine wpAnyH_take (i := 1) (oi := { dst := some 14, op := _, type := _, pos := _, after := _, guard := _ }) (v := ?_) rfl (by kernel_rfl) (by kernel_rfl) (by kernel_rfl) (fun _ _ _ h => h) (Or.inl ⟨by rfl, ?_⟩) (by assumption) ?_
  case refine_2 => ((intro w hSw; (try dsimp only at hSw); go_simp); try with_reducible rfl)
  try simp only [Act.put, List.setIfInBounds_toArray, List.set_cons_zero, List.set_cons_succ]
  refine wpAnyH_take (i := 2) (oi := { dst := some 15, op := _, type := _, pos := _, after := _, guard := _ }) (v := ?_) rfl (by kernel_rfl) (by kernel_rfl) (by kernel_rfl) (fun _ _ _ h => h) (Or.inl ⟨by rfl, ?_⟩) (by assumption) ?_
  case refine_2 => ((intro w hSw; (try dsimp only at hSw); go_simp); try with_reducible rfl)
  try simp only [Act.put, List.setIfInBounds_toArray, List.set_cons_zero, List.set_cons_succ]
  refine wpAnyH_take (i := 3) (oi := { dst := some 16, op := _, type := _, pos := _, after := _, guard := _ }) (v := ?_) rfl (by kernel_rfl) (by kernel_rfl) (by kernel_rfl) (fun _ _ _ h => h) (Or.inl ⟨by rfl, ?_⟩) (by assumption) ?_
  case refine_2 => ((intro w hSw; (try dsimp only at hSw); go_simp); try with_reducible rfl)
  try simp only [Act.put, List.setIfInBounds_toArray, List.set_cons_zero, List.set_cons_succ]
  refine wpAnyH_take (i := 4) (oi := { dst := some 17, op := _, type := _, pos := _, after := _, guard := _ }) (v := ?_) rfl (by kernel_rfl) (by kernel_rfl) (by kernel_rfl) (fun _ _ _ h => h) (Or.inl ⟨by rfl, ?_⟩) (by assumption) ?_
  case refine_2 => ((intro w hSw; (try dsimp only at hSw); go_simp); try with_reducible rfl)
  try simp only [Act.put, List.setIfInBounds_toArray, List.set_cons_zero, List.set_cons_succ]
  refine wpAnyH_take (i := 5) (oi := { dst := some 18, op := _, type := _, pos := _, after := _, guard := _ }) (v := ?_) rfl (by kernel_rfl) (by kernel_rfl) (by kernel_rfl) (fun _ _ _ h => h) (Or.inl ⟨by rfl, ?_⟩) (by assumption) ?_
  case refine_2 => ((intro w hSw; (try dsimp only at hSw); go_simp); try with_reducible rfl)
  try simp only [Act.put, List.setIfInBounds_toArray, List.set_cons_zero, List.set_cons_succ]
  refine wpAnyH_take (i := 6) (oi := { dst := some 19, op := _, type := _, pos := _, after := _, guard := _ }) (v := ?_) rfl (by kernel_rfl) (by kernel_rfl) (by kernel_rfl) (fun _ _ _ h => h) (Or.inl ⟨by rfl, ?_⟩) (by assumption) ?_
  case refine_2 => ((intro w hSw; (try dsimp only at hSw); go_simp); try with_reducible rfl)
  try simp only [Act.put, List.setIfInBounds_toArray, List.set_cons_zero, List.set_cons_succ]
  refine wpAnyH_take (i := 7) (oi := { dst := some 20, op := _, type := _, pos := _, after := _, guard := _ }) (v := ?_) rfl (by kernel_rfl) (by kernel_rfl) (by kernel_rfl) (fun _ _ _ h => h) (Or.inl ⟨by rfl, ?_⟩) (by assumption) ?_
  case refine_2 => ((intro w hSw; (try dsimp only at hSw); go_simp); try with_reducible rfl)
  try simp only [Act.put, List.setIfInBounds_toArray, List.set_cons_zero, List.set_cons_succ]
  refine wpAnyH_take (i := 8) (oi := { dst := some 21, op := _, type := _, pos := _, after := _, guard := _ }) (v := ?_) rfl (by kernel_rfl) (by kernel_rfl) (by kernel_rfl) (fun _ _ _ h => h) (Or.inl ⟨by rfl, ?_⟩) (by assumption) ?_
  case refine_2 => ((intro w hSw; (try dsimp only at hSw); go_simp); try with_reducible rfl)
  try simp only [Act.put, List.setIfInBounds_toArray, List.set_cons_zero, List.set_cons_succ]
  refine wpAnyH_take (i := 9) (oi := { dst := some 2, op := _, type := _, pos := _, after := _, guard := _ }) (v := ?_) rfl (by kernel_rfl) (by kernel_rfl) (by kernel_rfl) (fun _ _ _ h => h) (Or.inl ⟨by rfl, ?_⟩) (by assumption) ?_
  case refine_2 => ((intro w hSw; (try dsimp only at hSw); go_simp); try with_reducible rfl)
  try simp only [Act.put, List.setIfInBounds_toArray, List.set_cons_zero, List.set_cons_succ]
  refine wpAnyH_take (i := 10) (oi := { dst := some 3, op := _, type := _, pos := _, after := _, guard := _ }) (v := ?_) rfl (by kernel_rfl) (by kernel_rfl) (by kernel_rfl) (fun _ _ _ h => h) (Or.inl ⟨by rfl, ?_⟩) (by assumption) ?_
  case refine_2 => ((intro w hSw; (try dsimp only at hSw); go_simp); try with_reducible rfl)
  try simp only [Act.put, List.setIfInBounds_toArray, List.set_cons_zero, List.set_cons_succ]
  refine wpAnyH_done (by kernel_rfl) ?_ _
  clear hHeld
  go_wp2_with fail
  go_ret2
  exact ⟨g, _, cp, n, _, rfl, HN.out, HS.out, HM.out.below (show Below w2.heap.size w2 w2.drew from below_drewN (Below.refl _ _) 1), HD.out.below (show Below w2.heap.size w2 w2.drew from below_drewN (Below.refl _ _) 1)⟩
/-- A grid and two numbers that are drawn. -/
def GivesTwo (w0 : World) (a : Option Addr) (m cap R : Nat) (q : Nat) (w : World) (e : Ending) (w' : World) : Prop :=
  ∃ g ad cp n x y, e = .returned (.tuple #[.slice ad n cp, .int .i64 x, .int .i64 y]) ∧ n = g.length ∧ SmallG g ∧ MOwn w' w.heap.size (.slice ad n cp) g ∧ Drawn w0 a m cap R w (q + 90) w'
set_option maxRecDepth 4000 in
set_option maxHeartbeats 4000000 in
theorem pair_any (w0 : World) (a : Option Addr) (m cap R q : Nat) (w1 w : World) (hb : Bytes w0 a m) (hm : m ≤ 2000) (hr : Drawn w0 a m cap R w1 q w) (hq : q ≤ 8000) :
    Calls Try.prog 34 #[.pointer (some ⟨R, 0, none⟩)] w (GivesTwo w0 a m cap R q w) := by
  have HD0 := Lib.hid (show Drawn w0 a m cap R w q w from by obtain ⟨h0, ⟨q', h1, h2⟩, h3⟩ := hr; exact (Drawn.refl h2).more h1)
  have HB := Lib.hid hb
  have HG := Lib.hid (index_draw w0 a m cap R q w1 w hb hm hr (by omega))
  clear hr hb
  go_enter Try.func34, Try.ntmps34
  go_wp2_with fail
  go_at_call 57
  with_reducible refine HG.out.mono ?_
  rintro e w2 ⟨g, ad, cp, n, x, rfl, hn, hs, hM, hd⟩
  have hn1 : 1 ≤ n := by rw [hn]; exact hs.1
  have hn5 : n ≤ 5 := by rw [hn]; exact hs.2.1
  have HN := Lib.hid hn
  have HS := Lib.hid hs
  have HM2 := Lib.hid hM
  have HD2 := Lib.hid (HD0.out.trans hd)
  clear hn hs hM hd HG
  go_wp2_with fail
  refine (pickD w0 a m cap R (q + 80) 16 w _ HB.out hm HD2.out (by omega) (by omega) (by omega)).mono ?_
  rintro e w4 ⟨c, hc, rfl, hd⟩
  have HD4 := Lib.hid (HD2.out.trans hd)
  have HM4 := Lib.hid (HM2.out.over HD2.out hd)
  clear hd HM2 HD2
  by_cases c0 : c = 0
  · subst c0
    have b1 : (((0 : Nat) : Int) == 0) = true := by simp
    go_upto_region 3 with (fail)
    have hbd : Below w4.heap.size w4 w4.drew := below_drewN (Below.refl _ _) 1
    have HDs := Lib.hid (HD4.out.below hbd)
    have HMs := Lib.hid (HM4.out.below hbd)
    clear hbd HD4 HM4
    refine wp_region_held_drew (S := fun _ => True) (by kernel_rfl) (trivial) (fun hHeld => ?_)
    obtain ⟨W_0, hW⟩ : ∃ W, W = w4.drew := ⟨_, rfl⟩
    rw [← hW] at HDs HMs ⊢
    clear hW hHeld
    have hHeld : True := trivial
    refine wpAnyH_take (i := 0) (oi := { dst := some 15, op := _, type := _, pos := _, after := _, guard := _ }) (v := ?_) rfl (by kernel_rfl) (by kernel_rfl) (by kernel_rfl) (fun _ _ _ h => h) (Or.inl ⟨by rfl, ?_⟩) (by assumption) ?_
    case refine_2 => ((intro w hSw; (try dsimp only at hSw); go_simp); try with_reducible rfl)
    try simp only [Act.put, List.setIfInBounds_toArray, List.set_cons_zero, List.set_cons_succ]
    refine wpAnyH_take (i := 1) (oi := { dst := some 16, op := _, type := _, pos := _, after := _, guard := _ }) (v := ?_) rfl (by kernel_rfl) (by kernel_rfl) (by kernel_rfl) (fun _ _ _ h => h) (Or.inl ⟨by rfl, ?_⟩) (by assumption) ?_
    case refine_2 => ((intro w hSw; (try dsimp only at hSw); go_simp); try with_reducible rfl)
    try simp only [Act.put, List.setIfInBounds_toArray, List.set_cons_zero, List.set_cons_succ]
    refine wpAnyH_take (i := 3) (oi := { dst := some 18, op := _, type := _, pos := _, after := _, guard := _ }) (v := ?_) rfl (by kernel_rfl) (by kernel_rfl) (by kernel_rfl) (fun _ _ _ h => h) (Or.inl ⟨by rfl, ?_⟩) (by assumption) ?_
    case refine_2 => ((intro w hSw; (try dsimp only at hSw); go_simp); try with_reducible rfl)
    try simp only [Act.put, List.setIfInBounds_toArray, List.set_cons_zero, List.set_cons_succ]
    refine wpAnyH_ready (rs := [2, 4]) (by kernel_rfl) (by simp) ?_
    refine AllReadyH.cons (o := { dst := some 17, op := _, type := _, pos := _, after := _, guard := _ }) rfl (fun K hK => ?_) (AllReadyH.cons (o := { dst := some 19, op := _, type := _, pos := _, after := _, guard := _ }) rfl (fun K hK => ?_) AllReadyH.nil)
    · skip
      go_simp
      refine hK.out _ _ (trivial) (fun hHeld => ?_)
      clear hK K
      try simp only [Act.put, List.setIfInBounds_toArray, List.set_cons_zero, List.set_cons_succ]
      have HD_1 := Lib.hid (HDs.out.alloc (.cells #[.int .i64 (-1), .int .i64 49] 3))
      have HM_1 := Lib.hid (HMs.out.below (Below.alloc (Below.refl _ _) (Nat.le_refl _) (.cells #[.int .i64 (-1), .int .i64 49] 3)))
      have HL_1 := Lib.hid (Own.lit2 W_0 w.heap.size (-1) 49 HDs.out.size)
      obtain ⟨W_1, hW⟩ : ∃ W, W = W_0.alloc (.cells #[.int .i64 (-1), .int .i64 49] 3) := ⟨_, rfl⟩
      rw [← hW] at HD_1 HM_1 HL_1 ⊢
      clear hW
      obtain ⟨B_1, hB⟩ : ∃ B, B = W_0.heap.size := ⟨_, rfl⟩
      rw [← hB] at HL_1 ⊢
      clear hB
      clear HDs HMs
      refine wpAnyH_ready (rs := [4]) (by kernel_rfl) (by simp) ?_
      refine AllReadyH.cons (o := { dst := some 19, op := _, type := _, pos := _, after := _, guard := _ }) rfl (fun K hK => ?_) AllReadyH.nil
      go_simp
      go_at_call 58
      refine (pickD w0 a m cap R (q + 81) 2 w _ HB.out hm (HD_1.out.more (by omega)) (by omega) (by omega) (by omega)).mono ?_
      rintro e w_3 ⟨c_3, hc_3, rfl, hd⟩
      have HD_3 := Lib.hid ((HD_1.out.more (show _ ≤ q + 81 by omega)).trans hd)
      have HM_3 := Lib.hid (HM_1.out.over HD_1.out hd)
      have i0_3 : (0 : Int) ≤ (c_3 : Int) := by omega
      have HLL_3 := Lib.hid (HL_1.out.over HD_1.out hd)
      clear hd HD_1 HM_1 HL_1
      refine hK.out _ _ (trivial) (fun hHeld => ?_)
      clear hK K
      try simp only [Act.put, List.setIfInBounds_toArray, List.set_cons_zero, List.set_cons_succ]
      refine wpAnyH_take (i := 5) (oi := { dst := some 20, op := _, type := _, pos := _, after := _, guard := _ }) (v := ?_) rfl (by kernel_rfl) (by kernel_rfl) (by kernel_rfl) (fun _ _ _ h => h) (Or.inl ⟨by rfl, ?_⟩) (by assumption) ?_
      case refine_2 => ((intro w hSw; (try dsimp only at hSw); go_simp); try with_reducible rfl)
      try simp only [Act.put, List.setIfInBounds_toArray, List.set_cons_zero, List.set_cons_succ]
      refine wpAnyH_take (i := 7) (oi := { dst := some 2, op := _, type := _, pos := _, after := _, guard := _ }) (v := ?_) rfl (by kernel_rfl) (by kernel_rfl) (by kernel_rfl) (fun _ _ _ h => h) (Or.inl ⟨by rfl, ?_⟩) (by assumption) ?_
      case refine_2 => ((intro w hSw; (try dsimp only at hSw); go_simp); try with_reducible rfl)
      try simp only [Act.put, List.setIfInBounds_toArray, List.set_cons_zero, List.set_cons_succ]
      refine wpAnyH_take (i := 8) (oi := { dst := some 3, op := _, type := _, pos := _, after := _, guard := _ }) (v := ?_) rfl (by kernel_rfl) (by kernel_rfl) (by kernel_rfl) (fun _ _ _ h => h) (Or.inl ⟨by rfl, ?_⟩) (by assumption) ?_
      case refine_2 => ((intro w hSw; (try dsimp only at hSw); go_simp); try with_reducible rfl)
      try simp only [Act.put, List.setIfInBounds_toArray, List.set_cons_zero, List.set_cons_succ]
      refine wpAnyH_ready (rs := [6]) (by kernel_rfl) (by simp) ?_
      refine AllReadyH.cons (o := { dst := some 21, op := _, type := _, pos := _, after := _, guard := _ }) rfl (fun K hK => ?_) AllReadyH.nil
      have x1 := HLL_3.out.cellAt c_3 (by omega)
      obtain ⟨x_4, hx⟩ : ∃ x, x = ([-1, 49] : List Int).getD c_3 0 := ⟨_, rfl⟩
      rw [← hx] at x1
      clear hx
      go_simp
      refine hK.out _ _ (trivial) (fun hHeld => ?_)
      clear hK K
      try simp only [Act.put, List.setIfInBounds_toArray, List.set_cons_zero, List.set_cons_succ]
      clear x1
      refine wpAnyH_take (i := 9) (oi := { dst := some 4, op := _, type := _, pos := _, after := _, guard := _ }) (v := ?_) rfl (by kernel_rfl) (by kernel_rfl) (by kernel_rfl) (fun _ _ _ h => h) (Or.inl ⟨by rfl, ?_⟩) (by assumption) ?_
      case refine_2 => ((intro w hSw; (try dsimp only at hSw); go_simp); try with_reducible rfl)
      try simp only [Act.put, List.setIfInBounds_toArray, List.set_cons_zero, List.set_cons_succ]
      refine wpAnyH_done (by kernel_rfl) ?_ _
      clear hHeld
      go_wp2_with fail
      go_ret3
      exact ⟨g, ad, cp, n, _, _, rfl, HN.out, HS.out, HM_3.out, HD_3.out.more (by omega)⟩
    · skip
      go_simp
      go_at_call 58
      refine (pickD w0 a m cap R (q + 81) 2 w _ HB.out hm (HDs.out.more (by omega)) (by omega) (by omega) (by omega)).mono ?_
      rintro e w_2 ⟨c_2, hc_2, rfl, hd⟩
      have HD_2 := Lib.hid ((HDs.out.more (show _ ≤ q + 81 by omega)).trans hd)
      have HM_2 := Lib.hid (HMs.out.over HDs.out hd)
      have i0_2 : (0 : Int) ≤ (c_2 : Int) := by omega
      clear hd HDs HMs 
      refine hK.out _ _ (trivial) (fun hHeld => ?_)
      clear hK K
      try simp only [Act.put, List.setIfInBounds_toArray, List.set_cons_zero, List.set_cons_succ]
      refine wpAnyH_take (i := 7) (oi := { dst := some 2, op := _, type := _, pos := _, after := _, guard := _ }) (v := ?_) rfl (by kernel_rfl) (by kernel_rfl) (by kernel_rfl) (fun _ _ _ h => h) (Or.inl ⟨by rfl, ?_⟩) (by assumption) ?_
      case refine_2 => ((intro w hSw; (try dsimp only at hSw); go_simp); try with_reducible rfl)
      try simp only [Act.put, List.setIfInBounds_toArray, List.set_cons_zero, List.set_cons_succ]
      refine wpAnyH_take (i := 8) (oi := { dst := some 3, op := _, type := _, pos := _, after := _, guard := _ }) (v := ?_) rfl (by kernel_rfl) (by kernel_rfl) (by kernel_rfl) (fun _ _ _ h => h) (Or.inl ⟨by rfl, ?_⟩) (by assumption) ?_
      case refine_2 => ((intro w hSw; (try dsimp only at hSw); go_simp); try with_reducible rfl)
      try simp only [Act.put, List.setIfInBounds_toArray, List.set_cons_zero, List.set_cons_succ]
      refine wpAnyH_ready (rs := [2]) (by kernel_rfl) (by simp) ?_
      refine AllReadyH.cons (o := { dst := some 17, op := _, type := _, pos := _, after := _, guard := _ }) rfl (fun K hK => ?_) AllReadyH.nil
      go_simp
      refine hK.out _ _ (trivial) (fun hHeld => ?_)
      clear hK K
      try simp only [Act.put, List.setIfInBounds_toArray, List.set_cons_zero, List.set_cons_succ]
      have HD_5 := Lib.hid (HD_2.out.alloc (.cells #[.int .i64 (-1), .int .i64 49] 3))
      have HM_5 := Lib.hid (HM_2.out.below (Below.alloc (Below.refl _ _) (Nat.le_refl _) (.cells #[.int .i64 (-1), .int .i64 49] 3)))
      have HL_5 := Lib.hid (Own.lit2 w_2 w.heap.size (-1) 49 HD_2.out.size)
      obtain ⟨W_5, hW⟩ : ∃ W, W = w_2.alloc (.cells #[.int .i64 (-1), .int .i64 49] 3) := ⟨_, rfl⟩
      rw [← hW] at HD_5 HM_5 HL_5 ⊢
      clear hW
      obtain ⟨B_5, hB⟩ : ∃ B, B = w_2.heap.size := ⟨_, rfl⟩
      rw [← hB] at HL_5 ⊢
      clear hB
      clear HD_2 HM_2
      refine wpAnyH_take (i := 5) (oi := { dst := some 20, op := _, type := _, pos := _, after := _, guard := _ }) (v := ?_) rfl (by kernel_rfl) (by kernel_rfl) (by kernel_rfl) (fun _ _ _ h => h) (Or.inl ⟨by rfl, ?_⟩) (by assumption) ?_
      case refine_2 => ((intro w hSw; (try dsimp only at hSw); go_simp); try with_reducible rfl)
      try simp only [Act.put, List.setIfInBounds_toArray, List.set_cons_zero, List.set_cons_succ]
      refine wpAnyH_ready (rs := [6]) (by kernel_rfl) (by simp) ?_
      refine AllReadyH.cons (o := { dst := some 21, op := _, type := _, pos := _, after := _, guard := _ }) rfl (fun K hK => ?_) AllReadyH.nil
      have x1 := HL_5.out.cellAt c_2 (by omega)
      obtain ⟨x_6, hx⟩ : ∃ x, x = ([-1, 49] : List Int).getD c_2 0 := ⟨_, rfl⟩
      rw [← hx] at x1
      clear hx
      go_simp
      refine hK.out _ _ (trivial) (fun hHeld => ?_)
      clear hK K
      try simp only [Act.put, List.setIfInBounds_toArray, List.set_cons_zero, List.set_cons_succ]
      clear x1
      refine wpAnyH_take (i := 9) (oi := { dst := some 4, op := _, type := _, pos := _, after := _, guard := _ }) (v := ?_) rfl (by kernel_rfl) (by kernel_rfl) (by kernel_rfl) (fun _ _ _ h => h) (Or.inl ⟨by rfl, ?_⟩) (by assumption) ?_
      case refine_2 => ((intro w hSw; (try dsimp only at hSw); go_simp); try with_reducible rfl)
      try simp only [Act.put, List.setIfInBounds_toArray, List.set_cons_zero, List.set_cons_succ]
      refine wpAnyH_done (by kernel_rfl) ?_ _
      clear hHeld
      go_wp2_with fail
      go_ret3
      exact ⟨g, ad, cp, n, _, _, rfl, HN.out, HS.out, HM_5.out, HD_5.out.more (by omega)⟩
  · have b1 : ((c : Int) == 0) = false := by simp; omega
    obtain ⟨-, hgc⟩ := HM4.out.mrow.cells
    obtain ⟨b2, o2, u2, rfl, hcell, hrow0⟩ := hgc 0 (by omega)
    obtain ⟨au, cu, rfl⟩ := hrow0.shape
    obtain ⟨l, hl⟩ : ∃ l, l = (g.getD 0 []).length := ⟨_, rfl⟩
    have hl1 : 1 ≤ l := by rw [hl]; exact (HS.out.2.2 0 (by rw [← HN.out]; omega)).1
    have hl6 : l ≤ 6 := by rw [hl]; exact (HS.out.2.2 0 (by rw [← HN.out]; omega)).2
    rw [← hl] at hcell
    rw [Nat.add_zero] at hcell
    have i2 : (0 : Int) < (n : Int) := by omega
    have i3 : 0 < n := by omega
    obtain ⟨N, hN⟩ : ∃ N, N = n * l := ⟨_, rfl⟩
    have t1 : (n : Int) * (l : Int) = (N : Int) := by rw [hN]; simp
    have hN1 : 1 ≤ N := by rw [hN]; exact Nat.mul_le_mul hn1 hl1
    have hN2 : N ≤ 30 := by rw [hN]; exact Nat.mul_le_mul hn5 hl6
    clear hgc hrow0 hl hN
    go_wp2_with fail
    refine (pickD w0 a m cap R (q + 80 + 1) N w _ HB.out hm HD4.out (by omega) (by omega) (by omega)).mono ?_
    rintro e w5 ⟨d, hdd, rfl, hd⟩
    have HD5 := Lib.hid (HD4.out.trans hd)
    have HM5 := Lib.hid (HM4.out.over HD4.out hd)
    clear hd hcell
    go_wp2_with fail
    go_ret3
    exact ⟨g, _, cp, n, _, _, rfl, HN.out, HS.out, HM5.out, HD5.out.more (by omega)⟩
theorem dPassWay_any (v : Value) (zs : List Int) (w : World) (hr : RowB w v zs) (hf : ∀ n ∈ zs, (Lit.int .u8 n).wf = true) :
    Calls Try.prog 12 #[v] w (GivesGII w) := by
  have HO := Lib.hid (open_any v zs w hr hf)
  clear hr hf
  go_enter Try.func12, Try.ntmps12
  go_wp2_with fail
  refine HO.out.mono ?_
  rintro e w1 ⟨a, m, cap, hm, hb, rfl, hrd⟩
  have HP := Lib.hid (pair_any w a m cap w.heap.size 0 w1 w1 hb hm (Drawn.refl hrd) (by omega))
  clear hb hrd
  go_wp2_with fail
  go_at_call 34
  with_reducible refine HP.out.mono ?_
  rintro e w2 ⟨g, ad, cp, n, x, y, rfl, hn, hs, hM, hd⟩
  have HN := Lib.hid hn
  have HS := Lib.hid hs
  have HM := Lib.hid hM
  have HB := Lib.hid hd.bel
  clear hn hs hM hd
  go_wp2_with fail
  go_ret3
  exact ⟨g, ad, cp, n, x, y, rfl, HN.out, HS.out, HM.out.mrow, HB.out⟩
theorem dPeakFlood_any (v : Value) (zs : List Int) (w : World) (hr : RowB w v zs) (hf : ∀ n ∈ zs, (Lit.int .u8 n).wf = true) :
    Calls Try.prog 8 #[v] w (GivesGII w) := by
  have HO := Lib.hid (open_any v zs w hr hf)
  clear hr hf
  go_enter Try.func8, Try.ntmps8
  go_wp2_with fail
  refine HO.out.mono ?_
  rintro e w1 ⟨a, m, cap, hm, hb, rfl, hrd⟩
  have HP := Lib.hid (pair_any w a m cap w.heap.size 0 w1 w1 hb hm (Drawn.refl hrd) (by omega))
  clear hb hrd
  go_wp2_with fail
  go_at_call 34
  with_reducible refine HP.out.mono ?_
  rintro e w2 ⟨g, ad, cp, n, x, y, rfl, hn, hs, hM, hd⟩
  have HN := Lib.hid hn
  have HS := Lib.hid hs
  have HM := Lib.hid hM
  have HB := Lib.hid hd.bel
  clear hn hs hM hd
  go_wp2_with fail
  go_ret3
  exact ⟨g, ad, cp, n, x, y, rfl, HN.out, HS.out, HM.out.mrow, HB.out⟩

end Go.Proofs.Ytkhhloeemecokaa
