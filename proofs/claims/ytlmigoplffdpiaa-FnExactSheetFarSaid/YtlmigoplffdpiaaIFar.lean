/- Contract: SheetFar of the program. -/
import Derived.Test.YtlmigoplffdpiaaFar
import Derived.Outline
import Derived.Deep.Cut
namespace Go.Proofs.Ytlmigoplffdpiaa
open Go.RowKit

theorem gap_abs (a b : Nat) : (0 < absV ((a : Int) - b) → gapV a b = (absV ((a : Int) - b) - 1) * 4 + 1) ∧ (¬ 0 < absV ((a : Int) - b) → gapV a b = 0) := by
  unfold gapV absV
  constructor
  · intro h
    rw [if_neg (fun e => by subst e; simp at h)]
    omega
  · intro h
    by_cases e : a = b
    · rw [if_pos e]
    · exfalso; apply h; split <;> omega

set_option maxHeartbeats 1000000 in
theorem ifar_any (S T : ByteArray) (x : Int) (w : World) (h : farV S T x) :
    Calls Try.prog 14 #[.string S, .string T] w fun e w' => e = .returned (.int .i64 x) ∧ Below w.heap.size w w' := by
  rcases h with ⟨c, r, c', r', hn, hn', rfl⟩ | ⟨hn, rfl⟩
  · have HF := Lib.hid (fun wx => named_yes hn wx)
    have HF' := Lib.hid (fun wx => named_yes hn' wx)
    have H1 := Lib.hid (fun wx => apart_any c c' wx hn.1 hn'.1)
    have H2 := Lib.hid (fun wx => apart_any r r' wx hn.2.1 hn'.2.1)
    have G1 := Lib.hid (gap_abs c c')
    have G2 := Lib.hid (gap_abs r r')
    have b1 : 0 ≤ absV ((c : Int) - c') ∧ absV ((c : Int) - c') ≤ 25 := by have := hn.1; have := hn'.1; unfold absV; split <;> omega
    have b2 : 0 ≤ absV ((r : Int) - r') ∧ absV ((r : Int) - r') ≤ 25 := by have := hn.2.1; have := hn'.2.1; unfold absV; split <;> omega
    obtain ⟨X, hX⟩ : ∃ X, X = gapV c c' := ⟨_, rfl⟩
    obtain ⟨Y, hY⟩ : ∃ Y, Y = gapV r r' := ⟨_, rfl⟩
    obtain ⟨A, hA⟩ : ∃ A, A = absV ((c : Int) - c') := ⟨_, rfl⟩
    obtain ⟨B, hB⟩ : ∃ B, B = absV ((r : Int) - r') := ⟨_, rfl⟩
    rw [← hA] at H1 b1 G1
    rw [← hB] at H2 b2 G2
    rw [← hX] at G1 ⊢
    rw [← hY] at G2 ⊢
    obtain ⟨b1a, b1b⟩ := b1
    obtain ⟨b2a, b2b⟩ := b2
    clear hn hn' hX hY hA hB
    go_enter Try.func14, Try.ntmps14
    go_wp2_with fail
    refine (HF.out _).mono ?_
    rintro e w1 ⟨rfl, hb⟩
    have HB := Lib.hid (hb.trans ((Below.alloc (Below.refl w1.heap.size w1) (Nat.le_refl _) (.cells #[.int .i64 r, .int .i64 c] 37)).mono hb.size))
    clear hb
    go_wp2_with fail
    refine (HF'.out _).mono ?_
    rintro e w2 ⟨rfl, hb⟩
    have HB2 := Lib.hid (HB.out.trans (hb.mono HB.out.size))
    have k1 := (hb.cell (p := ⟨w1.heap.size, 0, none⟩) (by simp)).trans (show _ = some (Value.int .i64 (r : Int)) by rw [cell_of_row _ w1.heap.size 0 _ _ (0, 0) (heap_alloc_new w1 _)]; rfl)
    have k2 := (hb.cell (p := ⟨w1.heap.size, 1, none⟩) (by simp)).trans (show _ = some (Value.int .i64 (c : Int)) by rw [cell_of_row _ w1.heap.size 1 _ _ (0, 0) (heap_alloc_new w1 _)]; rfl)
    have l1 := World.block_lt_of_cell? _ _ k1
    clear hb
    have HB3 := Lib.hid (HB2.out.trans ((Below.alloc (Below.refl w2.heap.size w2) (Nat.le_refl _) (.cells #[.int .i64 r', .int .i64 c'] 37)).mono HB2.out.size))
    go_upto_region 6 with (fail)
    obtain ⟨W3, hW⟩ : ∃ W, W = w2.alloc (.cells #[.int .i64 r', .int .i64 c'] 37) := ⟨_, rfl⟩
    rw [← hW] at HB3 ⊢
    have c1 : W3.cell? ⟨w1.heap.size, 0, none⟩ = some (.int .i64 r) := by rw [hW, (Below.alloc (Below.refl w2.heap.size w2) (Nat.le_refl _) (.cells #[.int .i64 r', .int .i64 c'] 37)).cell (p := ⟨w1.heap.size, 0, none⟩) l1]; exact k1
    have c2 : W3.cell? ⟨w1.heap.size, 1, none⟩ = some (.int .i64 c) := by rw [hW, (Below.alloc (Below.refl w2.heap.size w2) (Nat.le_refl _) (.cells #[.int .i64 r', .int .i64 c'] 37)).cell (p := ⟨w1.heap.size, 1, none⟩) l1]; exact k2
    have c3 : W3.cell? ⟨w2.heap.size, 0, none⟩ = some (.int .i64 r') := by rw [hW, cell_of_row _ w2.heap.size 0 _ _ (0, 0) (heap_alloc_new w2 _)]; rfl
    have c4 : W3.cell? ⟨w2.heap.size, 1, none⟩ = some (.int .i64 c') := by rw [hW, cell_of_row _ w2.heap.size 1 _ _ (0, 0) (heap_alloc_new w2 _)]; rfl
    clear hW k1 k2 l1 HB HB2
    refine wp_region_held_drew (S := fun wx => wx.cell? ⟨w1.heap.size, 0, none⟩ = some (.int .i64 r) ∧ wx.cell? ⟨w1.heap.size, 1, none⟩ = some (.int .i64 c) ∧ wx.cell? ⟨w2.heap.size, 0, none⟩ = some (.int .i64 r') ∧ wx.cell? ⟨w2.heap.size, 1, none⟩ = some (.int .i64 c')) (by kernel_rfl) (⟨c1, c2, c3, c4⟩) (fun hHeld => ?_)
    refine wpAnyH_take (i := 0) (oi := { dst := some 28, op := _, type := _, pos := _, after := _, guard := _ }) (v := ?_) rfl (by kernel_rfl) (by kernel_rfl) (by kernel_rfl) (fun _ _ _ h => h) (Or.inl ⟨by rfl, ?_⟩) (by assumption) ?_
    case refine_2 => ((intro w hSw; (try dsimp only at hSw); go_simp); try with_reducible rfl)
    try simp only [Act.put, List.setIfInBounds_toArray, List.set_cons_zero, List.set_cons_succ]
    refine wpAnyH_take (i := 1) (oi := { dst := some 29, op := _, type := _, pos := _, after := _, guard := _ }) (v := ?_) rfl (by kernel_rfl) (by kernel_rfl) (by kernel_rfl) (fun _ _ _ h => h) (Or.inl ⟨by rfl, ?_⟩) (by assumption) ?_
    case refine_2 => ((intro w hSw; (try dsimp only at hSw); go_simp); try with_reducible rfl)
    try simp only [Act.put, List.setIfInBounds_toArray, List.set_cons_zero, List.set_cons_succ]
    refine wpAnyH_take (i := 2) (oi := { dst := some 30, op := _, type := _, pos := _, after := _, guard := _ }) (v := ?_) rfl (by kernel_rfl) (by kernel_rfl) (by kernel_rfl) (fun _ _ _ h => h) (Or.inl ⟨by rfl, ?_⟩) (by assumption) ?_
    case refine_2 => ((intro w hSw; (try dsimp only at hSw); go_simp); try with_reducible rfl)
    try simp only [Act.put, List.setIfInBounds_toArray, List.set_cons_zero, List.set_cons_succ]
    refine wpAnyH_take (i := 3) (oi := { dst := some 31, op := _, type := _, pos := _, after := _, guard := _ }) (v := ?_) rfl (by kernel_rfl) (by kernel_rfl) (by kernel_rfl) (fun _ _ _ h => h) (Or.inl ⟨by rfl, ?_⟩) (by assumption) ?_
    case refine_2 => ((intro w hSw; (try dsimp only at hSw); go_simp); try with_reducible rfl)
    try simp only [Act.put, List.setIfInBounds_toArray, List.set_cons_zero, List.set_cons_succ]
    refine wpAnyH_take (i := 5) (oi := { dst := some 33, op := _, type := _, pos := _, after := _, guard := _ }) (v := ?_) rfl (by kernel_rfl) (by kernel_rfl) (by kernel_rfl) (fun _ _ _ h => h) (Or.inl ⟨by rfl, ?_⟩) (by assumption) ?_
    case refine_2 => ((intro w hSw; (try dsimp only at hSw); go_simp); try with_reducible rfl)
    try simp only [Act.put, List.setIfInBounds_toArray, List.set_cons_zero, List.set_cons_succ]
    refine wpAnyH_take (i := 6) (oi := { dst := some 34, op := _, type := _, pos := _, after := _, guard := _ }) (v := ?_) rfl (by kernel_rfl) (by kernel_rfl) (by kernel_rfl) (fun _ _ _ h => h) (Or.inl ⟨by rfl, ?_⟩) (by assumption) ?_
    case refine_2 => ((intro w hSw; (try dsimp only at hSw); go_simp); try with_reducible rfl)
    try simp only [Act.put, List.setIfInBounds_toArray, List.set_cons_zero, List.set_cons_succ]
    refine wpAnyH_take (i := 7) (oi := { dst := some 35, op := _, type := _, pos := _, after := _, guard := _ }) (v := ?_) rfl (by kernel_rfl) (by kernel_rfl) (by kernel_rfl) (fun _ _ _ h => h) (Or.inl ⟨by rfl, ?_⟩) (by assumption) ?_
    case refine_2 => ((intro w hSw; (try dsimp only at hSw); go_simp); try with_reducible rfl)
    try simp only [Act.put, List.setIfInBounds_toArray, List.set_cons_zero, List.set_cons_succ]
    refine wpAnyH_take (i := 8) (oi := { dst := some 36, op := _, type := _, pos := _, after := _, guard := _ }) (v := ?_) rfl (by kernel_rfl) (by kernel_rfl) (by kernel_rfl) (fun _ _ _ h => h) (Or.inl ⟨by rfl, ?_⟩) (by assumption) ?_
    case refine_2 => ((intro w hSw; (try dsimp only at hSw); go_simp); try with_reducible rfl)
    try simp only [Act.put, List.setIfInBounds_toArray, List.set_cons_zero, List.set_cons_succ]
    refine wpAnyH_take (i := 12) (oi := { dst := some 40, op := _, type := _, pos := _, after := _, guard := _ }) (v := ?_) rfl (by kernel_rfl) (by kernel_rfl) (by kernel_rfl) (fun _ _ _ h => h) (Or.inl ⟨by rfl, ?_⟩) (by assumption) ?_
    case refine_2 => ((intro w hSw; (try dsimp only at hSw); go_simp); try with_reducible rfl)
    try simp only [Act.put, List.setIfInBounds_toArray, List.set_cons_zero, List.set_cons_succ]
    refine wpAnyH_ready (rs := [4]) (by kernel_rfl) (by simp) ?_
    refine AllReadyH.cons (o := { dst := some 32, op := _, type := _, pos := _, after := _, guard := _ }) rfl (fun K hK => ?_) AllReadyH.nil
    go_simp
    go_at_call 26
    refine (H2.out _).mono ?_
    rintro e wc ⟨rfl, rfl⟩
    refine hK.out _ _ (⟨c1, c2, c3, c4⟩) (fun hHeld => ?_)
    clear hK K
    try simp only [Act.put, List.setIfInBounds_toArray, List.set_cons_zero, List.set_cons_succ]
    refine wpAnyH_ready (rs := [9]) (by kernel_rfl) (by simp) ?_
    refine AllReadyH.cons (o := { dst := some 37, op := _, type := _, pos := _, after := _, guard := _ }) rfl (fun K hK => ?_) AllReadyH.nil
    go_simp
    go_at_call 26
    refine (H1.out _).mono ?_
    rintro e wc ⟨rfl, rfl⟩
    refine hK.out _ _ (⟨c1, c2, c3, c4⟩) (fun hHeld => ?_)
    clear hK K
    try simp only [Act.put, List.setIfInBounds_toArray, List.set_cons_zero, List.set_cons_succ]
    have hB4 := below_drewN (Below.alloc (Below.refl W3.heap.size W3) (Nat.le_refl _) (.cells #[.int .i64 B, .int .i64 A] 3)) 1
    refine wpAnyH_ready (rs := [10]) (by kernel_rfl) (by simp) ?_
    refine AllReadyH.cons (o := { dst := some 38, op := _, type := _, pos := _, after := _, guard := _ }) rfl (fun K hK => ?_) AllReadyH.nil
    go_simp
    refine hK.out _ _ (⟨(hB4.cell (p := ⟨w1.heap.size, 0, none⟩) (World.block_lt_of_cell? _ _ c1)).trans c1, (hB4.cell (p := ⟨w1.heap.size, 1, none⟩) (World.block_lt_of_cell? _ _ c2)).trans c2, (hB4.cell (p := ⟨w2.heap.size, 0, none⟩) (World.block_lt_of_cell? _ _ c3)).trans c3, (hB4.cell (p := ⟨w2.heap.size, 1, none⟩) (World.block_lt_of_cell? _ _ c4)).trans c4⟩) (fun hHeld => ?_)
    clear hK K
    try simp only [Act.put, List.setIfInBounds_toArray, List.set_cons_zero, List.set_cons_succ]
    refine wpAnyH_take (i := 11) (oi := { dst := some 39, op := _, type := _, pos := _, after := _, guard := _ }) (v := ?_) rfl (by kernel_rfl) (by kernel_rfl) (by kernel_rfl) (fun _ _ _ h => h) (Or.inl ⟨by rfl, ?_⟩) (by assumption) ?_
    case refine_2 => ((intro w hSw; (try dsimp only at hSw); go_simp); try with_reducible rfl)
    try simp only [Act.put, List.setIfInBounds_toArray, List.set_cons_zero, List.set_cons_succ]
    refine wpAnyH_done (by kernel_rfl) ?_ _
    clear hHeld c1 c2 c3 c4 H1 H2
    go_wp2
    go_loop [9, 40] (fun s i => (i = .int .i64 0 ∧ s = .int .i64 0) ∨ (i = .int .i64 1 ∧ s = .int .i64 Y) ∨ (i = .int .i64 2 ∧ s = .int .i64 (Y + X))) (fun _ i => (2 - intOf i).toNat)
    case atStart => exact .inl ⟨rfl, rfl⟩
    case round =>
      have HBf := Lib.hid (HB3.out.trans (hB4.mono HB3.out.size))
      clear hB4
      rcases hrel with ⟨rfl, rfl⟩ | ⟨rfl, rfl⟩ | ⟨rfl, rfl⟩
      · by_cases hB : 0 < B
        · have e := Lib.hid (G2.out.1 hB)
          go_wp2
          go_round
          case rel => exact .inr (.inl ⟨rfl, by rw [e.out]⟩)
          case measure => simp [intOf]
        · have e := Lib.hid (G2.out.2 (by omega))
          go_wp2
          go_round
          case rel => exact .inr (.inl ⟨rfl, by rw [e.out]⟩)
          case measure => simp [intOf]
      · have hY : 0 ≤ Y ∧ Y ≤ 100 := by by_cases hB : 0 < B; (have := G2.out.1 hB; omega); (have := G2.out.2 (by omega); omega)
        obtain ⟨y1, y2⟩ := hY
        by_cases hA : 0 < A
        · have e := Lib.hid (G1.out.1 hA)
          go_wp2
          go_round
          case rel => exact .inr (.inr ⟨rfl, by rw [e.out]⟩)
          case measure => simp [intOf]
        · have e := Lib.hid (G1.out.2 (by omega))
          go_wp2
          go_round
          case rel => exact .inr (.inr ⟨rfl, by rw [e.out]; go_num⟩)
          case measure => simp [intOf]
      · go_wp2
        go_ret
        exact ⟨ret_int (by omega), HBf.out⟩
  · rcases name_or S with ⟨c, r, h1⟩ | h1
    · have hT : NoName T := hn.resolve_left (fun hS => hS c r h1)
      have HF := Lib.hid (fun wx => named_yes h1 wx)
      have HF' := Lib.hid (fun wx => named_no hT wx)
      clear hn h1 hT
      go_enter Try.func14, Try.ntmps14
      go_wp2_with fail
      refine (HF.out _).mono ?_
      rintro e w1 ⟨rfl, hb⟩
      have HB := Lib.hid (hb.trans ((Below.alloc (Below.refl w1.heap.size w1) (Nat.le_refl _) (.cells #[.int .i64 r, .int .i64 c] 37)).mono hb.size))
      clear hb
      go_wp2_with fail
      refine (HF'.out _).mono ?_
      rintro e w2 ⟨rfl, hb⟩
      have HB2 := Lib.hid (HB.out.trans (hb.mono HB.out.size))
      clear hb
      have HB3 := Lib.hid (HB2.out.trans ((Below.alloc (Below.refl w2.heap.size w2) (Nat.le_refl _) (.cells #[.int .i64 0, .int .i64 0] 37)).mono HB2.out.size))
      go_wp2
      go_ret
      exact ⟨rfl, HB3.out⟩
    · have HF := Lib.hid (fun wx => named_no h1 wx)
      have HF' := Lib.hid (show ∀ wx, ∃ c r : Int, ∃ o, Calls Try.prog 23 #[.string T] wx fun e w' => e = .returned (.tuple #[.agg #[.int .i64 r, .int .i64 c], .bool o]) ∧ Below wx.heap.size wx w' from fun wx => by
        rcases name_or T with ⟨c, r, h⟩ | h
        · exact ⟨_, _, _, named_yes h wx⟩
        · exact ⟨_, _, _, named_no h wx⟩)
      clear hn h1
      go_enter Try.func14, Try.ntmps14
      go_wp2_with fail
      refine (HF.out _).mono ?_
      rintro e w1 ⟨rfl, hb⟩
      have HB := Lib.hid (hb.trans ((Below.alloc (Below.refl w1.heap.size w1) (Nat.le_refl _) (.cells #[.int .i64 0, .int .i64 0] 37)).mono hb.size))
      clear hb
      obtain ⟨c, r, o, H⟩ := HF'.out (w1.alloc (.cells #[.int .i64 0, .int .i64 0] 37))
      have H' := Lib.hid H
      clear H
      go_wp2_with fail
      refine H'.out.mono ?_
      rintro e w2 ⟨rfl, hb⟩
      have HB2 := Lib.hid (HB.out.trans (hb.mono HB.out.size))
      clear hb
      have HB3 := Lib.hid (HB2.out.trans ((Below.alloc (Below.refl w2.heap.size w2) (Nat.le_refl _) (.cells #[.int .i64 r, .int .i64 c] 37)).mono HB2.out.size))
      go_wp2
      go_ret
      exact ⟨rfl, HB3.out⟩

end Go.Proofs.Ytlmigoplffdpiaa
