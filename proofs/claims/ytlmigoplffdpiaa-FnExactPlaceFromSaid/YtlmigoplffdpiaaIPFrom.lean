/- Contract: PlaceFrom of the program. -/
import Derived.Test.YtlmigoplffdpiaaIPlace
import Derived.Deep.RegionHeld3
import Derived.OneCell
namespace Go.Proofs.Ytlmigoplffdpiaa
open Go.RowKit
set_option linter.unusedVariables false

/-- Half of the places to the east and to the south that a letter tells. -/
def dxl (x : Nat) : Nat := (x - 97) % 2
def dyl (x : Nat) : Nat := (x - 97) / 2
/-- The world's part of the loop: the place's block. -/
def AtB (B : Nat) (X Y : Int) (wr : World) : Prop := wr.heap[B]? = some (.cells #[.int .i64 X, .int .i64 Y] 41 (0, 0))
theorem AtB.cells {B : Nat} {X Y : Int} {wr : World} (h : AtB B X Y wr) : B < wr.heap.size ∧ wr.cell? ⟨B, 0, none⟩ = some (.int .i64 X) ∧ wr.cell? ⟨B, 1, none⟩ = some (.int .i64 Y) ∧ wr.frozen? ⟨B, 0, none⟩ = false ∧ wr.frozen? ⟨B, 1, none⟩ = false := by
  unfold AtB at h
  exact ⟨(Array.getElem?_eq_some_iff.1 h).1, by rw [cell_of_row _ B 0 _ _ (0, 0) h]; rfl, by rw [cell_of_row _ B 1 _ _ (0, 0) h]; rfl, by simp [World.frozen?, h], by simp [World.frozen?, h]⟩
theorem AtB.below {B : Nat} {X Y : Int} {wr w' : World} (h : AtB B X Y wr) (hb : Below wr.heap.size wr w') : AtB B X Y w' := by
  have hl := h.cells.1
  unfold AtB at *
  exact (hb.block B hl).trans h
theorem AtB.put {B : Nat} {X Y : Int} {wr : World} (h : AtB B X Y wr) (X' Y' : Int) : AtB B X' Y' ((wr.setCell ⟨B, 0, none⟩ (.int .i64 X')).setCell ⟨B, 1, none⟩ (.int .i64 Y')) := by
  have hl := h.cells.1
  unfold AtB at *
  have he := (Array.getElem?_eq_some_iff.1 h).2
  simp [World.setCell, hl, Array.getElem_modify, he]
theorem wf8 {x : Nat} (h : x < 256) : (Lit.int .u8 (x : Int)).wf = true := WalkArith.wf_u8 (by omega)
theorem AtB.cast {B : Nat} {X Y X' Y' : Int} {wr : World} (h : AtB B X Y wr) (e1 : X = X') (e2 : Y = Y') : AtB B X' Y' wr := e1 ▸ e2 ▸ h
theorem bytes_split (S : ByteArray) (m : Nat) (h : S.size = m + 2) : S.data.toList = S.data.toList.take m ++ [S[m]'(by omega), S[m + 1]'(by omega)] := by
  have hl : S.data.toList.length = m + 2 := by rw [← h]; rfl
  have e : S.data.toList.drop m = [S[m]'(by omega), S[m + 1]'(by omega)] := by
    rw [List.drop_eq_getElem_cons (by omega), List.drop_eq_getElem_cons (by omega), List.drop_of_length_le (by omega)]
    rfl
  rw [← e, List.take_append_drop]
theorem u8_of {b : UInt8} {a : Int} (h0 : 0 ≤ a) (h1 : a < 256) (h : (b.toNat : Int) = a) : UInt8.ofNat a.toNat = b := by
  apply UInt8.toNat_inj.1
  simp only [UInt8.toNat_ofNat']
  omega
theorem place_mk {S : ByteArray} {m c r x0 x1 : Nat} (hs : S.size = m + 2) (hN : IsName (S.extract 0 m) c r) (h0 : (S[m]'(by omega)).toNat = x0) (h1 : (S[m + 1]'(by omega)).toNat = x1)
    (a1 : 97 ≤ x0) (a2 : x0 ≤ 100) (a3 : 97 ≤ x1) (a4 : x1 ≤ 100) : IsPlace S c r (2 * dxl x0 + dxl x1) (2 * dyl x0 + dyl x1) := by
  have d1 : dxl x0 < 2 := by unfold dxl; omega
  have d2 : dyl x0 < 2 := by unfold dyl; omega
  have d3 : dxl x1 < 2 := by unfold dxl; omega
  have d4 : dyl x1 < 2 := by unfold dyl; omega
  refine ⟨hN.1, hN.2.1, by omega, by omega, ?_⟩
  apply ByteArray.ext
  apply Array.toList_inj.1
  rw [strOfNums_data, placeL, List.map_append, bytes_split S m hs]
  have e := congrArg (fun s => s.data.toList) hN.2.2
  simp only [strOfNums_data] at e
  rw [← e]
  have q1 : letN ((2 * dxl x0 + dxl x1) / 2) ((2 * dyl x0 + dyl x1) / 2) = (x0 : Int) := by
    rw [show (2 * dxl x0 + dxl x1) / 2 = dxl x0 by omega, show (2 * dyl x0 + dyl x1) / 2 = dyl x0 by omega]
    unfold letN dxl dyl
    omega
  have q2 : letN ((2 * dxl x0 + dxl x1) % 2) ((2 * dyl x0 + dyl x1) % 2) = (x1 : Int) := by
    rw [show (2 * dxl x0 + dxl x1) % 2 = dxl x1 by omega, show (2 * dyl x0 + dyl x1) % 2 = dyl x1 by omega]
    unfold letN dxl dyl
    omega
  rw [q1, q2]
  simp only [List.map_cons, List.map_nil]
  rw [u8_of (b := S[m]'(by omega)) (by omega) (by omega) (by omega), u8_of (b := S[m + 1]'(by omega)) (by omega) (by omega) (by omega)]
  congr 1
  simp
theorem place_let {S : ByteArray} {m c r dx dy x0 x1 : Nat} (hs : S.size = m + 2) (h0 : (S[m]'(by omega)).toNat = x0) (h1 : (S[m + 1]'(by omega)).toNat = x1) (h : IsPlace S c r dx dy) :
    97 ≤ x0 ∧ x0 ≤ 100 ∧ 97 ≤ x1 ∧ x1 ≤ 100 := by
  obtain ⟨-, -, hdx, hdy, e⟩ := h
  have b1 := letN_bd (e := dx / 2) (s := dy / 2) (by omega) (by omega)
  have b2 := letN_bd (e := dx % 2) (s := dy % 2) (by omega) (by omega)
  have e1 := congrArg (fun s => s.data.toList) e
  simp only [strOfNums_data] at e1
  rw [placeL, List.map_append, bytes_split S m hs] at e1
  have e2 := List.append_inj_right' e1 (by simp)
  simp only [List.map_cons, List.map_nil, List.cons.injEq, and_true] at e2
  obtain ⟨f1, f2⟩ := e2
  have g1 := (byte_eq (by omega) (by omega)).1 f1
  have g2 := (byte_eq (by omega) (by omega)).1 f2
  omega
theorem AtB.new (w : World) (X Y : Int) : AtB w.heap.size X Y (w.alloc (.cells #[.int .i64 X, .int .i64 Y] 41)) := heap_alloc_new w _

set_option maxHeartbeats 4000000 in
theorem ipfrom_finds (S : ByteArray) (w : World) (hmax : S.size ≤ 1048576) : Calls Try.prog 16 #[.string S] w (PFinds S w) := by
  obtain ⟨n, hn⟩ : ∃ n, S.size = n := ⟨_, rfl⟩
  rw [hn] at hmax
  by_cases h4 : n < 2
  · have HNo := Lib.hid (show NoPlace S from fun c r dx dy h => by have := place_sz h; omega)
    have e1 : (n : Int) < 2 := by omega
    go_enter Try.func16, Try.ntmps16
    go_wp2
    go_ret3
    exact ⟨.inr ⟨HNo.out, rfl⟩, Below.refl _ _⟩
  · have e1 : ¬ (n : Int) < 2 := by omega
    obtain ⟨m, hm⟩ : ∃ m, n = m + 2 := ⟨n - 2, by omega⟩
    have e2 : (n : Int) - 2 = (m : Int) := by omega
    obtain ⟨T, hT⟩ : ∃ T, T = S.extract 0 m := ⟨_, rfl⟩
    have HT := Lib.hid hT
    have HM := Lib.hid hm
    have HP := Lib.hid (show ∀ c r dx dy, IsPlace S c r dx dy → IsName T c r from fun c r dx dy h => by have := place_pre h; rw [hn, hm, Nat.add_sub_cancel, ← hT] at this; exact this)
    clear hT
    rcases name_or T with ⟨c, r, hN⟩ | hN
    · have HF := Lib.hid (fun wx => named_yes hN wx)
      have hc := hN.1
      have hr := hN.2.1
      have HC := Lib.hid (fun wx => corner_any c r wx hc hr)
      have HNm := Lib.hid hN
      rw [HT.out] at HF
      have m0 : (0 : Int) ≤ (m : Int) := by omega
      have m1 : (m : Int) < (n : Int) := by omega
      have m2 : m < n := by omega
      obtain ⟨x0, hx0⟩ : ∃ x, (S[m]'(by rw [hn]; exact m2)).toNat = x := ⟨_, rfl⟩
      have y0 := (S[m]'(by rw [hn]; exact m2)).toNat_lt
      rw [hx0] at y0
      have m3 : m + 1 < n := by omega
      obtain ⟨x1, hx1⟩ : ∃ x, (S[m + 1]'(by rw [hn]; exact m3)).toNat = x := ⟨_, rfl⟩
      have y1 := (S[m + 1]'(by rw [hn]; exact m3)).toNat_lt
      rw [hx1] at y1
      clear hm hN
      go_enter Try.func16, Try.ntmps16
      go_wp2_with fail
      with_reducible refine (HF.out _).mono ?_
      rintro e w1 ⟨rfl, hb⟩
      have HB := Lib.hid hb
      clear hb
      go_wp2_with fail
      with_reducible refine (HC.out _).mono ?_
      rintro e w2 ⟨rfl, hb⟩
      have HB1 := Lib.hid (HB.out.trans ((Below.alloc (Below.refl w1.heap.size w1) (Nat.le_refl _) (.cells #[.int .i64 r, .int .i64 c] 37)).mono HB.out.size))
      have HB2 := Lib.hid (HB1.out.trans (hb.mono HB1.out.size))
      clear hb
      go_wp2
      go_loopw [9, 10] (fun sd i wr => Below w.heap.size w wr ∧ ((i = .int .i64 m ∧ sd = .int .i64 4 ∧ AtB w2.heap.size ((c : Int) * 4) ((r : Int) * 4) wr) ∨ (i = .int .i64 ((m : Int) + 1) ∧ sd = .int .i64 2 ∧ 97 ≤ x0 ∧ x0 ≤ 100 ∧ AtB w2.heap.size ((c : Int) * 4 + 2 * (dxl x0 : Nat)) ((r : Int) * 4 + 2 * (dyl x0 : Nat)) wr) ∨ (i = .int .i64 ((m : Int) + 2) ∧ sd = .int .i64 1 ∧ 97 ≤ x0 ∧ x0 ≤ 100 ∧ 97 ≤ x1 ∧ x1 ≤ 100 ∧ AtB w2.heap.size ((c : Int) * 4 + 2 * (dxl x0 : Nat) + (dxl x1 : Nat)) ((r : Int) * 4 + 2 * (dyl x0 : Nat) + (dyl x1 : Nat)) wr))) (fun _ i _ => n - (intOf i).toNat)
      case atStart => exact ⟨HB2.out.trans ((Below.alloc (Below.refl w2.heap.size w2) (Nat.le_refl _) (.cells #[.int .i64 ((c : Int) * 4), .int .i64 ((r : Int) * 4)] 41)).mono HB2.out.size), .inl ⟨rfl, rfl, AtB.new w2 _ _⟩⟩
      case round =>
        obtain ⟨hb, hrel⟩ := hrel
        have HBr := Lib.hid hb
        clear hb
        rcases hrel with ⟨rfl, rfl, hA⟩ | ⟨rfl, rfl, a1, a2, hA⟩ | ⟨rfl, rfl, a1, a2, a3, a4, hA⟩
        · obtain ⟨X, hX⟩ : ∃ X : Int, X = (c : Int) * 4 := ⟨_, rfl⟩
          obtain ⟨Y, hY⟩ : ∃ Y : Int, Y = (r : Int) * 4 := ⟨_, rfl⟩
          rw [← hX, ← hY] at hA
          have HA := Lib.hid hA
          clear hA
          have bX : 0 ≤ X ∧ X ≤ 1000 := by omega
          have bY : 0 ≤ Y ∧ Y ≤ 1000 := by omega
          obtain ⟨bX0, bX1⟩ := bX
          obtain ⟨bY0, bY1⟩ := bY
          have HX := Lib.hid hX
          have HY := Lib.hid hY
          clear hX hY
          rcases (show x0 = 97 ∨ x0 = 98 ∨ x0 = 99 ∨ x0 = 100 ∨ (x0 < 97 ∨ 100 < x0) by omega) with rfl | rfl | rfl | rfl | hout
          · go_wp2
            refine wp_region_held_drew (S := fun _ => True) (by kernel_rfl) (trivial) (fun hHeld => ?_)
            refine wpAnyH_take (i := 1) (oi := { dst := some 41, op := _, type := _, pos := _, after := _, guard := _ }) (v := ?_) rfl (by kernel_rfl) (by kernel_rfl) (by kernel_rfl) (fun _ _ _ h => h) (Or.inl ⟨by rfl, ?_⟩) (by assumption) ?_
            case refine_2 => ((intro w hSw; (try dsimp only at hSw); go_simp); try with_reducible rfl)
            try simp only [Act.put, List.setIfInBounds_toArray, List.set_cons_zero, List.set_cons_succ]
            refine wpAnyH_take (i := 2) (oi := { dst := some 42, op := _, type := _, pos := _, after := _, guard := _ }) (v := ?_) rfl (by kernel_rfl) (by kernel_rfl) (by kernel_rfl) (fun _ _ _ h => h) (Or.inl ⟨by rfl, ?_⟩) (by assumption) ?_
            case refine_2 => ((intro w hSw; (try dsimp only at hSw); go_simp); try with_reducible rfl)
            try simp only [Act.put, List.setIfInBounds_toArray, List.set_cons_zero, List.set_cons_succ]
            refine wpAnyH_take (i := 3) (oi := { dst := some 43, op := _, type := _, pos := _, after := _, guard := _ }) (v := ?_) rfl (by kernel_rfl) (by kernel_rfl) (by kernel_rfl) (fun _ _ _ h => h) (Or.inl ⟨by rfl, ?_⟩) (by assumption) ?_
            case refine_2 => ((intro w hSw; (try dsimp only at hSw); go_simp); try with_reducible rfl)
            try simp only [Act.put, List.setIfInBounds_toArray, List.set_cons_zero, List.set_cons_succ]
            refine wpAnyH_ready (rs := [0]) (by kernel_rfl) (by simp) ?_
            refine AllReadyH.cons (o := { dst := some 40, op := _, type := _, pos := _, after := _, guard := _ }) rfl (fun K hK => ?_) AllReadyH.nil
            go_simp
            go_at_call 28
            refine (moves_any _).mono ?_
            rintro e wc ⟨b, rfl, hown, hbm⟩
            have hl := look_hit hown 97 41 (by decide) hit97.1 hit97.2
            have HBm := Lib.hid ((below_drewN (Below.refl wr.heap.size wr) 1).trans hbm)
            clear hown hbm
            refine hK.out _ _ (trivial) (fun hHeld => ?_)
            clear hK K
            try simp only [Act.put, List.setIfInBounds_toArray, List.set_cons_zero, List.set_cons_succ]
            refine wpAnyH_ready (rs := [4]) (by kernel_rfl) (by simp) ?_
            refine AllReadyH.cons (o := { dst := some 44, op := _, type := _, pos := _, after := _, guard := _ }) rfl (fun K hK => ?_) AllReadyH.nil
            go_simp
            refine hK.out _ _ (trivial) (fun hHeld => ?_)
            clear hK K
            try simp only [Act.put, List.setIfInBounds_toArray, List.set_cons_zero, List.set_cons_succ]
            refine wpAnyH_take (i := 5) (oi := { dst := some 39, op := _, type := _, pos := _, after := _, guard := _ }) (v := ?_) rfl (by kernel_rfl) (by kernel_rfl) (by kernel_rfl) (fun _ _ _ h => h) (Or.inl ⟨by rfl, ?_⟩) (by assumption) ?_
            case refine_2 => ((intro w hSw; (try dsimp only at hSw); go_simp); try with_reducible rfl)
            try simp only [Act.put, List.setIfInBounds_toArray, List.set_cons_zero, List.set_cons_succ]
            refine wpAnyH_take (i := 6) (oi := { dst := some 45, op := _, type := _, pos := _, after := _, guard := _ }) (v := ?_) rfl (by kernel_rfl) (by kernel_rfl) (by kernel_rfl) (fun _ _ _ h => h) (Or.inl ⟨by rfl, ?_⟩) (by assumption) ?_
            case refine_2 => ((intro w hSw; (try dsimp only at hSw); go_simp); try with_reducible rfl)
            try simp only [Act.put, List.setIfInBounds_toArray, List.set_cons_zero, List.set_cons_succ]
            refine wpAnyH_take (i := 7) (oi := { dst := some 46, op := _, type := _, pos := _, after := _, guard := _ }) (v := ?_) rfl (by kernel_rfl) (by kernel_rfl) (by kernel_rfl) (fun _ _ _ h => h) (Or.inl ⟨by rfl, ?_⟩) (by assumption) ?_
            case refine_2 => ((intro w hSw; (try dsimp only at hSw); go_simp); try with_reducible rfl)
            try simp only [Act.put, List.setIfInBounds_toArray, List.set_cons_zero, List.set_cons_succ]
            refine wpAnyH_take (i := 8) (oi := { dst := some 11, op := _, type := _, pos := _, after := _, guard := _ }) (v := ?_) rfl (by kernel_rfl) (by kernel_rfl) (by kernel_rfl) (fun _ _ _ h => h) (Or.inl ⟨by rfl, ?_⟩) (by assumption) ?_
            case refine_2 => ((intro w hSw; (try dsimp only at hSw); go_simp); try with_reducible rfl)
            try simp only [Act.put, List.setIfInBounds_toArray, List.set_cons_zero, List.set_cons_succ]
            refine wpAnyH_take (i := 9) (oi := { dst := some 12, op := _, type := _, pos := _, after := _, guard := _ }) (v := ?_) rfl (by kernel_rfl) (by kernel_rfl) (by kernel_rfl) (fun _ _ _ h => h) (Or.inl ⟨by rfl, ?_⟩) (by assumption) ?_
            case refine_2 => ((intro w hSw; (try dsimp only at hSw); go_simp); try with_reducible rfl)
            try simp only [Act.put, List.setIfInBounds_toArray, List.set_cons_zero, List.set_cons_succ]
            refine wpAnyH_done (by kernel_rfl) ?_ _
            clear hHeld
            clear hl
            have A2 := HA.out.below HBm.out
            obtain ⟨g1, g2, g3, g4, g5⟩ := A2.cells
            have HA2 := Lib.hid A2
            clear A2
            go_wp2_with fail
            with_reducible refine (mv1_any X Y 2 _ bX0 bX1 bY0 bY1 (by omega) (by omega)).mono ?_
            rintro e wd ⟨rfl, hbd⟩
            have A3 := HA2.out.below hbd
            have HBd := Lib.hid (HBr.out.trans ((HBm.out.trans (hbd.mono HBm.out.size)).mono HBr.out.size))
            clear hbd g1 g2 g3 g4 g5
            obtain ⟨g1, g2, g3, g4, g5⟩ := A3.cells
            have HA3 := Lib.hid A3
            clear A3
            go_wp2
            go_roundw
            case rel => exact ⟨(HBd.out.setCell (p := ⟨w2.heap.size, 0, none⟩) HB2.out.size _).setCell (p := ⟨w2.heap.size, 1, none⟩) HB2.out.size _, .inr (.inl ⟨rfl, rfl, by omega, by omega, (HA3.out.put (X) (Y)).cast (by have h := HX.out; have d : dxl 97 = 0 := rfl; rw [d]; omega) (by have h := HY.out; have d : dyl 97 = 0 := rfl; rw [d]; omega)⟩)⟩
            case measure => simp [intOf]; omega
          · go_wp2
            refine wp_region_held_drew (S := fun _ => True) (by kernel_rfl) (trivial) (fun hHeld => ?_)
            refine wpAnyH_take (i := 1) (oi := { dst := some 41, op := _, type := _, pos := _, after := _, guard := _ }) (v := ?_) rfl (by kernel_rfl) (by kernel_rfl) (by kernel_rfl) (fun _ _ _ h => h) (Or.inl ⟨by rfl, ?_⟩) (by assumption) ?_
            case refine_2 => ((intro w hSw; (try dsimp only at hSw); go_simp); try with_reducible rfl)
            try simp only [Act.put, List.setIfInBounds_toArray, List.set_cons_zero, List.set_cons_succ]
            refine wpAnyH_take (i := 2) (oi := { dst := some 42, op := _, type := _, pos := _, after := _, guard := _ }) (v := ?_) rfl (by kernel_rfl) (by kernel_rfl) (by kernel_rfl) (fun _ _ _ h => h) (Or.inl ⟨by rfl, ?_⟩) (by assumption) ?_
            case refine_2 => ((intro w hSw; (try dsimp only at hSw); go_simp); try with_reducible rfl)
            try simp only [Act.put, List.setIfInBounds_toArray, List.set_cons_zero, List.set_cons_succ]
            refine wpAnyH_take (i := 3) (oi := { dst := some 43, op := _, type := _, pos := _, after := _, guard := _ }) (v := ?_) rfl (by kernel_rfl) (by kernel_rfl) (by kernel_rfl) (fun _ _ _ h => h) (Or.inl ⟨by rfl, ?_⟩) (by assumption) ?_
            case refine_2 => ((intro w hSw; (try dsimp only at hSw); go_simp); try with_reducible rfl)
            try simp only [Act.put, List.setIfInBounds_toArray, List.set_cons_zero, List.set_cons_succ]
            refine wpAnyH_ready (rs := [0]) (by kernel_rfl) (by simp) ?_
            refine AllReadyH.cons (o := { dst := some 40, op := _, type := _, pos := _, after := _, guard := _ }) rfl (fun K hK => ?_) AllReadyH.nil
            go_simp
            go_at_call 28
            refine (moves_any _).mono ?_
            rintro e wc ⟨b, rfl, hown, hbm⟩
            have hl := look_hit hown 98 42 (by decide) hit98.1 hit98.2
            have HBm := Lib.hid ((below_drewN (Below.refl wr.heap.size wr) 1).trans hbm)
            clear hown hbm
            refine hK.out _ _ (trivial) (fun hHeld => ?_)
            clear hK K
            try simp only [Act.put, List.setIfInBounds_toArray, List.set_cons_zero, List.set_cons_succ]
            refine wpAnyH_ready (rs := [4]) (by kernel_rfl) (by simp) ?_
            refine AllReadyH.cons (o := { dst := some 44, op := _, type := _, pos := _, after := _, guard := _ }) rfl (fun K hK => ?_) AllReadyH.nil
            go_simp
            refine hK.out _ _ (trivial) (fun hHeld => ?_)
            clear hK K
            try simp only [Act.put, List.setIfInBounds_toArray, List.set_cons_zero, List.set_cons_succ]
            refine wpAnyH_take (i := 5) (oi := { dst := some 39, op := _, type := _, pos := _, after := _, guard := _ }) (v := ?_) rfl (by kernel_rfl) (by kernel_rfl) (by kernel_rfl) (fun _ _ _ h => h) (Or.inl ⟨by rfl, ?_⟩) (by assumption) ?_
            case refine_2 => ((intro w hSw; (try dsimp only at hSw); go_simp); try with_reducible rfl)
            try simp only [Act.put, List.setIfInBounds_toArray, List.set_cons_zero, List.set_cons_succ]
            refine wpAnyH_take (i := 6) (oi := { dst := some 45, op := _, type := _, pos := _, after := _, guard := _ }) (v := ?_) rfl (by kernel_rfl) (by kernel_rfl) (by kernel_rfl) (fun _ _ _ h => h) (Or.inl ⟨by rfl, ?_⟩) (by assumption) ?_
            case refine_2 => ((intro w hSw; (try dsimp only at hSw); go_simp); try with_reducible rfl)
            try simp only [Act.put, List.setIfInBounds_toArray, List.set_cons_zero, List.set_cons_succ]
            refine wpAnyH_take (i := 7) (oi := { dst := some 46, op := _, type := _, pos := _, after := _, guard := _ }) (v := ?_) rfl (by kernel_rfl) (by kernel_rfl) (by kernel_rfl) (fun _ _ _ h => h) (Or.inl ⟨by rfl, ?_⟩) (by assumption) ?_
            case refine_2 => ((intro w hSw; (try dsimp only at hSw); go_simp); try with_reducible rfl)
            try simp only [Act.put, List.setIfInBounds_toArray, List.set_cons_zero, List.set_cons_succ]
            refine wpAnyH_take (i := 8) (oi := { dst := some 11, op := _, type := _, pos := _, after := _, guard := _ }) (v := ?_) rfl (by kernel_rfl) (by kernel_rfl) (by kernel_rfl) (fun _ _ _ h => h) (Or.inl ⟨by rfl, ?_⟩) (by assumption) ?_
            case refine_2 => ((intro w hSw; (try dsimp only at hSw); go_simp); try with_reducible rfl)
            try simp only [Act.put, List.setIfInBounds_toArray, List.set_cons_zero, List.set_cons_succ]
            refine wpAnyH_take (i := 9) (oi := { dst := some 12, op := _, type := _, pos := _, after := _, guard := _ }) (v := ?_) rfl (by kernel_rfl) (by kernel_rfl) (by kernel_rfl) (fun _ _ _ h => h) (Or.inl ⟨by rfl, ?_⟩) (by assumption) ?_
            case refine_2 => ((intro w hSw; (try dsimp only at hSw); go_simp); try with_reducible rfl)
            try simp only [Act.put, List.setIfInBounds_toArray, List.set_cons_zero, List.set_cons_succ]
            refine wpAnyH_done (by kernel_rfl) ?_ _
            clear hHeld
            clear hl
            have A2 := HA.out.below HBm.out
            obtain ⟨g1, g2, g3, g4, g5⟩ := A2.cells
            have HA2 := Lib.hid A2
            clear A2
            go_wp2_with fail
            with_reducible refine (mv2_any X Y 2 _ bX0 bX1 bY0 bY1 (by omega) (by omega)).mono ?_
            rintro e wd ⟨rfl, hbd⟩
            have A3 := HA2.out.below hbd
            have HBd := Lib.hid (HBr.out.trans ((HBm.out.trans (hbd.mono HBm.out.size)).mono HBr.out.size))
            clear hbd g1 g2 g3 g4 g5
            obtain ⟨g1, g2, g3, g4, g5⟩ := A3.cells
            have HA3 := Lib.hid A3
            clear A3
            go_wp2
            go_roundw
            case rel => exact ⟨(HBd.out.setCell (p := ⟨w2.heap.size, 0, none⟩) HB2.out.size _).setCell (p := ⟨w2.heap.size, 1, none⟩) HB2.out.size _, .inr (.inl ⟨rfl, rfl, by omega, by omega, (HA3.out.put (X + 2) (Y)).cast (by have h := HX.out; have d : dxl 98 = 1 := rfl; rw [d]; omega) (by have h := HY.out; have d : dyl 98 = 0 := rfl; rw [d]; omega)⟩)⟩
            case measure => simp [intOf]; omega
          · go_wp2
            refine wp_region_held_drew (S := fun _ => True) (by kernel_rfl) (trivial) (fun hHeld => ?_)
            refine wpAnyH_take (i := 1) (oi := { dst := some 41, op := _, type := _, pos := _, after := _, guard := _ }) (v := ?_) rfl (by kernel_rfl) (by kernel_rfl) (by kernel_rfl) (fun _ _ _ h => h) (Or.inl ⟨by rfl, ?_⟩) (by assumption) ?_
            case refine_2 => ((intro w hSw; (try dsimp only at hSw); go_simp); try with_reducible rfl)
            try simp only [Act.put, List.setIfInBounds_toArray, List.set_cons_zero, List.set_cons_succ]
            refine wpAnyH_take (i := 2) (oi := { dst := some 42, op := _, type := _, pos := _, after := _, guard := _ }) (v := ?_) rfl (by kernel_rfl) (by kernel_rfl) (by kernel_rfl) (fun _ _ _ h => h) (Or.inl ⟨by rfl, ?_⟩) (by assumption) ?_
            case refine_2 => ((intro w hSw; (try dsimp only at hSw); go_simp); try with_reducible rfl)
            try simp only [Act.put, List.setIfInBounds_toArray, List.set_cons_zero, List.set_cons_succ]
            refine wpAnyH_take (i := 3) (oi := { dst := some 43, op := _, type := _, pos := _, after := _, guard := _ }) (v := ?_) rfl (by kernel_rfl) (by kernel_rfl) (by kernel_rfl) (fun _ _ _ h => h) (Or.inl ⟨by rfl, ?_⟩) (by assumption) ?_
            case refine_2 => ((intro w hSw; (try dsimp only at hSw); go_simp); try with_reducible rfl)
            try simp only [Act.put, List.setIfInBounds_toArray, List.set_cons_zero, List.set_cons_succ]
            refine wpAnyH_ready (rs := [0]) (by kernel_rfl) (by simp) ?_
            refine AllReadyH.cons (o := { dst := some 40, op := _, type := _, pos := _, after := _, guard := _ }) rfl (fun K hK => ?_) AllReadyH.nil
            go_simp
            go_at_call 28
            refine (moves_any _).mono ?_
            rintro e wc ⟨b, rfl, hown, hbm⟩
            have hl := look_hit hown 99 43 (by decide) hit99.1 hit99.2
            have HBm := Lib.hid ((below_drewN (Below.refl wr.heap.size wr) 1).trans hbm)
            clear hown hbm
            refine hK.out _ _ (trivial) (fun hHeld => ?_)
            clear hK K
            try simp only [Act.put, List.setIfInBounds_toArray, List.set_cons_zero, List.set_cons_succ]
            refine wpAnyH_ready (rs := [4]) (by kernel_rfl) (by simp) ?_
            refine AllReadyH.cons (o := { dst := some 44, op := _, type := _, pos := _, after := _, guard := _ }) rfl (fun K hK => ?_) AllReadyH.nil
            go_simp
            refine hK.out _ _ (trivial) (fun hHeld => ?_)
            clear hK K
            try simp only [Act.put, List.setIfInBounds_toArray, List.set_cons_zero, List.set_cons_succ]
            refine wpAnyH_take (i := 5) (oi := { dst := some 39, op := _, type := _, pos := _, after := _, guard := _ }) (v := ?_) rfl (by kernel_rfl) (by kernel_rfl) (by kernel_rfl) (fun _ _ _ h => h) (Or.inl ⟨by rfl, ?_⟩) (by assumption) ?_
            case refine_2 => ((intro w hSw; (try dsimp only at hSw); go_simp); try with_reducible rfl)
            try simp only [Act.put, List.setIfInBounds_toArray, List.set_cons_zero, List.set_cons_succ]
            refine wpAnyH_take (i := 6) (oi := { dst := some 45, op := _, type := _, pos := _, after := _, guard := _ }) (v := ?_) rfl (by kernel_rfl) (by kernel_rfl) (by kernel_rfl) (fun _ _ _ h => h) (Or.inl ⟨by rfl, ?_⟩) (by assumption) ?_
            case refine_2 => ((intro w hSw; (try dsimp only at hSw); go_simp); try with_reducible rfl)
            try simp only [Act.put, List.setIfInBounds_toArray, List.set_cons_zero, List.set_cons_succ]
            refine wpAnyH_take (i := 7) (oi := { dst := some 46, op := _, type := _, pos := _, after := _, guard := _ }) (v := ?_) rfl (by kernel_rfl) (by kernel_rfl) (by kernel_rfl) (fun _ _ _ h => h) (Or.inl ⟨by rfl, ?_⟩) (by assumption) ?_
            case refine_2 => ((intro w hSw; (try dsimp only at hSw); go_simp); try with_reducible rfl)
            try simp only [Act.put, List.setIfInBounds_toArray, List.set_cons_zero, List.set_cons_succ]
            refine wpAnyH_take (i := 8) (oi := { dst := some 11, op := _, type := _, pos := _, after := _, guard := _ }) (v := ?_) rfl (by kernel_rfl) (by kernel_rfl) (by kernel_rfl) (fun _ _ _ h => h) (Or.inl ⟨by rfl, ?_⟩) (by assumption) ?_
            case refine_2 => ((intro w hSw; (try dsimp only at hSw); go_simp); try with_reducible rfl)
            try simp only [Act.put, List.setIfInBounds_toArray, List.set_cons_zero, List.set_cons_succ]
            refine wpAnyH_take (i := 9) (oi := { dst := some 12, op := _, type := _, pos := _, after := _, guard := _ }) (v := ?_) rfl (by kernel_rfl) (by kernel_rfl) (by kernel_rfl) (fun _ _ _ h => h) (Or.inl ⟨by rfl, ?_⟩) (by assumption) ?_
            case refine_2 => ((intro w hSw; (try dsimp only at hSw); go_simp); try with_reducible rfl)
            try simp only [Act.put, List.setIfInBounds_toArray, List.set_cons_zero, List.set_cons_succ]
            refine wpAnyH_done (by kernel_rfl) ?_ _
            clear hHeld
            clear hl
            have A2 := HA.out.below HBm.out
            obtain ⟨g1, g2, g3, g4, g5⟩ := A2.cells
            have HA2 := Lib.hid A2
            clear A2
            go_wp2_with fail
            with_reducible refine (mv3_any X Y 2 _ bX0 bX1 bY0 bY1 (by omega) (by omega)).mono ?_
            rintro e wd ⟨rfl, hbd⟩
            have A3 := HA2.out.below hbd
            have HBd := Lib.hid (HBr.out.trans ((HBm.out.trans (hbd.mono HBm.out.size)).mono HBr.out.size))
            clear hbd g1 g2 g3 g4 g5
            obtain ⟨g1, g2, g3, g4, g5⟩ := A3.cells
            have HA3 := Lib.hid A3
            clear A3
            go_wp2
            go_roundw
            case rel => exact ⟨(HBd.out.setCell (p := ⟨w2.heap.size, 0, none⟩) HB2.out.size _).setCell (p := ⟨w2.heap.size, 1, none⟩) HB2.out.size _, .inr (.inl ⟨rfl, rfl, by omega, by omega, (HA3.out.put (X) (Y + 2)).cast (by have h := HX.out; have d : dxl 99 = 0 := rfl; rw [d]; omega) (by have h := HY.out; have d : dyl 99 = 1 := rfl; rw [d]; omega)⟩)⟩
            case measure => simp [intOf]; omega
          · go_wp2
            refine wp_region_held_drew (S := fun _ => True) (by kernel_rfl) (trivial) (fun hHeld => ?_)
            refine wpAnyH_take (i := 1) (oi := { dst := some 41, op := _, type := _, pos := _, after := _, guard := _ }) (v := ?_) rfl (by kernel_rfl) (by kernel_rfl) (by kernel_rfl) (fun _ _ _ h => h) (Or.inl ⟨by rfl, ?_⟩) (by assumption) ?_
            case refine_2 => ((intro w hSw; (try dsimp only at hSw); go_simp); try with_reducible rfl)
            try simp only [Act.put, List.setIfInBounds_toArray, List.set_cons_zero, List.set_cons_succ]
            refine wpAnyH_take (i := 2) (oi := { dst := some 42, op := _, type := _, pos := _, after := _, guard := _ }) (v := ?_) rfl (by kernel_rfl) (by kernel_rfl) (by kernel_rfl) (fun _ _ _ h => h) (Or.inl ⟨by rfl, ?_⟩) (by assumption) ?_
            case refine_2 => ((intro w hSw; (try dsimp only at hSw); go_simp); try with_reducible rfl)
            try simp only [Act.put, List.setIfInBounds_toArray, List.set_cons_zero, List.set_cons_succ]
            refine wpAnyH_take (i := 3) (oi := { dst := some 43, op := _, type := _, pos := _, after := _, guard := _ }) (v := ?_) rfl (by kernel_rfl) (by kernel_rfl) (by kernel_rfl) (fun _ _ _ h => h) (Or.inl ⟨by rfl, ?_⟩) (by assumption) ?_
            case refine_2 => ((intro w hSw; (try dsimp only at hSw); go_simp); try with_reducible rfl)
            try simp only [Act.put, List.setIfInBounds_toArray, List.set_cons_zero, List.set_cons_succ]
            refine wpAnyH_ready (rs := [0]) (by kernel_rfl) (by simp) ?_
            refine AllReadyH.cons (o := { dst := some 40, op := _, type := _, pos := _, after := _, guard := _ }) rfl (fun K hK => ?_) AllReadyH.nil
            go_simp
            go_at_call 28
            refine (moves_any _).mono ?_
            rintro e wc ⟨b, rfl, hown, hbm⟩
            have hl := look_hit hown 100 44 (by decide) hit100.1 hit100.2
            have HBm := Lib.hid ((below_drewN (Below.refl wr.heap.size wr) 1).trans hbm)
            clear hown hbm
            refine hK.out _ _ (trivial) (fun hHeld => ?_)
            clear hK K
            try simp only [Act.put, List.setIfInBounds_toArray, List.set_cons_zero, List.set_cons_succ]
            refine wpAnyH_ready (rs := [4]) (by kernel_rfl) (by simp) ?_
            refine AllReadyH.cons (o := { dst := some 44, op := _, type := _, pos := _, after := _, guard := _ }) rfl (fun K hK => ?_) AllReadyH.nil
            go_simp
            refine hK.out _ _ (trivial) (fun hHeld => ?_)
            clear hK K
            try simp only [Act.put, List.setIfInBounds_toArray, List.set_cons_zero, List.set_cons_succ]
            refine wpAnyH_take (i := 5) (oi := { dst := some 39, op := _, type := _, pos := _, after := _, guard := _ }) (v := ?_) rfl (by kernel_rfl) (by kernel_rfl) (by kernel_rfl) (fun _ _ _ h => h) (Or.inl ⟨by rfl, ?_⟩) (by assumption) ?_
            case refine_2 => ((intro w hSw; (try dsimp only at hSw); go_simp); try with_reducible rfl)
            try simp only [Act.put, List.setIfInBounds_toArray, List.set_cons_zero, List.set_cons_succ]
            refine wpAnyH_take (i := 6) (oi := { dst := some 45, op := _, type := _, pos := _, after := _, guard := _ }) (v := ?_) rfl (by kernel_rfl) (by kernel_rfl) (by kernel_rfl) (fun _ _ _ h => h) (Or.inl ⟨by rfl, ?_⟩) (by assumption) ?_
            case refine_2 => ((intro w hSw; (try dsimp only at hSw); go_simp); try with_reducible rfl)
            try simp only [Act.put, List.setIfInBounds_toArray, List.set_cons_zero, List.set_cons_succ]
            refine wpAnyH_take (i := 7) (oi := { dst := some 46, op := _, type := _, pos := _, after := _, guard := _ }) (v := ?_) rfl (by kernel_rfl) (by kernel_rfl) (by kernel_rfl) (fun _ _ _ h => h) (Or.inl ⟨by rfl, ?_⟩) (by assumption) ?_
            case refine_2 => ((intro w hSw; (try dsimp only at hSw); go_simp); try with_reducible rfl)
            try simp only [Act.put, List.setIfInBounds_toArray, List.set_cons_zero, List.set_cons_succ]
            refine wpAnyH_take (i := 8) (oi := { dst := some 11, op := _, type := _, pos := _, after := _, guard := _ }) (v := ?_) rfl (by kernel_rfl) (by kernel_rfl) (by kernel_rfl) (fun _ _ _ h => h) (Or.inl ⟨by rfl, ?_⟩) (by assumption) ?_
            case refine_2 => ((intro w hSw; (try dsimp only at hSw); go_simp); try with_reducible rfl)
            try simp only [Act.put, List.setIfInBounds_toArray, List.set_cons_zero, List.set_cons_succ]
            refine wpAnyH_take (i := 9) (oi := { dst := some 12, op := _, type := _, pos := _, after := _, guard := _ }) (v := ?_) rfl (by kernel_rfl) (by kernel_rfl) (by kernel_rfl) (fun _ _ _ h => h) (Or.inl ⟨by rfl, ?_⟩) (by assumption) ?_
            case refine_2 => ((intro w hSw; (try dsimp only at hSw); go_simp); try with_reducible rfl)
            try simp only [Act.put, List.setIfInBounds_toArray, List.set_cons_zero, List.set_cons_succ]
            refine wpAnyH_done (by kernel_rfl) ?_ _
            clear hHeld
            clear hl
            have A2 := HA.out.below HBm.out
            obtain ⟨g1, g2, g3, g4, g5⟩ := A2.cells
            have HA2 := Lib.hid A2
            clear A2
            go_wp2_with fail
            with_reducible refine (mv4_any X Y 2 _ bX0 bX1 bY0 bY1 (by omega) (by omega)).mono ?_
            rintro e wd ⟨rfl, hbd⟩
            have A3 := HA2.out.below hbd
            have HBd := Lib.hid (HBr.out.trans ((HBm.out.trans (hbd.mono HBm.out.size)).mono HBr.out.size))
            clear hbd g1 g2 g3 g4 g5
            obtain ⟨g1, g2, g3, g4, g5⟩ := A3.cells
            have HA3 := Lib.hid A3
            clear A3
            go_wp2
            go_roundw
            case rel => exact ⟨(HBd.out.setCell (p := ⟨w2.heap.size, 0, none⟩) HB2.out.size _).setCell (p := ⟨w2.heap.size, 1, none⟩) HB2.out.size _, .inr (.inl ⟨rfl, rfl, by omega, by omega, (HA3.out.put (X + 2) (Y + 2)).cast (by have h := HX.out; have d : dxl 100 = 1 := rfl; rw [d]; omega) (by have h := HY.out; have d : dyl 100 = 1 := rfl; rw [d]; omega)⟩)⟩
            case measure => simp [intOf]; omega
          · have HNo := Lib.hid (show NoPlace S from fun c r dx dy h => by have := place_let (hn.trans HM.out) hx0 hx1 h; omega)
            go_wp2
            refine wp_region_held_drew (S := fun _ => True) (by kernel_rfl) (trivial) (fun hHeld => ?_)
            refine wpAnyH_take (i := 1) (oi := { dst := some 41, op := _, type := _, pos := _, after := _, guard := _ }) (v := ?_) rfl (by kernel_rfl) (by kernel_rfl) (by kernel_rfl) (fun _ _ _ h => h) (Or.inl ⟨by rfl, ?_⟩) (by assumption) ?_
            case refine_2 => ((intro w hSw; (try dsimp only at hSw); go_simp); try with_reducible rfl)
            try simp only [Act.put, List.setIfInBounds_toArray, List.set_cons_zero, List.set_cons_succ]
            refine wpAnyH_take (i := 2) (oi := { dst := some 42, op := _, type := _, pos := _, after := _, guard := _ }) (v := ?_) rfl (by kernel_rfl) (by kernel_rfl) (by kernel_rfl) (fun _ _ _ h => h) (Or.inl ⟨by rfl, ?_⟩) (by assumption) ?_
            case refine_2 => ((intro w hSw; (try dsimp only at hSw); go_simp); try with_reducible rfl)
            try simp only [Act.put, List.setIfInBounds_toArray, List.set_cons_zero, List.set_cons_succ]
            refine wpAnyH_take (i := 3) (oi := { dst := some 43, op := _, type := _, pos := _, after := _, guard := _ }) (v := ?_) rfl (by kernel_rfl) (by kernel_rfl) (by kernel_rfl) (fun _ _ _ h => h) (Or.inl ⟨by rfl, ?_⟩) (by assumption) ?_
            case refine_2 => ((intro w hSw; (try dsimp only at hSw); go_simp); try with_reducible rfl)
            try simp only [Act.put, List.setIfInBounds_toArray, List.set_cons_zero, List.set_cons_succ]
            refine wpAnyH_ready (rs := [0]) (by kernel_rfl) (by simp) ?_
            refine AllReadyH.cons (o := { dst := some 40, op := _, type := _, pos := _, after := _, guard := _ }) rfl (fun K hK => ?_) AllReadyH.nil
            go_simp
            go_at_call 28
            refine (moves_any _).mono ?_
            rintro e wc ⟨b, rfl, hown, hbm⟩
            obtain ⟨vf, hl⟩ := look_miss hown (x0 : Int) (wf8 (by omega)) (by omega)
            have HBm := Lib.hid ((below_drewN (Below.refl wr.heap.size wr) 1).trans hbm)
            clear hown hbm
            refine hK.out _ _ (trivial) (fun hHeld => ?_)
            clear hK K
            try simp only [Act.put, List.setIfInBounds_toArray, List.set_cons_zero, List.set_cons_succ]
            refine wpAnyH_ready (rs := [4]) (by kernel_rfl) (by simp) ?_
            refine AllReadyH.cons (o := { dst := some 44, op := _, type := _, pos := _, after := _, guard := _ }) rfl (fun K hK => ?_) AllReadyH.nil
            go_simp
            refine hK.out _ _ (trivial) (fun hHeld => ?_)
            clear hK K
            try simp only [Act.put, List.setIfInBounds_toArray, List.set_cons_zero, List.set_cons_succ]
            refine wpAnyH_take (i := 5) (oi := { dst := some 39, op := _, type := _, pos := _, after := _, guard := _ }) (v := ?_) rfl (by kernel_rfl) (by kernel_rfl) (by kernel_rfl) (fun _ _ _ h => h) (Or.inl ⟨by rfl, ?_⟩) (by assumption) ?_
            case refine_2 => ((intro w hSw; (try dsimp only at hSw); go_simp); try with_reducible rfl)
            try simp only [Act.put, List.setIfInBounds_toArray, List.set_cons_zero, List.set_cons_succ]
            refine wpAnyH_take (i := 6) (oi := { dst := some 45, op := _, type := _, pos := _, after := _, guard := _ }) (v := ?_) rfl (by kernel_rfl) (by kernel_rfl) (by kernel_rfl) (fun _ _ _ h => h) (Or.inl ⟨by rfl, ?_⟩) (by assumption) ?_
            case refine_2 => ((intro w hSw; (try dsimp only at hSw); go_simp); try with_reducible rfl)
            try simp only [Act.put, List.setIfInBounds_toArray, List.set_cons_zero, List.set_cons_succ]
            refine wpAnyH_take (i := 7) (oi := { dst := some 46, op := _, type := _, pos := _, after := _, guard := _ }) (v := ?_) rfl (by kernel_rfl) (by kernel_rfl) (by kernel_rfl) (fun _ _ _ h => h) (Or.inl ⟨by rfl, ?_⟩) (by assumption) ?_
            case refine_2 => ((intro w hSw; (try dsimp only at hSw); go_simp); try with_reducible rfl)
            try simp only [Act.put, List.setIfInBounds_toArray, List.set_cons_zero, List.set_cons_succ]
            refine wpAnyH_take (i := 8) (oi := { dst := some 11, op := _, type := _, pos := _, after := _, guard := _ }) (v := ?_) rfl (by kernel_rfl) (by kernel_rfl) (by kernel_rfl) (fun _ _ _ h => h) (Or.inl ⟨by rfl, ?_⟩) (by assumption) ?_
            case refine_2 => ((intro w hSw; (try dsimp only at hSw); go_simp); try with_reducible rfl)
            try simp only [Act.put, List.setIfInBounds_toArray, List.set_cons_zero, List.set_cons_succ]
            refine wpAnyH_take (i := 9) (oi := { dst := some 12, op := _, type := _, pos := _, after := _, guard := _ }) (v := ?_) rfl (by kernel_rfl) (by kernel_rfl) (by kernel_rfl) (fun _ _ _ h => h) (Or.inl ⟨by rfl, ?_⟩) (by assumption) ?_
            case refine_2 => ((intro w hSw; (try dsimp only at hSw); go_simp); try with_reducible rfl)
            try simp only [Act.put, List.setIfInBounds_toArray, List.set_cons_zero, List.set_cons_succ]
            refine wpAnyH_done (by kernel_rfl) ?_ _
            clear hHeld
            clear hl
            go_wp2
            go_ret3
            exact ⟨.inr ⟨HNo.out, rfl⟩, HBr.out.trans (HBm.out.mono HBr.out.size)⟩
        · obtain ⟨X, hX⟩ : ∃ X : Int, X = (c : Int) * 4 + 2 * (dxl x0 : Nat) := ⟨_, rfl⟩
          obtain ⟨Y, hY⟩ : ∃ Y : Int, Y = (r : Int) * 4 + 2 * (dyl x0 : Nat) := ⟨_, rfl⟩
          rw [← hX, ← hY] at hA
          have HA := Lib.hid hA
          clear hA
          have d1 : dxl x0 < 2 := by unfold dxl; omega
          have d2 : dyl x0 < 2 := by unfold dyl; omega
          have bX : 0 ≤ X ∧ X ≤ 1000 := by omega
          have bY : 0 ≤ Y ∧ Y ≤ 1000 := by omega
          obtain ⟨bX0, bX1⟩ := bX
          obtain ⟨bY0, bY1⟩ := bY
          clear d1 d2
          have HX := Lib.hid hX
          have HY := Lib.hid hY
          clear hX hY
          have q0 : (0 : Int) ≤ (m : Int) + 1 := by omega
          have q1 : (m : Int) + 1 < (n : Int) := by omega
          have q2 : ((m : Int) + 1).toNat = m + 1 := by omega
          rcases (show x1 = 97 ∨ x1 = 98 ∨ x1 = 99 ∨ x1 = 100 ∨ (x1 < 97 ∨ 100 < x1) by omega) with rfl | rfl | rfl | rfl | hout
          · go_wp2
            refine wp_region_held_drew (S := fun _ => True) (by kernel_rfl) (trivial) (fun hHeld => ?_)
            refine wpAnyH_take (i := 1) (oi := { dst := some 41, op := _, type := _, pos := _, after := _, guard := _ }) (v := ?_) rfl (by kernel_rfl) (by kernel_rfl) (by kernel_rfl) (fun _ _ _ h => h) (Or.inl ⟨by rfl, ?_⟩) (by assumption) ?_
            case refine_2 => ((intro w hSw; (try dsimp only at hSw); go_simp); try with_reducible rfl)
            try simp only [Act.put, List.setIfInBounds_toArray, List.set_cons_zero, List.set_cons_succ]
            refine wpAnyH_take (i := 2) (oi := { dst := some 42, op := _, type := _, pos := _, after := _, guard := _ }) (v := ?_) rfl (by kernel_rfl) (by kernel_rfl) (by kernel_rfl) (fun _ _ _ h => h) (Or.inl ⟨by rfl, ?_⟩) (by assumption) ?_
            case refine_2 => ((intro w hSw; (try dsimp only at hSw); go_simp); try with_reducible rfl)
            try simp only [Act.put, List.setIfInBounds_toArray, List.set_cons_zero, List.set_cons_succ]
            refine wpAnyH_take (i := 3) (oi := { dst := some 43, op := _, type := _, pos := _, after := _, guard := _ }) (v := ?_) rfl (by kernel_rfl) (by kernel_rfl) (by kernel_rfl) (fun _ _ _ h => h) (Or.inl ⟨by rfl, ?_⟩) (by assumption) ?_
            case refine_2 => ((intro w hSw; (try dsimp only at hSw); go_simp); try with_reducible rfl)
            try simp only [Act.put, List.setIfInBounds_toArray, List.set_cons_zero, List.set_cons_succ]
            refine wpAnyH_ready (rs := [0]) (by kernel_rfl) (by simp) ?_
            refine AllReadyH.cons (o := { dst := some 40, op := _, type := _, pos := _, after := _, guard := _ }) rfl (fun K hK => ?_) AllReadyH.nil
            go_simp
            go_at_call 28
            refine (moves_any _).mono ?_
            rintro e wc ⟨b, rfl, hown, hbm⟩
            have hl := look_hit hown 97 41 (by decide) hit97.1 hit97.2
            have HBm := Lib.hid ((below_drewN (Below.refl wr.heap.size wr) 1).trans hbm)
            clear hown hbm
            refine hK.out _ _ (trivial) (fun hHeld => ?_)
            clear hK K
            try simp only [Act.put, List.setIfInBounds_toArray, List.set_cons_zero, List.set_cons_succ]
            refine wpAnyH_ready (rs := [4]) (by kernel_rfl) (by simp) ?_
            refine AllReadyH.cons (o := { dst := some 44, op := _, type := _, pos := _, after := _, guard := _ }) rfl (fun K hK => ?_) AllReadyH.nil
            go_simp
            refine hK.out _ _ (trivial) (fun hHeld => ?_)
            clear hK K
            try simp only [Act.put, List.setIfInBounds_toArray, List.set_cons_zero, List.set_cons_succ]
            refine wpAnyH_take (i := 5) (oi := { dst := some 39, op := _, type := _, pos := _, after := _, guard := _ }) (v := ?_) rfl (by kernel_rfl) (by kernel_rfl) (by kernel_rfl) (fun _ _ _ h => h) (Or.inl ⟨by rfl, ?_⟩) (by assumption) ?_
            case refine_2 => ((intro w hSw; (try dsimp only at hSw); go_simp); try with_reducible rfl)
            try simp only [Act.put, List.setIfInBounds_toArray, List.set_cons_zero, List.set_cons_succ]
            refine wpAnyH_take (i := 6) (oi := { dst := some 45, op := _, type := _, pos := _, after := _, guard := _ }) (v := ?_) rfl (by kernel_rfl) (by kernel_rfl) (by kernel_rfl) (fun _ _ _ h => h) (Or.inl ⟨by rfl, ?_⟩) (by assumption) ?_
            case refine_2 => ((intro w hSw; (try dsimp only at hSw); go_simp); try with_reducible rfl)
            try simp only [Act.put, List.setIfInBounds_toArray, List.set_cons_zero, List.set_cons_succ]
            refine wpAnyH_take (i := 7) (oi := { dst := some 46, op := _, type := _, pos := _, after := _, guard := _ }) (v := ?_) rfl (by kernel_rfl) (by kernel_rfl) (by kernel_rfl) (fun _ _ _ h => h) (Or.inl ⟨by rfl, ?_⟩) (by assumption) ?_
            case refine_2 => ((intro w hSw; (try dsimp only at hSw); go_simp); try with_reducible rfl)
            try simp only [Act.put, List.setIfInBounds_toArray, List.set_cons_zero, List.set_cons_succ]
            refine wpAnyH_take (i := 8) (oi := { dst := some 11, op := _, type := _, pos := _, after := _, guard := _ }) (v := ?_) rfl (by kernel_rfl) (by kernel_rfl) (by kernel_rfl) (fun _ _ _ h => h) (Or.inl ⟨by rfl, ?_⟩) (by assumption) ?_
            case refine_2 => ((intro w hSw; (try dsimp only at hSw); go_simp); try with_reducible rfl)
            try simp only [Act.put, List.setIfInBounds_toArray, List.set_cons_zero, List.set_cons_succ]
            refine wpAnyH_take (i := 9) (oi := { dst := some 12, op := _, type := _, pos := _, after := _, guard := _ }) (v := ?_) rfl (by kernel_rfl) (by kernel_rfl) (by kernel_rfl) (fun _ _ _ h => h) (Or.inl ⟨by rfl, ?_⟩) (by assumption) ?_
            case refine_2 => ((intro w hSw; (try dsimp only at hSw); go_simp); try with_reducible rfl)
            try simp only [Act.put, List.setIfInBounds_toArray, List.set_cons_zero, List.set_cons_succ]
            refine wpAnyH_done (by kernel_rfl) ?_ _
            clear hHeld
            clear hl
            have A2 := HA.out.below HBm.out
            obtain ⟨g1, g2, g3, g4, g5⟩ := A2.cells
            have HA2 := Lib.hid A2
            clear A2
            go_wp2_with fail
            with_reducible refine (mv1_any X Y 1 _ bX0 bX1 bY0 bY1 (by omega) (by omega)).mono ?_
            rintro e wd ⟨rfl, hbd⟩
            have A3 := HA2.out.below hbd
            have HBd := Lib.hid (HBr.out.trans ((HBm.out.trans (hbd.mono HBm.out.size)).mono HBr.out.size))
            clear hbd g1 g2 g3 g4 g5
            obtain ⟨g1, g2, g3, g4, g5⟩ := A3.cells
            have HA3 := Lib.hid A3
            clear A3
            go_wp2
            go_roundw
            case rel => exact ⟨(HBd.out.setCell (p := ⟨w2.heap.size, 0, none⟩) HB2.out.size _).setCell (p := ⟨w2.heap.size, 1, none⟩) HB2.out.size _, .inr (.inr ⟨by rw [show (m : Int) + 1 + 1 = (m : Int) + 2 by omega], rfl, a1, a2, by omega, by omega, (HA3.out.put (X) (Y)).cast (by have h := HX.out; have d : dxl 97 = 0 := rfl; rw [d]; omega) (by have h := HY.out; have d : dyl 97 = 0 := rfl; rw [d]; omega)⟩)⟩
            case measure => simp [intOf]; omega
          · go_wp2
            refine wp_region_held_drew (S := fun _ => True) (by kernel_rfl) (trivial) (fun hHeld => ?_)
            refine wpAnyH_take (i := 1) (oi := { dst := some 41, op := _, type := _, pos := _, after := _, guard := _ }) (v := ?_) rfl (by kernel_rfl) (by kernel_rfl) (by kernel_rfl) (fun _ _ _ h => h) (Or.inl ⟨by rfl, ?_⟩) (by assumption) ?_
            case refine_2 => ((intro w hSw; (try dsimp only at hSw); go_simp); try with_reducible rfl)
            try simp only [Act.put, List.setIfInBounds_toArray, List.set_cons_zero, List.set_cons_succ]
            refine wpAnyH_take (i := 2) (oi := { dst := some 42, op := _, type := _, pos := _, after := _, guard := _ }) (v := ?_) rfl (by kernel_rfl) (by kernel_rfl) (by kernel_rfl) (fun _ _ _ h => h) (Or.inl ⟨by rfl, ?_⟩) (by assumption) ?_
            case refine_2 => ((intro w hSw; (try dsimp only at hSw); go_simp); try with_reducible rfl)
            try simp only [Act.put, List.setIfInBounds_toArray, List.set_cons_zero, List.set_cons_succ]
            refine wpAnyH_take (i := 3) (oi := { dst := some 43, op := _, type := _, pos := _, after := _, guard := _ }) (v := ?_) rfl (by kernel_rfl) (by kernel_rfl) (by kernel_rfl) (fun _ _ _ h => h) (Or.inl ⟨by rfl, ?_⟩) (by assumption) ?_
            case refine_2 => ((intro w hSw; (try dsimp only at hSw); go_simp); try with_reducible rfl)
            try simp only [Act.put, List.setIfInBounds_toArray, List.set_cons_zero, List.set_cons_succ]
            refine wpAnyH_ready (rs := [0]) (by kernel_rfl) (by simp) ?_
            refine AllReadyH.cons (o := { dst := some 40, op := _, type := _, pos := _, after := _, guard := _ }) rfl (fun K hK => ?_) AllReadyH.nil
            go_simp
            go_at_call 28
            refine (moves_any _).mono ?_
            rintro e wc ⟨b, rfl, hown, hbm⟩
            have hl := look_hit hown 98 42 (by decide) hit98.1 hit98.2
            have HBm := Lib.hid ((below_drewN (Below.refl wr.heap.size wr) 1).trans hbm)
            clear hown hbm
            refine hK.out _ _ (trivial) (fun hHeld => ?_)
            clear hK K
            try simp only [Act.put, List.setIfInBounds_toArray, List.set_cons_zero, List.set_cons_succ]
            refine wpAnyH_ready (rs := [4]) (by kernel_rfl) (by simp) ?_
            refine AllReadyH.cons (o := { dst := some 44, op := _, type := _, pos := _, after := _, guard := _ }) rfl (fun K hK => ?_) AllReadyH.nil
            go_simp
            refine hK.out _ _ (trivial) (fun hHeld => ?_)
            clear hK K
            try simp only [Act.put, List.setIfInBounds_toArray, List.set_cons_zero, List.set_cons_succ]
            refine wpAnyH_take (i := 5) (oi := { dst := some 39, op := _, type := _, pos := _, after := _, guard := _ }) (v := ?_) rfl (by kernel_rfl) (by kernel_rfl) (by kernel_rfl) (fun _ _ _ h => h) (Or.inl ⟨by rfl, ?_⟩) (by assumption) ?_
            case refine_2 => ((intro w hSw; (try dsimp only at hSw); go_simp); try with_reducible rfl)
            try simp only [Act.put, List.setIfInBounds_toArray, List.set_cons_zero, List.set_cons_succ]
            refine wpAnyH_take (i := 6) (oi := { dst := some 45, op := _, type := _, pos := _, after := _, guard := _ }) (v := ?_) rfl (by kernel_rfl) (by kernel_rfl) (by kernel_rfl) (fun _ _ _ h => h) (Or.inl ⟨by rfl, ?_⟩) (by assumption) ?_
            case refine_2 => ((intro w hSw; (try dsimp only at hSw); go_simp); try with_reducible rfl)
            try simp only [Act.put, List.setIfInBounds_toArray, List.set_cons_zero, List.set_cons_succ]
            refine wpAnyH_take (i := 7) (oi := { dst := some 46, op := _, type := _, pos := _, after := _, guard := _ }) (v := ?_) rfl (by kernel_rfl) (by kernel_rfl) (by kernel_rfl) (fun _ _ _ h => h) (Or.inl ⟨by rfl, ?_⟩) (by assumption) ?_
            case refine_2 => ((intro w hSw; (try dsimp only at hSw); go_simp); try with_reducible rfl)
            try simp only [Act.put, List.setIfInBounds_toArray, List.set_cons_zero, List.set_cons_succ]
            refine wpAnyH_take (i := 8) (oi := { dst := some 11, op := _, type := _, pos := _, after := _, guard := _ }) (v := ?_) rfl (by kernel_rfl) (by kernel_rfl) (by kernel_rfl) (fun _ _ _ h => h) (Or.inl ⟨by rfl, ?_⟩) (by assumption) ?_
            case refine_2 => ((intro w hSw; (try dsimp only at hSw); go_simp); try with_reducible rfl)
            try simp only [Act.put, List.setIfInBounds_toArray, List.set_cons_zero, List.set_cons_succ]
            refine wpAnyH_take (i := 9) (oi := { dst := some 12, op := _, type := _, pos := _, after := _, guard := _ }) (v := ?_) rfl (by kernel_rfl) (by kernel_rfl) (by kernel_rfl) (fun _ _ _ h => h) (Or.inl ⟨by rfl, ?_⟩) (by assumption) ?_
            case refine_2 => ((intro w hSw; (try dsimp only at hSw); go_simp); try with_reducible rfl)
            try simp only [Act.put, List.setIfInBounds_toArray, List.set_cons_zero, List.set_cons_succ]
            refine wpAnyH_done (by kernel_rfl) ?_ _
            clear hHeld
            clear hl
            have A2 := HA.out.below HBm.out
            obtain ⟨g1, g2, g3, g4, g5⟩ := A2.cells
            have HA2 := Lib.hid A2
            clear A2
            go_wp2_with fail
            with_reducible refine (mv2_any X Y 1 _ bX0 bX1 bY0 bY1 (by omega) (by omega)).mono ?_
            rintro e wd ⟨rfl, hbd⟩
            have A3 := HA2.out.below hbd
            have HBd := Lib.hid (HBr.out.trans ((HBm.out.trans (hbd.mono HBm.out.size)).mono HBr.out.size))
            clear hbd g1 g2 g3 g4 g5
            obtain ⟨g1, g2, g3, g4, g5⟩ := A3.cells
            have HA3 := Lib.hid A3
            clear A3
            go_wp2
            go_roundw
            case rel => exact ⟨(HBd.out.setCell (p := ⟨w2.heap.size, 0, none⟩) HB2.out.size _).setCell (p := ⟨w2.heap.size, 1, none⟩) HB2.out.size _, .inr (.inr ⟨by rw [show (m : Int) + 1 + 1 = (m : Int) + 2 by omega], rfl, a1, a2, by omega, by omega, (HA3.out.put (X + 1) (Y)).cast (by have h := HX.out; have d : dxl 98 = 1 := rfl; rw [d]; omega) (by have h := HY.out; have d : dyl 98 = 0 := rfl; rw [d]; omega)⟩)⟩
            case measure => simp [intOf]; omega
          · go_wp2
            refine wp_region_held_drew (S := fun _ => True) (by kernel_rfl) (trivial) (fun hHeld => ?_)
            refine wpAnyH_take (i := 1) (oi := { dst := some 41, op := _, type := _, pos := _, after := _, guard := _ }) (v := ?_) rfl (by kernel_rfl) (by kernel_rfl) (by kernel_rfl) (fun _ _ _ h => h) (Or.inl ⟨by rfl, ?_⟩) (by assumption) ?_
            case refine_2 => ((intro w hSw; (try dsimp only at hSw); go_simp); try with_reducible rfl)
            try simp only [Act.put, List.setIfInBounds_toArray, List.set_cons_zero, List.set_cons_succ]
            refine wpAnyH_take (i := 2) (oi := { dst := some 42, op := _, type := _, pos := _, after := _, guard := _ }) (v := ?_) rfl (by kernel_rfl) (by kernel_rfl) (by kernel_rfl) (fun _ _ _ h => h) (Or.inl ⟨by rfl, ?_⟩) (by assumption) ?_
            case refine_2 => ((intro w hSw; (try dsimp only at hSw); go_simp); try with_reducible rfl)
            try simp only [Act.put, List.setIfInBounds_toArray, List.set_cons_zero, List.set_cons_succ]
            refine wpAnyH_take (i := 3) (oi := { dst := some 43, op := _, type := _, pos := _, after := _, guard := _ }) (v := ?_) rfl (by kernel_rfl) (by kernel_rfl) (by kernel_rfl) (fun _ _ _ h => h) (Or.inl ⟨by rfl, ?_⟩) (by assumption) ?_
            case refine_2 => ((intro w hSw; (try dsimp only at hSw); go_simp); try with_reducible rfl)
            try simp only [Act.put, List.setIfInBounds_toArray, List.set_cons_zero, List.set_cons_succ]
            refine wpAnyH_ready (rs := [0]) (by kernel_rfl) (by simp) ?_
            refine AllReadyH.cons (o := { dst := some 40, op := _, type := _, pos := _, after := _, guard := _ }) rfl (fun K hK => ?_) AllReadyH.nil
            go_simp
            go_at_call 28
            refine (moves_any _).mono ?_
            rintro e wc ⟨b, rfl, hown, hbm⟩
            have hl := look_hit hown 99 43 (by decide) hit99.1 hit99.2
            have HBm := Lib.hid ((below_drewN (Below.refl wr.heap.size wr) 1).trans hbm)
            clear hown hbm
            refine hK.out _ _ (trivial) (fun hHeld => ?_)
            clear hK K
            try simp only [Act.put, List.setIfInBounds_toArray, List.set_cons_zero, List.set_cons_succ]
            refine wpAnyH_ready (rs := [4]) (by kernel_rfl) (by simp) ?_
            refine AllReadyH.cons (o := { dst := some 44, op := _, type := _, pos := _, after := _, guard := _ }) rfl (fun K hK => ?_) AllReadyH.nil
            go_simp
            refine hK.out _ _ (trivial) (fun hHeld => ?_)
            clear hK K
            try simp only [Act.put, List.setIfInBounds_toArray, List.set_cons_zero, List.set_cons_succ]
            refine wpAnyH_take (i := 5) (oi := { dst := some 39, op := _, type := _, pos := _, after := _, guard := _ }) (v := ?_) rfl (by kernel_rfl) (by kernel_rfl) (by kernel_rfl) (fun _ _ _ h => h) (Or.inl ⟨by rfl, ?_⟩) (by assumption) ?_
            case refine_2 => ((intro w hSw; (try dsimp only at hSw); go_simp); try with_reducible rfl)
            try simp only [Act.put, List.setIfInBounds_toArray, List.set_cons_zero, List.set_cons_succ]
            refine wpAnyH_take (i := 6) (oi := { dst := some 45, op := _, type := _, pos := _, after := _, guard := _ }) (v := ?_) rfl (by kernel_rfl) (by kernel_rfl) (by kernel_rfl) (fun _ _ _ h => h) (Or.inl ⟨by rfl, ?_⟩) (by assumption) ?_
            case refine_2 => ((intro w hSw; (try dsimp only at hSw); go_simp); try with_reducible rfl)
            try simp only [Act.put, List.setIfInBounds_toArray, List.set_cons_zero, List.set_cons_succ]
            refine wpAnyH_take (i := 7) (oi := { dst := some 46, op := _, type := _, pos := _, after := _, guard := _ }) (v := ?_) rfl (by kernel_rfl) (by kernel_rfl) (by kernel_rfl) (fun _ _ _ h => h) (Or.inl ⟨by rfl, ?_⟩) (by assumption) ?_
            case refine_2 => ((intro w hSw; (try dsimp only at hSw); go_simp); try with_reducible rfl)
            try simp only [Act.put, List.setIfInBounds_toArray, List.set_cons_zero, List.set_cons_succ]
            refine wpAnyH_take (i := 8) (oi := { dst := some 11, op := _, type := _, pos := _, after := _, guard := _ }) (v := ?_) rfl (by kernel_rfl) (by kernel_rfl) (by kernel_rfl) (fun _ _ _ h => h) (Or.inl ⟨by rfl, ?_⟩) (by assumption) ?_
            case refine_2 => ((intro w hSw; (try dsimp only at hSw); go_simp); try with_reducible rfl)
            try simp only [Act.put, List.setIfInBounds_toArray, List.set_cons_zero, List.set_cons_succ]
            refine wpAnyH_take (i := 9) (oi := { dst := some 12, op := _, type := _, pos := _, after := _, guard := _ }) (v := ?_) rfl (by kernel_rfl) (by kernel_rfl) (by kernel_rfl) (fun _ _ _ h => h) (Or.inl ⟨by rfl, ?_⟩) (by assumption) ?_
            case refine_2 => ((intro w hSw; (try dsimp only at hSw); go_simp); try with_reducible rfl)
            try simp only [Act.put, List.setIfInBounds_toArray, List.set_cons_zero, List.set_cons_succ]
            refine wpAnyH_done (by kernel_rfl) ?_ _
            clear hHeld
            clear hl
            have A2 := HA.out.below HBm.out
            obtain ⟨g1, g2, g3, g4, g5⟩ := A2.cells
            have HA2 := Lib.hid A2
            clear A2
            go_wp2_with fail
            with_reducible refine (mv3_any X Y 1 _ bX0 bX1 bY0 bY1 (by omega) (by omega)).mono ?_
            rintro e wd ⟨rfl, hbd⟩
            have A3 := HA2.out.below hbd
            have HBd := Lib.hid (HBr.out.trans ((HBm.out.trans (hbd.mono HBm.out.size)).mono HBr.out.size))
            clear hbd g1 g2 g3 g4 g5
            obtain ⟨g1, g2, g3, g4, g5⟩ := A3.cells
            have HA3 := Lib.hid A3
            clear A3
            go_wp2
            go_roundw
            case rel => exact ⟨(HBd.out.setCell (p := ⟨w2.heap.size, 0, none⟩) HB2.out.size _).setCell (p := ⟨w2.heap.size, 1, none⟩) HB2.out.size _, .inr (.inr ⟨by rw [show (m : Int) + 1 + 1 = (m : Int) + 2 by omega], rfl, a1, a2, by omega, by omega, (HA3.out.put (X) (Y + 1)).cast (by have h := HX.out; have d : dxl 99 = 0 := rfl; rw [d]; omega) (by have h := HY.out; have d : dyl 99 = 1 := rfl; rw [d]; omega)⟩)⟩
            case measure => simp [intOf]; omega
          · go_wp2
            refine wp_region_held_drew (S := fun _ => True) (by kernel_rfl) (trivial) (fun hHeld => ?_)
            refine wpAnyH_take (i := 1) (oi := { dst := some 41, op := _, type := _, pos := _, after := _, guard := _ }) (v := ?_) rfl (by kernel_rfl) (by kernel_rfl) (by kernel_rfl) (fun _ _ _ h => h) (Or.inl ⟨by rfl, ?_⟩) (by assumption) ?_
            case refine_2 => ((intro w hSw; (try dsimp only at hSw); go_simp); try with_reducible rfl)
            try simp only [Act.put, List.setIfInBounds_toArray, List.set_cons_zero, List.set_cons_succ]
            refine wpAnyH_take (i := 2) (oi := { dst := some 42, op := _, type := _, pos := _, after := _, guard := _ }) (v := ?_) rfl (by kernel_rfl) (by kernel_rfl) (by kernel_rfl) (fun _ _ _ h => h) (Or.inl ⟨by rfl, ?_⟩) (by assumption) ?_
            case refine_2 => ((intro w hSw; (try dsimp only at hSw); go_simp); try with_reducible rfl)
            try simp only [Act.put, List.setIfInBounds_toArray, List.set_cons_zero, List.set_cons_succ]
            refine wpAnyH_take (i := 3) (oi := { dst := some 43, op := _, type := _, pos := _, after := _, guard := _ }) (v := ?_) rfl (by kernel_rfl) (by kernel_rfl) (by kernel_rfl) (fun _ _ _ h => h) (Or.inl ⟨by rfl, ?_⟩) (by assumption) ?_
            case refine_2 => ((intro w hSw; (try dsimp only at hSw); go_simp); try with_reducible rfl)
            try simp only [Act.put, List.setIfInBounds_toArray, List.set_cons_zero, List.set_cons_succ]
            refine wpAnyH_ready (rs := [0]) (by kernel_rfl) (by simp) ?_
            refine AllReadyH.cons (o := { dst := some 40, op := _, type := _, pos := _, after := _, guard := _ }) rfl (fun K hK => ?_) AllReadyH.nil
            go_simp
            go_at_call 28
            refine (moves_any _).mono ?_
            rintro e wc ⟨b, rfl, hown, hbm⟩
            have hl := look_hit hown 100 44 (by decide) hit100.1 hit100.2
            have HBm := Lib.hid ((below_drewN (Below.refl wr.heap.size wr) 1).trans hbm)
            clear hown hbm
            refine hK.out _ _ (trivial) (fun hHeld => ?_)
            clear hK K
            try simp only [Act.put, List.setIfInBounds_toArray, List.set_cons_zero, List.set_cons_succ]
            refine wpAnyH_ready (rs := [4]) (by kernel_rfl) (by simp) ?_
            refine AllReadyH.cons (o := { dst := some 44, op := _, type := _, pos := _, after := _, guard := _ }) rfl (fun K hK => ?_) AllReadyH.nil
            go_simp
            refine hK.out _ _ (trivial) (fun hHeld => ?_)
            clear hK K
            try simp only [Act.put, List.setIfInBounds_toArray, List.set_cons_zero, List.set_cons_succ]
            refine wpAnyH_take (i := 5) (oi := { dst := some 39, op := _, type := _, pos := _, after := _, guard := _ }) (v := ?_) rfl (by kernel_rfl) (by kernel_rfl) (by kernel_rfl) (fun _ _ _ h => h) (Or.inl ⟨by rfl, ?_⟩) (by assumption) ?_
            case refine_2 => ((intro w hSw; (try dsimp only at hSw); go_simp); try with_reducible rfl)
            try simp only [Act.put, List.setIfInBounds_toArray, List.set_cons_zero, List.set_cons_succ]
            refine wpAnyH_take (i := 6) (oi := { dst := some 45, op := _, type := _, pos := _, after := _, guard := _ }) (v := ?_) rfl (by kernel_rfl) (by kernel_rfl) (by kernel_rfl) (fun _ _ _ h => h) (Or.inl ⟨by rfl, ?_⟩) (by assumption) ?_
            case refine_2 => ((intro w hSw; (try dsimp only at hSw); go_simp); try with_reducible rfl)
            try simp only [Act.put, List.setIfInBounds_toArray, List.set_cons_zero, List.set_cons_succ]
            refine wpAnyH_take (i := 7) (oi := { dst := some 46, op := _, type := _, pos := _, after := _, guard := _ }) (v := ?_) rfl (by kernel_rfl) (by kernel_rfl) (by kernel_rfl) (fun _ _ _ h => h) (Or.inl ⟨by rfl, ?_⟩) (by assumption) ?_
            case refine_2 => ((intro w hSw; (try dsimp only at hSw); go_simp); try with_reducible rfl)
            try simp only [Act.put, List.setIfInBounds_toArray, List.set_cons_zero, List.set_cons_succ]
            refine wpAnyH_take (i := 8) (oi := { dst := some 11, op := _, type := _, pos := _, after := _, guard := _ }) (v := ?_) rfl (by kernel_rfl) (by kernel_rfl) (by kernel_rfl) (fun _ _ _ h => h) (Or.inl ⟨by rfl, ?_⟩) (by assumption) ?_
            case refine_2 => ((intro w hSw; (try dsimp only at hSw); go_simp); try with_reducible rfl)
            try simp only [Act.put, List.setIfInBounds_toArray, List.set_cons_zero, List.set_cons_succ]
            refine wpAnyH_take (i := 9) (oi := { dst := some 12, op := _, type := _, pos := _, after := _, guard := _ }) (v := ?_) rfl (by kernel_rfl) (by kernel_rfl) (by kernel_rfl) (fun _ _ _ h => h) (Or.inl ⟨by rfl, ?_⟩) (by assumption) ?_
            case refine_2 => ((intro w hSw; (try dsimp only at hSw); go_simp); try with_reducible rfl)
            try simp only [Act.put, List.setIfInBounds_toArray, List.set_cons_zero, List.set_cons_succ]
            refine wpAnyH_done (by kernel_rfl) ?_ _
            clear hHeld
            clear hl
            have A2 := HA.out.below HBm.out
            obtain ⟨g1, g2, g3, g4, g5⟩ := A2.cells
            have HA2 := Lib.hid A2
            clear A2
            go_wp2_with fail
            with_reducible refine (mv4_any X Y 1 _ bX0 bX1 bY0 bY1 (by omega) (by omega)).mono ?_
            rintro e wd ⟨rfl, hbd⟩
            have A3 := HA2.out.below hbd
            have HBd := Lib.hid (HBr.out.trans ((HBm.out.trans (hbd.mono HBm.out.size)).mono HBr.out.size))
            clear hbd g1 g2 g3 g4 g5
            obtain ⟨g1, g2, g3, g4, g5⟩ := A3.cells
            have HA3 := Lib.hid A3
            clear A3
            go_wp2
            go_roundw
            case rel => exact ⟨(HBd.out.setCell (p := ⟨w2.heap.size, 0, none⟩) HB2.out.size _).setCell (p := ⟨w2.heap.size, 1, none⟩) HB2.out.size _, .inr (.inr ⟨by rw [show (m : Int) + 1 + 1 = (m : Int) + 2 by omega], rfl, a1, a2, by omega, by omega, (HA3.out.put (X + 1) (Y + 1)).cast (by have h := HX.out; have d : dxl 100 = 1 := rfl; rw [d]; omega) (by have h := HY.out; have d : dyl 100 = 1 := rfl; rw [d]; omega)⟩)⟩
            case measure => simp [intOf]; omega
          · have HNo := Lib.hid (show NoPlace S from fun c r dx dy h => by have := place_let (hn.trans HM.out) hx0 hx1 h; omega)
            go_wp2
            refine wp_region_held_drew (S := fun _ => True) (by kernel_rfl) (trivial) (fun hHeld => ?_)
            refine wpAnyH_take (i := 1) (oi := { dst := some 41, op := _, type := _, pos := _, after := _, guard := _ }) (v := ?_) rfl (by kernel_rfl) (by kernel_rfl) (by kernel_rfl) (fun _ _ _ h => h) (Or.inl ⟨by rfl, ?_⟩) (by assumption) ?_
            case refine_2 => ((intro w hSw; (try dsimp only at hSw); go_simp); try with_reducible rfl)
            try simp only [Act.put, List.setIfInBounds_toArray, List.set_cons_zero, List.set_cons_succ]
            refine wpAnyH_take (i := 2) (oi := { dst := some 42, op := _, type := _, pos := _, after := _, guard := _ }) (v := ?_) rfl (by kernel_rfl) (by kernel_rfl) (by kernel_rfl) (fun _ _ _ h => h) (Or.inl ⟨by rfl, ?_⟩) (by assumption) ?_
            case refine_2 => ((intro w hSw; (try dsimp only at hSw); go_simp); try with_reducible rfl)
            try simp only [Act.put, List.setIfInBounds_toArray, List.set_cons_zero, List.set_cons_succ]
            refine wpAnyH_take (i := 3) (oi := { dst := some 43, op := _, type := _, pos := _, after := _, guard := _ }) (v := ?_) rfl (by kernel_rfl) (by kernel_rfl) (by kernel_rfl) (fun _ _ _ h => h) (Or.inl ⟨by rfl, ?_⟩) (by assumption) ?_
            case refine_2 => ((intro w hSw; (try dsimp only at hSw); go_simp); try with_reducible rfl)
            try simp only [Act.put, List.setIfInBounds_toArray, List.set_cons_zero, List.set_cons_succ]
            refine wpAnyH_ready (rs := [0]) (by kernel_rfl) (by simp) ?_
            refine AllReadyH.cons (o := { dst := some 40, op := _, type := _, pos := _, after := _, guard := _ }) rfl (fun K hK => ?_) AllReadyH.nil
            go_simp
            go_at_call 28
            refine (moves_any _).mono ?_
            rintro e wc ⟨b, rfl, hown, hbm⟩
            obtain ⟨vf, hl⟩ := look_miss hown (x1 : Int) (wf8 (by omega)) (by omega)
            have HBm := Lib.hid ((below_drewN (Below.refl wr.heap.size wr) 1).trans hbm)
            clear hown hbm
            refine hK.out _ _ (trivial) (fun hHeld => ?_)
            clear hK K
            try simp only [Act.put, List.setIfInBounds_toArray, List.set_cons_zero, List.set_cons_succ]
            refine wpAnyH_ready (rs := [4]) (by kernel_rfl) (by simp) ?_
            refine AllReadyH.cons (o := { dst := some 44, op := _, type := _, pos := _, after := _, guard := _ }) rfl (fun K hK => ?_) AllReadyH.nil
            go_simp
            refine hK.out _ _ (trivial) (fun hHeld => ?_)
            clear hK K
            try simp only [Act.put, List.setIfInBounds_toArray, List.set_cons_zero, List.set_cons_succ]
            refine wpAnyH_take (i := 5) (oi := { dst := some 39, op := _, type := _, pos := _, after := _, guard := _ }) (v := ?_) rfl (by kernel_rfl) (by kernel_rfl) (by kernel_rfl) (fun _ _ _ h => h) (Or.inl ⟨by rfl, ?_⟩) (by assumption) ?_
            case refine_2 => ((intro w hSw; (try dsimp only at hSw); go_simp); try with_reducible rfl)
            try simp only [Act.put, List.setIfInBounds_toArray, List.set_cons_zero, List.set_cons_succ]
            refine wpAnyH_take (i := 6) (oi := { dst := some 45, op := _, type := _, pos := _, after := _, guard := _ }) (v := ?_) rfl (by kernel_rfl) (by kernel_rfl) (by kernel_rfl) (fun _ _ _ h => h) (Or.inl ⟨by rfl, ?_⟩) (by assumption) ?_
            case refine_2 => ((intro w hSw; (try dsimp only at hSw); go_simp); try with_reducible rfl)
            try simp only [Act.put, List.setIfInBounds_toArray, List.set_cons_zero, List.set_cons_succ]
            refine wpAnyH_take (i := 7) (oi := { dst := some 46, op := _, type := _, pos := _, after := _, guard := _ }) (v := ?_) rfl (by kernel_rfl) (by kernel_rfl) (by kernel_rfl) (fun _ _ _ h => h) (Or.inl ⟨by rfl, ?_⟩) (by assumption) ?_
            case refine_2 => ((intro w hSw; (try dsimp only at hSw); go_simp); try with_reducible rfl)
            try simp only [Act.put, List.setIfInBounds_toArray, List.set_cons_zero, List.set_cons_succ]
            refine wpAnyH_take (i := 8) (oi := { dst := some 11, op := _, type := _, pos := _, after := _, guard := _ }) (v := ?_) rfl (by kernel_rfl) (by kernel_rfl) (by kernel_rfl) (fun _ _ _ h => h) (Or.inl ⟨by rfl, ?_⟩) (by assumption) ?_
            case refine_2 => ((intro w hSw; (try dsimp only at hSw); go_simp); try with_reducible rfl)
            try simp only [Act.put, List.setIfInBounds_toArray, List.set_cons_zero, List.set_cons_succ]
            refine wpAnyH_take (i := 9) (oi := { dst := some 12, op := _, type := _, pos := _, after := _, guard := _ }) (v := ?_) rfl (by kernel_rfl) (by kernel_rfl) (by kernel_rfl) (fun _ _ _ h => h) (Or.inl ⟨by rfl, ?_⟩) (by assumption) ?_
            case refine_2 => ((intro w hSw; (try dsimp only at hSw); go_simp); try with_reducible rfl)
            try simp only [Act.put, List.setIfInBounds_toArray, List.set_cons_zero, List.set_cons_succ]
            refine wpAnyH_done (by kernel_rfl) ?_ _
            clear hHeld
            clear hl
            go_wp2
            go_ret3
            exact ⟨.inr ⟨HNo.out, rfl⟩, HBr.out.trans (HBm.out.mono HBr.out.size)⟩
        · obtain ⟨g1, g2, g3, g4, g5⟩ := hA.cells
          clear hA
          have HI := Lib.hid (place_mk (hn.trans HM.out) (by rw [HT.out] at HNm; exact HNm.out) hx0 hx1 a1 a2 a3 a4)
          have q1 : ¬ (m : Int) + 2 < (n : Int) := by have := HM.out; omega
          go_wp2
          go_quiet (fail)
          go_wp2
          go_ret3
          exact ⟨.inl ⟨c, r, _, _, HI.out, by congr 5 <;> (simp; try omega)⟩, below_drewN HBr.out _⟩
    · have HF := Lib.hid (fun wx => named_no hN wx)
      have HNo := Lib.hid (show NoPlace S from fun c r dx dy h => hN c r (HP.out _ _ _ _ h))
      rw [HT.out] at HF
      clear HP HT hN hm
      go_enter Try.func16, Try.ntmps16
      go_wp2_with fail
      with_reducible refine (HF.out _).mono ?_
      rintro e w1 ⟨rfl, hb⟩
      have HB := Lib.hid hb
      clear hb
      go_wp2
      go_ret3
      exact ⟨.inr ⟨HNo.out, rfl⟩, HB.out.trans ((Below.alloc (Below.refl w1.heap.size w1) (Nat.le_refl _) _).mono HB.out.size)⟩
theorem ipfrom_any (S : ByteArray) (a b : Int) (o : Bool) (w : World) (hmax : S.size ≤ 1048576) (h : pfromV S a b o) :
    Calls Try.prog 16 #[.string S] w fun e w' => e = .returned (.tuple #[.int .i64 a, .int .i64 b, .bool o]) ∧ Below w.heap.size w w' :=
  (ipfrom_finds S w hmax).mono fun _ _ hf => pfinds_val h hf

end Go.Proofs.Ytlmigoplffdpiaa
