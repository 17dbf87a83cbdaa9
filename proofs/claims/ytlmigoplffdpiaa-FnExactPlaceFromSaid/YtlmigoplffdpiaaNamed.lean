/- Contract: sheetNamed of the program. -/
import Derived.Test.YtlmigoplffdpiaaFind
import Derived.Test.YtlmigoplffdpiaaPlain
import Derived.Outline
import Derived.Laws.ResultCell
namespace Go.Proofs.Ytlmigoplffdpiaa
open Go.RowKit

theorem there_yes (r c : Int) (w : World) (h1 : 0 ≤ r) (h2 : r < 26) (h3 : 0 ≤ c) (h4 : c < 26) : Calls Try.prog 37 #[.agg #[.int .i64 r, .int .i64 c]] w fun e w' => e = .returned (.bool true) ∧ w' = w.alloc (.cells #[.int .i64 r, .int .i64 c] 37) := by
  go_enter Try.func37, Try.ntmps37
  go_wp2
  go_ret
  exact ⟨ret_bool (by simp <;> omega), rfl⟩
theorem there_no (r c : Int) (w : World) (h : ¬ (0 ≤ r ∧ r < 26 ∧ 0 ≤ c ∧ c < 26)) : Calls Try.prog 37 #[.agg #[.int .i64 r, .int .i64 c]] w fun e w' => e = .returned (.bool false) ∧ w' = w.alloc (.cells #[.int .i64 r, .int .i64 c] 37) := by
  go_enter Try.func37, Try.ntmps37
  go_wp2
  all_goals
    go_ret
    exact ⟨ret_bool (by first | rfl | (simp only [decide_eq_false_iff_not]; omega)), rfl⟩
/-- What sheetNamed gives. -/
def Named (S : ByteArray) (w : World) (e : Ending) (w' : World) : Prop :=
  ((∃ c r : Nat, IsName S c r ∧ e = .returned (.tuple #[.agg #[.int .i64 r, .int .i64 c], .bool true])) ∨ (NoName S ∧ e = .returned (.tuple #[.agg #[.int .i64 0, .int .i64 0], .bool false]))) ∧ Below w.heap.size w w'
theorem byte_eq {b : UInt8} {x : Int} (h0 : 0 ≤ x) (h1 : x < 256) : b = UInt8.ofNat x.toNat ↔ (b.toNat : Int) = x := by
  constructor
  · intro h
    have := congrArg UInt8.toNat h
    simp only [UInt8.toNat_ofNat'] at this
    omega
  · intro h
    apply UInt8.toNat_inj.1
    simp only [UInt8.toNat_ofNat']
    omega
theorem is2 {b0 b1 : UInt8} {c r : Nat} : IsName ⟨#[b0, b1]⟩ c r ↔ c < 9 ∧ r < 26 ∧ (b0.toNat : Int) = 65 + r ∧ (b1.toNat : Int) = 49 + c := by
  unfold IsName
  constructor
  · rintro ⟨hc, hr, h⟩
    have h1 := congrArg (fun s => s.data.toList) h
    simp only [strOfNums_data] at h1
    unfold nameL decL at h1
    by_cases e : c + 1 < 10
    · rw [if_pos e] at h1
      simp only [List.map_cons, List.map_nil, List.cons.injEq, and_true] at h1
      have a := (byte_eq (by omega) (by omega)).1 h1.1
      have b := (byte_eq (by omega) (by omega)).1 h1.2
      omega
    · rw [if_neg e] at h1
      have := congrArg List.length h1
      simp at this
  · rintro ⟨hc, hr, h0, h1⟩
    refine ⟨by omega, hr, ?_⟩
    unfold nameL decL
    rw [if_pos (by omega)]
    apply ByteArray.ext
    apply Array.toList_inj.1
    rw [strOfNums_data]
    simp only [List.map_cons, List.map_nil]
    rw [← (byte_eq (b := b0) (by omega) (by omega)).2 h0, ← (byte_eq (b := b1) (x := 48 + ((c + 1 : Nat) : Int)) (by omega) (by omega)).2 (by omega)]
theorem is3 {b0 b1 b2 : UInt8} {c r : Nat} : IsName ⟨#[b0, b1, b2]⟩ c r ↔ 9 ≤ c ∧ c < 26 ∧ r < 26 ∧ (b0.toNat : Int) = 65 + r ∧ (b1.toNat : Int) = 48 + ((c + 1) / 10 : Nat) ∧ (b2.toNat : Int) = 48 + ((c + 1) % 10 : Nat) := by
  unfold IsName
  constructor
  · rintro ⟨hc, hr, h⟩
    have h1 := congrArg (fun s => s.data.toList) h
    simp only [strOfNums_data] at h1
    unfold nameL decL at h1
    by_cases e : c + 1 < 10
    · rw [if_pos e] at h1
      have := congrArg List.length h1
      simp at this
    · rw [if_neg e] at h1
      simp only [List.map_cons, List.map_nil, List.cons.injEq, and_true] at h1
      have a := (byte_eq (by omega) (by omega)).1 h1.1
      have b := (byte_eq (by omega) (by omega)).1 h1.2.1
      have d := (byte_eq (by omega) (by omega)).1 h1.2.2
      omega
  · rintro ⟨hc, hc2, hr, h0, h1, h2⟩
    refine ⟨by omega, hr, ?_⟩
    unfold nameL decL
    rw [if_neg (by omega)]
    apply ByteArray.ext
    apply Array.toList_inj.1
    rw [strOfNums_data]
    simp only [List.map_cons, List.map_nil]
    rw [← (byte_eq (b := b0) (by omega) (by omega)).2 h0, ← (byte_eq (b := b1) (by omega) (by omega)).2 h1, ← (byte_eq (b := b2) (by omega) (by omega)).2 h2]
theorem is_size {S : ByteArray} {c r : Nat} (h : IsName S c r) : S.size = 2 ∨ S.size = 3 := by
  rw [h.2.2, strOfNums_size]
  unfold nameL decL
  split <;> simp
theorem below3 (w : World) (o1 o2 o3 : Obj) : Below w.heap.size w (((w.alloc o1).alloc o2).alloc o3) := by
  have b1 := Below.alloc (Below.refl w.heap.size w) (Nat.le_refl _) o1
  have b2 := Below.alloc b1 b1.size o2
  exact Below.alloc b2 b2.size o3
set_option maxHeartbeats 400000 in
theorem named2 (b0 b1 : UInt8) (w : World) :
    Calls Try.prog 23 #[.string ⟨#[b0, b1]⟩] w (Named ⟨#[b0, b1]⟩ w) := by
  have g0 : ((ByteArray.mk #[b0, b1])[0]'(by show 0 < 2; omega)).toNat = b0.toNat := rfl
  have g1 : ((ByteArray.mk #[b0, b1])[1]'(by show 1 < 2; omega)).toNat = b1.toNat := rfl
  have y0 := b0.toNat_lt
  have y1 := b1.toNat_lt
  obtain ⟨x0, hx0⟩ : ∃ x, x = b0.toNat := ⟨_, rfl⟩
  obtain ⟨x1, hx1⟩ : ∃ x, x = b1.toNat := ⟨_, rfl⟩
  rw [← hx0] at g0 y0
  rw [← hx1] at g1 y1
  have HX0 := Lib.hid hx0
  have HX1 := Lib.hid hx1
  clear hx0 hx1
  have HI := Lib.hid (fun c r => @is2 b0 b1 c r)
  rw [← HX0.out, ← HX1.out] at HI
  clear HX0 HX1
  by_cases h48 : x1 = 48
  · have e1 : ((x1 : Int) == 48) = true := by simp; omega
    have HNo := Lib.hid (show NoName ⟨#[b0, b1]⟩ from fun c r h => by have := (HI.out c r).1 h; omega)
    clear h48 HI
    go_enter Try.func23, Try.ntmps23
    go_wp2
    (try simp only [Exit.inBlock, Exit.then])
    refine bodyPost_ret (v := .tuple #[.agg #[.int .i64 0, .int .i64 0], .bool false]) ?_ rfl ⟨.inr ⟨HNo.out, rfl⟩, Below.alloc (Below.refl _ _) (Nat.le_refl _) _⟩
    rw [results_cell_tmp rfl]
    go_simp
  · have e1 : ((x1 : Int) == 48) = false := by simp; omega
    by_cases hd : 48 ≤ x1 ∧ x1 ≤ 57
    · obtain ⟨d1, d2⟩ := hd
      go_enter Try.func23, Try.ntmps23
      go_wp2
      go_loop [4, 5] (fun num i => (i = .int .i64 1 ∧ num = .int .i64 0) ∨ (i = .int .i64 2 ∧ num = .int .i64 ((x1 : Int) - 48))) (fun _ i => (2 - intOf i).toNat)
      case atStart => exact .inl ⟨rfl, rfl⟩
      case round =>
        rcases hrel with ⟨rfl, rfl⟩ | ⟨rfl, rfl⟩
        · go_wp2
          go_round
          case rel => exact .inr ⟨rfl, by go_num⟩
          case measure => simp [intOf]
        · by_cases hr : 65 ≤ x0 ∧ x0 ≤ 90
          · obtain ⟨r1, r2⟩ := hr
            have HY := Lib.hid (show IsName ⟨#[b0, b1]⟩ (x1 - 49) (x0 - 65) from (HI.out _ _).2 (by omega))
            have HT := Lib.hid (fun wx => there_yes ((x0 : Int) - 65) ((x1 : Int) - 48 - 1) wx (by omega) (by omega) (by omega) (by omega))
            clear HI
            go_wp2_with (go_at_call 37; refine (HT.out _).mono ?_; rintro e w' ⟨rfl, rfl⟩)
            (try simp only [Exit.inBlock, Exit.then])
            refine bodyPost_ret (v := .tuple #[.agg #[.int .i64 ((x0 : Int) - 65), .int .i64 ((x1 : Int) - 48 - 1)], .bool true]) ?_ rfl ⟨.inl ⟨x1 - 49, x0 - 65, HY.out, ?_⟩, ?_⟩
            · rw [results_cell_tmp rfl]
              go_simp
            · have a1 : ((x0 - 65 : Nat) : Int) = (x0 : Int) - 65 := by omega
              have a2 : ((x1 - 49 : Nat) : Int) = (x1 : Int) - 48 - 1 := by omega
              rw [a1, a2]
            · exact below3 _ _ _ _
          · have HNo := Lib.hid (show NoName ⟨#[b0, b1]⟩ from fun c r h => by have := (HI.out c r).1 h; omega)
            have HT := Lib.hid (fun wx => there_no ((x0 : Int) - 65) ((x1 : Int) - 48 - 1) wx (by omega))
            clear HI hr
            go_wp2_with (go_at_call 37; refine (HT.out _).mono ?_; rintro e w' ⟨rfl, rfl⟩)
            (try simp only [Exit.inBlock, Exit.then])
            refine bodyPost_ret (v := .tuple #[.agg #[.int .i64 0, .int .i64 0], .bool false]) ?_ rfl ⟨.inr ⟨HNo.out, rfl⟩, ?_⟩
            · rw [results_cell_tmp rfl]
              go_simp
            · exact below3 _ _ _ _
    · have HNo := Lib.hid (show NoName ⟨#[b0, b1]⟩ from fun c r h => by have := (HI.out c r).1 h; omega)
      clear HI
      go_enter Try.func23, Try.ntmps23
      go_wp2
      go_loop [4, 5] (fun num i => i = .int .i64 1 ∧ num = .int .i64 0) (fun _ i => (2 - intOf i).toNat)
      case atStart => exact ⟨rfl, rfl⟩
      case round =>
        obtain ⟨rfl, rfl⟩ := hrel
        go_wp2
        all_goals
          (try simp only [Exit.inBlock, Exit.then])
          refine bodyPost_ret (v := .tuple #[.agg #[.int .i64 0, .int .i64 0], .bool false]) ?_ rfl ⟨.inr ⟨HNo.out, rfl⟩, Below.alloc (Below.refl _ _) (Nat.le_refl _) _⟩
          rw [results_cell_tmp rfl]
          go_simp

set_option maxHeartbeats 400000 in
theorem named3 (b0 b1 b2 : UInt8) (w : World) :
    Calls Try.prog 23 #[.string ⟨#[b0, b1, b2]⟩] w (Named ⟨#[b0, b1, b2]⟩ w) := by
  have g0 : ((ByteArray.mk #[b0, b1, b2])[0]'(by show 0 < 3; omega)).toNat = b0.toNat := rfl
  have g1 : ((ByteArray.mk #[b0, b1, b2])[1]'(by show 1 < 3; omega)).toNat = b1.toNat := rfl
  have g2 : ((ByteArray.mk #[b0, b1, b2])[2]'(by show 2 < 3; omega)).toNat = b2.toNat := rfl
  have y0 := b0.toNat_lt
  have y2 := b2.toNat_lt
  have y1 := b1.toNat_lt
  obtain ⟨x0, hx0⟩ : ∃ x, x = b0.toNat := ⟨_, rfl⟩
  obtain ⟨x1, hx1⟩ : ∃ x, x = b1.toNat := ⟨_, rfl⟩
  obtain ⟨x2, hx2⟩ : ∃ x, x = b2.toNat := ⟨_, rfl⟩
  rw [← hx0] at g0 y0
  rw [← hx2] at g2 y2
  rw [← hx1] at g1 y1
  have HX0 := Lib.hid hx0
  have HX1 := Lib.hid hx1
  have HX2 := Lib.hid hx2
  clear hx0 hx1 hx2
  have HI := Lib.hid (fun c r => @is3 b0 b1 b2 c r)
  rw [← HX0.out, ← HX1.out, ← HX2.out] at HI
  clear HX0 HX1 HX2
  by_cases h48 : x1 = 48
  · have e1 : ((x1 : Int) == 48) = true := by simp; omega
    have HNo := Lib.hid (show NoName ⟨#[b0, b1, b2]⟩ from fun c r h => by have := (HI.out c r).1 h; omega)
    clear h48 HI
    go_enter Try.func23, Try.ntmps23
    go_wp2
    (try simp only [Exit.inBlock, Exit.then])
    refine bodyPost_ret (v := .tuple #[.agg #[.int .i64 0, .int .i64 0], .bool false]) ?_ rfl ⟨.inr ⟨HNo.out, rfl⟩, Below.alloc (Below.refl _ _) (Nat.le_refl _) _⟩
    rw [results_cell_tmp rfl]
    go_simp
  · have e1 : ((x1 : Int) == 48) = false := by simp; omega
    by_cases hd : 48 ≤ x1 ∧ x1 ≤ 57
    · obtain ⟨d1, d2⟩ := hd
      by_cases hd2 : 48 ≤ x2 ∧ x2 ≤ 57
      · obtain ⟨d3, d4⟩ := hd2
        go_enter Try.func23, Try.ntmps23
        go_wp2
        go_loop [4, 5] (fun num i => (i = .int .i64 1 ∧ num = .int .i64 0) ∨ (i = .int .i64 2 ∧ num = .int .i64 ((x1 : Int) - 48)) ∨ (i = .int .i64 3 ∧ num = .int .i64 (10 * ((x1 : Int) - 48) + ((x2 : Int) - 48)))) (fun _ i => (3 - intOf i).toNat)
        case atStart => exact .inl ⟨rfl, rfl⟩
        case round =>
          rcases hrel with ⟨rfl, rfl⟩ | ⟨rfl, rfl⟩ | ⟨rfl, rfl⟩
          · go_wp2
            go_round
            case rel => exact .inr (.inl ⟨rfl, by go_num⟩)
            case measure => simp [intOf]
          · go_wp2
            go_round
            case rel => exact .inr (.inr ⟨rfl, by go_num⟩)
            case measure => simp [intOf]
          · by_cases hr : 65 ≤ x0 ∧ x0 ≤ 90 ∧ 10 * (x1 - 48) + (x2 - 48) ≤ 26
            · obtain ⟨r1, r2, r3⟩ := hr
              have HY := Lib.hid (show IsName ⟨#[b0, b1, b2]⟩ (10 * (x1 - 48) + (x2 - 48) - 1) (x0 - 65) from (HI.out _ _).2 (by omega))
              have HT := Lib.hid (fun wx => there_yes ((x0 : Int) - 65) (10 * ((x1 : Int) - 48) + ((x2 : Int) - 48) - 1) wx (by omega) (by omega) (by omega) (by omega))
              clear HI
              go_wp2_with (go_at_call 37; refine (HT.out _).mono ?_; rintro e w' ⟨rfl, rfl⟩)
              (try simp only [Exit.inBlock, Exit.then])
              refine bodyPost_ret (v := .tuple #[.agg #[.int .i64 ((x0 : Int) - 65), .int .i64 (10 * ((x1 : Int) - 48) + ((x2 : Int) - 48) - 1)], .bool true]) ?_ rfl ⟨.inl ⟨10 * (x1 - 48) + (x2 - 48) - 1, x0 - 65, HY.out, ?_⟩, ?_⟩
              · rw [results_cell_tmp rfl]
                go_simp
              · have a1 : ((x0 - 65 : Nat) : Int) = (x0 : Int) - 65 := by omega
                have a2 : ((10 * (x1 - 48) + (x2 - 48) - 1 : Nat) : Int) = 10 * ((x1 : Int) - 48) + ((x2 : Int) - 48) - 1 := by omega
                rw [a1, a2]
              · exact below3 _ _ _ _
            · have HNo := Lib.hid (show NoName ⟨#[b0, b1, b2]⟩ from fun c r h => by have := (HI.out c r).1 h; omega)
              have HT := Lib.hid (fun wx => there_no ((x0 : Int) - 65) (10 * ((x1 : Int) - 48) + ((x2 : Int) - 48) - 1) wx (by omega))
              clear HI hr
              go_wp2_with (go_at_call 37; refine (HT.out _).mono ?_; rintro e w' ⟨rfl, rfl⟩)
              (try simp only [Exit.inBlock, Exit.then])
              refine bodyPost_ret (v := .tuple #[.agg #[.int .i64 0, .int .i64 0], .bool false]) ?_ rfl ⟨.inr ⟨HNo.out, rfl⟩, ?_⟩
              · rw [results_cell_tmp rfl]
                go_simp
              · exact below3 _ _ _ _
      · have HNo := Lib.hid (show NoName ⟨#[b0, b1, b2]⟩ from fun c r h => by have := (HI.out c r).1 h; omega)
        clear HI
        go_enter Try.func23, Try.ntmps23
        go_wp2
        go_loop [4, 5] (fun num i => (i = .int .i64 1 ∧ num = .int .i64 0) ∨ (i = .int .i64 2 ∧ num = .int .i64 ((x1 : Int) - 48))) (fun _ i => (3 - intOf i).toNat)
        case atStart => exact .inl ⟨rfl, rfl⟩
        case round =>
          rcases hrel with ⟨rfl, rfl⟩ | ⟨rfl, rfl⟩
          · go_wp2
            go_round
            case rel => exact .inr ⟨rfl, by go_num⟩
            case measure => simp [intOf]
          · go_wp2
            all_goals
              (try simp only [Exit.inBlock, Exit.then])
              refine bodyPost_ret (v := .tuple #[.agg #[.int .i64 0, .int .i64 0], .bool false]) ?_ rfl ⟨.inr ⟨HNo.out, rfl⟩, Below.alloc (Below.refl _ _) (Nat.le_refl _) _⟩
              rw [results_cell_tmp rfl]
              go_simp
    · have HNo := Lib.hid (show NoName ⟨#[b0, b1, b2]⟩ from fun c r h => by have := (HI.out c r).1 h; omega)
      clear HI
      go_enter Try.func23, Try.ntmps23
      go_wp2
      go_loop [4, 5] (fun num i => i = .int .i64 1 ∧ num = .int .i64 0) (fun _ i => (2 - intOf i).toNat)
      case atStart => exact ⟨rfl, rfl⟩
      case round =>
        obtain ⟨rfl, rfl⟩ := hrel
        go_wp2
        all_goals
          (try simp only [Exit.inBlock, Exit.then])
          refine bodyPost_ret (v := .tuple #[.agg #[.int .i64 0, .int .i64 0], .bool false]) ?_ rfl ⟨.inr ⟨HNo.out, rfl⟩, Below.alloc (Below.refl _ _) (Nat.le_refl _) _⟩
          rw [results_cell_tmp rfl]
          go_simp

set_option maxHeartbeats 400000 in
theorem named_size (S : ByteArray) (n : Nat) (w : World) (hn : S.size = n) (h : n < 2 ∨ 3 < n) :
    Calls Try.prog 23 #[.string S] w (Named S w) := by
  have HNo := Lib.hid (show NoName S from fun c r hh => by have := is_size hh; omega)
  by_cases h2 : n < 2
  · have e1 : ((n : Int) < 2) := by omega
    have e2 : n < 2 := h2
    clear h
    go_enter Try.func23, Try.ntmps23
    go_wp2
    (try simp only [Exit.inBlock, Exit.then])
    refine bodyPost_ret (v := .tuple #[.agg #[.int .i64 0, .int .i64 0], .bool false]) ?_ rfl ⟨.inr ⟨HNo.out, rfl⟩, Below.alloc (Below.refl _ _) (Nat.le_refl _) _⟩
    rw [results_cell_tmp rfl]
    go_simp
  · have e1 : ¬ ((n : Int) < 2) := by omega
    have e3 : (3 : Int) < (n : Int) := by omega
    clear h
    go_enter Try.func23, Try.ntmps23
    go_wp2
    (try simp only [Exit.inBlock, Exit.then])
    refine bodyPost_ret (v := .tuple #[.agg #[.int .i64 0, .int .i64 0], .bool false]) ?_ rfl ⟨.inr ⟨HNo.out, rfl⟩, Below.alloc (Below.refl _ _) (Nat.le_refl _) _⟩
    rw [results_cell_tmp rfl]
    go_simp
theorem named_any (S : ByteArray) (w : World) :
    Calls Try.prog 23 #[.string S] w (Named S w) := by
  obtain ⟨⟨l⟩⟩ := S
  rcases l with _ | ⟨b0, _ | ⟨b1, _ | ⟨b2, _ | ⟨b3, t⟩⟩⟩⟩
  · exact named_size _ 0 w rfl (by omega)
  · exact named_size _ 1 w rfl (by omega)
  · exact named2 b0 b1 w
  · exact named3 b0 b1 b2 w
  · exact named_size _ (t.length + 4) w (by simp [ByteArray.size]) (by omega)

end Go.Proofs.Ytlmigoplffdpiaa
