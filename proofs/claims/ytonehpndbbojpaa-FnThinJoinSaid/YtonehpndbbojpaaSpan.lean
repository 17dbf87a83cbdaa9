/- Contracts: pointError, spanError, isError; l6hError, l6hMost. -/
import Derived.Test.YtonehpndbbojpaaValid
import Derived.Test.YtonehpndbbojpaaPlainT
import Derived.Test.YtonehpndbbojpaaBase
import Derived.IntWalk
namespace Go.Proofs.Ytonehpndbbojpaa
open Go.RowKit

theorem iserr_any (n : Int) (w : World) : Calls Try.prog 58 #[.int .i64 n] w fun e w' => e = .returned (.bool (errB n)) ∧ w = w' := by
  go_enter Try.func58, Try.ntmps58
  go_wp2
  all_goals
    go_ret
    refine ⟨ret_bool ?_, rfl⟩
    rw [Bool.eq_iff_iff]
    simp [errB, inB]
    first | done | omega

theorem perr_any (v : Value) (p : List Int) (i j k : Nat) (w : World) (hr : Row w v p) (hv : validB p = true) (hij : i < j) (hjk : j < k) (hk : k < p.length) :
    Calls Try.prog 68 #[v, .int .i64 i, .int .i64 j, .int .i64 k] w fun e w' => e = .returned (.int .i64 (errV p i j k)) ∧ ∃ q, w' = w.drewN q := by
  have hl := valid_len hv
  have hx := valid_ht' hv i
  have hy := valid_ht' hv j
  have hz := valid_ht' hv k
  have hoff := off_bd hv (Nat.le_of_lt hij) (Nat.le_of_lt hjk)
  have HE := Lib.hid (show errV p i j k = (max (offV p i j k) (-(offV p i j k)) + k - i - 1) / ((k : Int) - i) from rfl)
  have ho : offV p i j k = p.getD j 0 * ((k : Int) - i) - p.getD i 0 * ((k : Int) - j) - p.getD k 0 * ((j : Int) - i) := rfl
  rw [ho] at HE hoff
  clear ho
  obtain ⟨a, cap, rfl⟩ := hr.shape
  obtain ⟨-, hc⟩ := hr.cells
  obtain ⟨n, hN⟩ : ∃ n, n = p.length := ⟨_, rfl⟩
  rw [← hN] at hc hl hk ⊢
  obtain ⟨b, off, rfl, hci⟩ := hc i (by omega)
  obtain ⟨b', off', he, hcj⟩ := hc j (by omega)
  simp only [Option.some.injEq, Addr.mk.injEq, and_true] at he
  obtain ⟨rfl, rfl⟩ := he
  obtain ⟨b', off', he, hck⟩ := hc k (by omega)
  simp only [Option.some.injEq, Addr.mk.injEq, and_true] at he
  obtain ⟨rfl, rfl⟩ := he
  obtain ⟨x, hX⟩ : ∃ x, x = p.getD i 0 := ⟨_, rfl⟩
  obtain ⟨y, hY⟩ : ∃ y, y = p.getD j 0 := ⟨_, rfl⟩
  obtain ⟨z, hZ⟩ : ∃ z, z = p.getD k 0 := ⟨_, rfl⟩
  rw [← hX] at hci hx HE hoff
  rw [← hY] at hcj hy HE hoff
  rw [← hZ] at hck hz HE hoff
  obtain ⟨l1, l2⟩ := hl
  obtain ⟨x0, x1⟩ := hx
  obtain ⟨y0, y1⟩ := hy
  obtain ⟨z0, z1⟩ := hz
  clear hr hc hN hX hY hZ hv
  obtain ⟨a0, a1⟩ := prod_bd (y := (k : Int) - j) x0 x1 (by omega) (show (k : Int) - j ≤ 20 by omega)
  obtain ⟨b0, b1⟩ := prod_bd (y := (k : Int) - i) y0 y1 (by omega) (show (k : Int) - i ≤ 20 by omega)
  obtain ⟨c0, c1⟩ := prod_bd (y := (j : Int) - i) z0 z1 (by omega) (show (j : Int) - i ≤ 20 by omega)
  rw [Int.mul_comm y] at HE hoff b0 b1
  obtain ⟨o0, o1⟩ := hoff
  go_enter Try.func68, Try.ntmps68
  go_wp2
  go_quiet (fail)
  go_wp2
  · go_ret
    exact ⟨ret_int (by rw [HE.out, Int.max_eq_right (by omega)]), nq, rfl⟩
  · go_ret
    exact ⟨ret_int (by rw [HE.out, Int.max_eq_left (by omega)]), nq, rfl⟩

theorem serr_any (v : Value) (p : List Int) (i j k : Nat) (w : World) (hr : Row w v p) (hv : validB p = true) (hij : i < j) (hjk : j < k) (hk : k < p.length) :
    Calls Try.prog 69 #[v, .int .i64 i, .int .i64 j, .int .i64 k] w fun e w' => e = .returned (.int .i64 (errV p i j k)) ∧ ∃ q, w' = w.drewN q := by
  have hl := valid_len hv
  have hx := valid_ht' hv i
  have hy := valid_ht' hv j
  have hz := valid_ht' hv k
  have hoff := off_bd hv (Nat.le_of_lt hij) (Nat.le_of_lt hjk)
  have HE := Lib.hid (show errV p i j k = (max (offV p i j k) (-(offV p i j k)) + k - i - 1) / ((k : Int) - i) from rfl)
  have ho : offV p i j k = p.getD j 0 * ((k : Int) - i) - p.getD i 0 * ((k : Int) - j) - p.getD k 0 * ((j : Int) - i) := rfl
  rw [ho] at HE hoff
  clear ho
  obtain ⟨a, cap, rfl⟩ := hr.shape
  obtain ⟨-, hc⟩ := hr.cells
  obtain ⟨n, hN⟩ : ∃ n, n = p.length := ⟨_, rfl⟩
  rw [← hN] at hc hl hk ⊢
  obtain ⟨b, off, rfl, hci⟩ := hc i (by omega)
  obtain ⟨b', off', he, hcj⟩ := hc j (by omega)
  simp only [Option.some.injEq, Addr.mk.injEq, and_true] at he
  obtain ⟨rfl, rfl⟩ := he
  obtain ⟨b', off', he, hck⟩ := hc k (by omega)
  simp only [Option.some.injEq, Addr.mk.injEq, and_true] at he
  obtain ⟨rfl, rfl⟩ := he
  obtain ⟨x, hX⟩ : ∃ x, x = p.getD i 0 := ⟨_, rfl⟩
  obtain ⟨y, hY⟩ : ∃ y, y = p.getD j 0 := ⟨_, rfl⟩
  obtain ⟨z, hZ⟩ : ∃ z, z = p.getD k 0 := ⟨_, rfl⟩
  rw [← hX] at hci hx HE hoff
  rw [← hY] at hcj hy HE hoff
  rw [← hZ] at hck hz HE hoff
  obtain ⟨l1, l2⟩ := hl
  obtain ⟨x0, x1⟩ := hx
  obtain ⟨y0, y1⟩ := hy
  obtain ⟨z0, z1⟩ := hz
  clear hr hc hN hX hY hZ hv
  obtain ⟨a0, a1⟩ := prod_bd (y := (k : Int) - j) x0 x1 (by omega) (show (k : Int) - j ≤ 20 by omega)
  obtain ⟨b0, b1⟩ := prod_bd (y := (k : Int) - i) y0 y1 (by omega) (show (k : Int) - i ≤ 20 by omega)
  obtain ⟨c0, c1⟩ := prod_bd (y := (j : Int) - i) z0 z1 (by omega) (show (j : Int) - i ≤ 20 by omega)
  obtain ⟨o0, o1⟩ := hoff
  go_enter Try.func69, Try.ntmps69
  go_wp2
  go_quiet (fail)
  go_wp2
  · go_ret
    exact ⟨ret_int (by rw [HE.out, Int.max_eq_right (by omega)]), nq, rfl⟩
  · go_ret
    exact ⟨ret_int (by rw [HE.out, Int.max_eq_left (by omega)]), nq, rfl⟩

theorem span_any (v : Value) (p : List Int) (i k : Nat) (w : World) (hr : Row w v p) (hv : validB p = true) (hik : i ≤ k) (hk : k < p.length) :
    Calls Try.prog 57 #[v, .int .i64 i, .int .i64 k] w fun e w' => e = .returned (.int .i64 (spanV p i k)) ∧ ∃ q, w' = w.drewN q := by
  have HG := Lib.hid (fun (m q : Nat) (hm : i + 1 + m < k) => perr_any v p i (i + 1 + m) k (w.drewN q) (hr.drewN q) hv (by omega) hm hk)
  have HE := Lib.hid (fun (m : Nat) (hm : i + 1 + m < k) => err_bd hv (i := i) (j := i + 1 + m) (k := k) (by omega) (by omega) (by omega))
  have HR := Lib.hid (fun (m : Nat) (hm : i + m < k) => spanR_bd hv (i := i) (k := k) (m := m) hm)
  have HS := Lib.hid (show ∀ m, spanR p i k (m + 1) = max (spanR p i k m) (errV p i (i + 1 + m) k) from fun _ => rfl)
  have HV := Lib.hid (show spanV p i k = spanR p i k (k - i - 1) from rfl)
  have hl := valid_len hv
  have hk2 : k ≤ 20 := by omega
  clear hr hv hl hk
  go_enter Try.func57, Try.ntmps57
  go_wp2
  go_loopw [7, 8] (fun s j wr => ∃ m : Nat, (i + m < k ∨ m = 0) ∧ j = .int .i64 (i + 1 + m : Nat) ∧ s = .int .i64 (spanR p i k m) ∧ ∃ q, wr = w.drewN q) (fun _ j _ => k - (intOf j).toNat)
  case atStart => exact ⟨0, .inr rfl, by go_num, rfl, 0, rfl⟩
  case round =>
    obtain ⟨m, hm, rfl, rfl, q, rfl⟩ := hrel
    by_cases hlt : i + 1 + m < k
    · have G := Lib.hid (HG.out m q hlt)
      have S := Lib.hid (HS.out m)
      obtain ⟨e0, e1⟩ := HE.out m hlt
      obtain ⟨r0, r1⟩ := HR.out m (by omega)
      obtain ⟨E, hE⟩ : ∃ E, E = errV p i (i + 1 + m) k := ⟨_, rfl⟩
      obtain ⟨R, hR⟩ : ∃ R, R = spanR p i k m := ⟨_, rfl⟩
      rw [← hE] at G S e0 e1
      rw [← hR] at S r0 r1 ⊢
      clear hE hR
      obtain ⟨t, ht⟩ : ∃ t, t = i + 1 + m := ⟨_, rfl⟩
      rw [← ht] at G hlt ⊢
      have HT := Lib.hid ht
      clear ht hm
      go_wp2_with (go_at_call 68; refine G.out.mono ?_; rintro e w2 ⟨rfl, q2, rfl⟩)
      all_goals
        go_roundw
        case rel => exact ⟨m + 1, .inl (by have := HT.out; omega), by rw [show i + 1 + (m + 1) = t + 1 by have := HT.out; omega]; go_num, val_int (by rw [S.out]; omega), q + q2, by simp⟩
        case measure => simp [intOf]; omega
    · have HF := Lib.hid (show spanV p i k = spanR p i k m by
        rw [HV.out]; congr 1; omega)
      go_wp2
      go_ret
      exact ⟨ret_int HF.out.symm, q, rfl⟩

theorem sspan_any (v : Value) (p : List Int) (i k : Nat) (w : World) (hr : Row w v p) (hv : validB p = true) (hik : i ≤ k) (hk : k < p.length) :
    Calls Try.prog 59 #[v, .int .i64 i, .int .i64 k] w fun e w' => e = .returned (.int .i64 (spanV p i k)) ∧ ∃ q, w' = w.drewN q := by
  have HG := Lib.hid (fun (m q : Nat) (hm : i + 1 + m < k) => serr_any v p i (i + 1 + m) k (w.drewN q) (hr.drewN q) hv (by omega) hm hk)
  have HE := Lib.hid (fun (m : Nat) (hm : i + 1 + m < k) => err_bd hv (i := i) (j := i + 1 + m) (k := k) (by omega) (by omega) (by omega))
  have HR := Lib.hid (fun (m : Nat) (hm : i + m < k) => spanR_bd hv (i := i) (k := k) (m := m) hm)
  have HS := Lib.hid (show ∀ m, spanR p i k (m + 1) = max (spanR p i k m) (errV p i (i + 1 + m) k) from fun _ => rfl)
  have HV := Lib.hid (show spanV p i k = spanR p i k (k - i - 1) from rfl)
  have hl := valid_len hv
  have hk2 : k ≤ 20 := by omega
  clear hr hv hl hk
  go_enter Try.func59, Try.ntmps59
  go_wp2
  go_loopw [7, 8] (fun s j wr => ∃ m : Nat, (i + m < k ∨ m = 0) ∧ j = .int .i64 (i + 1 + m : Nat) ∧ s = .int .i64 (spanR p i k m) ∧ ∃ q, wr = w.drewN q) (fun _ j _ => k - (intOf j).toNat)
  case atStart => exact ⟨0, .inr rfl, by go_num, rfl, 0, rfl⟩
  case round =>
    obtain ⟨m, hm, rfl, rfl, q, rfl⟩ := hrel
    by_cases hlt : i + 1 + m < k
    · have G := Lib.hid (HG.out m q hlt)
      have S := Lib.hid (HS.out m)
      obtain ⟨e0, e1⟩ := HE.out m hlt
      obtain ⟨r0, r1⟩ := HR.out m (by omega)
      obtain ⟨E, hE⟩ : ∃ E, E = errV p i (i + 1 + m) k := ⟨_, rfl⟩
      obtain ⟨R, hR⟩ : ∃ R, R = spanR p i k m := ⟨_, rfl⟩
      rw [← hE] at G S e0 e1
      rw [← hR] at S r0 r1 ⊢
      clear hE hR
      obtain ⟨t, ht⟩ : ∃ t, t = i + 1 + m := ⟨_, rfl⟩
      rw [← ht] at G hlt ⊢
      have HT := Lib.hid ht
      clear ht hm
      go_wp2_with (go_at_call 69; refine G.out.mono ?_; rintro e w2 ⟨rfl, q2, rfl⟩)
      all_goals
        go_roundw
        case rel => exact ⟨m + 1, .inl (by have := HT.out; omega), by rw [show i + 1 + (m + 1) = t + 1 by have := HT.out; omega]; go_num, val_int (by rw [S.out]; omega), q + q2, by simp⟩
        case measure => simp [intOf]; omega
    · have HF := Lib.hid (show spanV p i k = spanR p i k m by
        rw [HV.out]; congr 1; omega)
      go_wp2
      go_ret
      exact ⟨ret_int HF.out.symm, q, rfl⟩

end Go.Proofs.Ytonehpndbbojpaa
