/- Contracts: l6In, isHeight, ProfileValid of the program and of the reference. -/
import Derived.Test.YtjpcbegndnbeeaaRows
import Derived.Test.YtjpcbegndnbeeaaMem
import Derived.Test.YtjpcbegndnbeeaaPlain
import Derived.Outline
import Derived.Deep.QuietTactic
import Derived.BigQuiet
namespace Go.Proofs.Ytjpcbegndnbeeaa
open Go.RowKit

theorem in_any (n lo hi : Int) (w : World) :
    Calls Try.prog 45 #[.int .i64 n, .int .i64 lo, .int .i64 hi] w fun e w' => e = .returned (.bool (inB n lo hi)) ∧ w = w' := by
  go_enter Try.func45, Try.ntmps45
  go_wp2
  all_goals
    go_ret
    refine ⟨ret_bool ?_, rfl⟩
    rw [Bool.eq_iff_iff]
    simp [inB]
    first | done | omega

theorem height_any (n : Int) (w : World) :
    Calls Try.prog 47 #[.int .i64 n] w fun e w' => e = .returned (.bool (htB n)) ∧ w = w' := by
  go_enter Try.func47, Try.ntmps47
  go_wp2
  all_goals
    go_ret
    refine ⟨ret_bool ?_, rfl⟩
    rw [Bool.eq_iff_iff]
    simp [htB, inB]
    first | done | omega

theorem ivalid_any (v : Value) (p : List Int) (w : World) (hr : Row w v p) (hn : p.length ≤ 1099511627776) :
    Calls Try.prog 41 #[v] w fun e w' => e = .returned (.bool (validB p)) ∧ w = w' := by
  obtain ⟨a, cap, rfl⟩ := hr.shape
  obtain ⟨-, hc⟩ := hr.cells
  obtain ⟨n, hN⟩ : ∃ n, n = p.length := ⟨_, rfl⟩
  rw [← hN] at hc hn ⊢
  have HN := Lib.hid hN; clear hN
  have HC := Lib.hid hc; clear hc hr
  by_cases h1 : n < 1
  · have H := Lib.hid (show validB p = false by simp [validB, inB, ← HN.out]; omega)
    go_enter Try.func41, Try.ntmps41
    go_wp2
    go_ret
    exact ⟨ret_bool H.out.symm, rfl⟩
  · by_cases h2 : 20 < n
    · have H := Lib.hid (show validB p = false by simp [validB, inB, ← HN.out]; omega)
      go_enter Try.func41, Try.ntmps41
      go_wp2
      go_ret
      exact ⟨ret_bool H.out.symm, rfl⟩
    · have HI := Lib.hid (show inB p.length 1 20 = true by simp [inB, ← HN.out]; omega)
      go_enter Try.func41, Try.ntmps41
      go_wp2
      go_loop [15] (fun i => ∃ k : Nat, k ≤ n ∧ i = .int .i64 k ∧ (p.take k).all htB = true) (fun i => n - (intOf i).toNat)
      case atStart => exact ⟨0, Nat.zero_le _, rfl, by simp⟩
      case round =>
        obtain ⟨k, hk, rfl, ha⟩ := hrel
        have HA := Lib.hid ha; clear ha
        by_cases hlt : k < n
        · obtain ⟨b, off, rfl, hcell⟩ := HC.out k hlt
          obtain ⟨x, hx⟩ : ∃ x, x = p.getD k 0 := ⟨_, rfl⟩
          rw [← hx] at hcell
          have HX := Lib.hid hx; clear hx
          cases hh : htB x
          · have H := Lib.hid (show validB p = false by simp only [validB]; rw [all_false_of htB p k (by have := HN.out; omega) (by rw [← HX.out]; exact hh)]; simp)
            go_wp2_with (go_at_call 47; refine (height_any _ _).mono ?_; rintro e w' ⟨rfl, rfl⟩)
            go_ret
            exact ⟨ret_bool H.out.symm, rfl⟩
          · have HH := Lib.hid hh
            go_wp2_with (go_at_call 47; refine (height_any _ _).mono ?_; rintro e w' ⟨rfl, rfl⟩)
            go_round
            case rel => exact ⟨k + 1, by omega, by go_num, all_take_step htB p k (by have := HN.out; omega) HA.out (by rw [← HX.out]; exact HH.out)⟩
            case measure => simp [intOf]; omega
        · have H := Lib.hid (show validB p = true by
            have h := HA.out
            rw [List.take_of_length_le (by have := HN.out; omega)] at h
            simp only [validB, HI.out, h, Bool.and_true])
          go_wp2
          go_ret
          exact ⟨ret_bool H.out.symm, rfl⟩

theorem svalid_any (v : Value) (p : List Int) (w : World) (hr : Row w v p) (hn : p.length ≤ 1099511627776) :
    Calls Try.prog 49 #[v] w fun e w' => e = .returned (.bool (validB p)) ∧ w = w' := by
  obtain ⟨a, cap, rfl⟩ := hr.shape
  obtain ⟨-, hc⟩ := hr.cells
  obtain ⟨n, hN⟩ : ∃ n, n = p.length := ⟨_, rfl⟩
  rw [← hN] at hc hn ⊢
  have HN := Lib.hid hN; clear hN
  have HC := Lib.hid hc; clear hc hr
  go_enter Try.func49, Try.ntmps49
  go_wp2
  go_loop [3] (fun i => ∃ k : Nat, k ≤ n ∧ i = .int .i64 k ∧ (p.take k).all htB = true) (fun i => n - (intOf i).toNat)
  case atStart => exact ⟨0, Nat.zero_le _, rfl, by simp⟩
  case round =>
    obtain ⟨k, hk, rfl, ha⟩ := hrel
    have HA := Lib.hid ha; clear ha
    by_cases hlt : k < n
    · obtain ⟨b, off, rfl, hcell⟩ := HC.out k hlt
      obtain ⟨x, hx⟩ : ∃ x, x = p.getD k 0 := ⟨_, rfl⟩
      rw [← hx] at hcell
      have HX := Lib.hid hx; clear hx
      cases hh : inB x 0 99
      · have H := Lib.hid (show validB p = false by simp only [validB]; rw [all_false_of htB p k (by have := HN.out; omega) (by rw [← HX.out]; exact hh)]; simp)
        go_wp2_with (go_at_call 45; refine (in_any _ _ _ _).mono ?_; rintro e w' ⟨rfl, rfl⟩)
        go_ret
        exact ⟨ret_bool H.out.symm, rfl⟩
      · have HH := Lib.hid hh
        go_wp2_with (go_at_call 45; refine (in_any _ _ _ _).mono ?_; rintro e w' ⟨rfl, rfl⟩)
        go_round
        case rel => exact ⟨k + 1, by omega, by go_num, all_take_step htB p k (by have := HN.out; omega) HA.out (by rw [← HX.out]; exact HH.out)⟩
        case measure => simp [intOf]; omega
    · have H := Lib.hid (show validB p = inB n 1 20 by
        have h := HA.out
        rw [List.take_of_length_le (by have := HN.out; omega)] at h
        simp only [validB, h, Bool.and_true, HN.out])
      go_wp2_with (go_at_call 45; refine (in_any _ _ _ _).mono ?_; rintro e w' ⟨rfl, rfl⟩)
      go_ret
      exact ⟨ret_bool H.out.symm, rfl⟩

end Go.Proofs.Ytjpcbegndnbeeaa
