/- Contracts: ProfileClimb of the program and of the reference. -/
import Derived.Test.YtonehpndbbojpaaValid
import Derived.RegionTactic
import Derived.ChangeAlike
import Derived.IntWalk
namespace Go.Proofs.Ytonehpndbbojpaa
open Go.RowKit

theorem iclimb_no (v : Value) (p : List Int) (w : World) (hr : Row w v p) (hn : p.length ≤ 1099511627776) (hv : validB p = false) :
    Calls Try.prog 26 #[v] w fun e w' => e = .returned (.tuple #[.int .i64 0, .int .i64 0, .bool false]) ∧ ∃ q, w' = w.drewN q := by
  go_enter Try.func26, Try.ntmps26
  go_wp2_with (go_at_call 52; refine (ivalid_any _ p _ hr hn).mono ?_; rintro e w' ⟨rfl, rfl⟩)
  go_ret3
  exact ⟨rfl, 0, rfl⟩

theorem iclimb_yes (v : Value) (p : List Int) (w : World) (hr : Row w v p) (hv : validB p = true) :
    Calls Try.prog 26 #[v] w fun e w' => e = .returned (.tuple #[.int .i64 (upS p p.length), .int .i64 (dnS p p.length), .bool true]) ∧ ∃ q, w' = w.drewN q := by
  obtain ⟨a, cap, rfl⟩ := hr.shape
  obtain ⟨-, hc⟩ := hr.cells
  have hl := valid_len hv
  obtain ⟨n, hN⟩ : ∃ n, n = p.length := ⟨_, rfl⟩
  have hc' := hc
  rw [← hN] at hc' hl
  obtain ⟨l1, l2⟩ := hl
  have HN := Lib.hid hN
  have HC := Lib.hid hc'; clear hc hc'
  have e0 : Calls Try.prog 52 #[Value.slice a p.length cap] w (fun e w' => e = .returned (.bool true) ∧ w = w') := by
    have := ivalid_any _ p w hr (by omega)
    rw [hv] at this
    exact this
  rw [← hN] at e0 ⊢
  clear hN hr
  have E0 := Lib.hid e0; clear e0
  have HV := Lib.hid hv; clear hv
  go_enter Try.func26, Try.ntmps26
  go_wp2_with (go_at_call 52; refine E0.out.mono ?_; rintro e w' ⟨rfl, rfl⟩)
  clear E0
  go_loopw [5, 6, 7] (fun u d i wr => ∃ k : Nat, 1 ≤ k ∧ k ≤ n ∧ i = .int .i64 k ∧ u = .int .i64 (upS p k) ∧ d = .int .i64 (dnS p k) ∧ ∃ q, wr = w.drewN q) (fun _ _ i _ => n - (intOf i).toNat)
  case atStart => exact ⟨1, Nat.le_refl _, l1, rfl, rfl, rfl, 0, rfl⟩
  case round =>
    obtain ⟨k, hk1, hk, rfl, rfl, rfl, q, rfl⟩ := hrel
    have ub := upS_bd HV.out k
    have db := dnS_bd HV.out k
    have us := Lib.hid (upS_step p k hk1)
    have ds := Lib.hid (dnS_step p k hk1)
    obtain ⟨U, hU⟩ : ∃ U, U = upS p k := ⟨_, rfl⟩
    obtain ⟨D, hD⟩ : ∃ D, D = dnS p k := ⟨_, rfl⟩
    rw [← hU] at ub ⊢
    rw [← hD] at db ⊢
    obtain ⟨ub1, ub2⟩ := ub
    obtain ⟨db1, db2⟩ := db
    have HU := Lib.hid hU; clear hU
    have HD := Lib.hid hD; clear hD
    by_cases hlt : k < n
    · obtain ⟨b, off, rfl, hcell⟩ := HC.out k hlt
      obtain ⟨b', off', he, hcell2⟩ := HC.out (k - 1) (by omega)
      simp only [Option.some.injEq, Addr.mk.injEq, and_true] at he
      obtain ⟨rfl, rfl⟩ := he
      have x1 := valid_ht' HV.out k
      have y1 := valid_ht' HV.out (k - 1)
      obtain ⟨x, hx⟩ : ∃ x, x = p.getD k 0 := ⟨_, rfl⟩
      obtain ⟨y, hy⟩ : ∃ y, y = p.getD (k - 1) 0 := ⟨_, rfl⟩
      rw [← hx] at hcell x1
      rw [← hy] at hcell2 y1
      obtain ⟨x1, x2⟩ := x1
      obtain ⟨y1, y2⟩ := y1
      have HX := Lib.hid hx; clear hx
      have HY := Lib.hid hy; clear hy
      rcases Int.lt_trichotomy x y with hxy | rfl | hxy
      all_goals
        go_wp2
        go_region
        all_goals
          go_wp2
          go_region
          all_goals
            go_wp2
            go_roundw
            case rel =>
              refine ⟨k + 1, by omega, by omega, by go_num, val_int ?_, val_int ?_, _, rfl⟩
              · rw [us.out, ← HU.out, ← HX.out, ← HY.out]; first | omega | (split <;> omega)
              · rw [ds.out, ← HD.out, ← HX.out, ← HY.out]; first | omega | (split <;> omega)
            case measure => simp [intOf]; omega
    · have hke : k = n := by omega
      subst hke
      go_wp2
      go_ret3
      exact ⟨by rw [← HU.out, ← HD.out]; rfl, _, rfl⟩

theorem iclimb_any (v : Value) (p : List Int) (w : World) (hr : Row w v p) (hn : p.length ≤ 1099511627776) :
    Calls Try.prog 26 #[v] w fun e w' => e = .returned (.tuple #[.int .i64 (upV p), .int .i64 (dnV p), .bool (validB p)]) ∧ ∃ q, w' = w.drewN q := by
  cases hv : validB p
  · have := iclimb_no v p w hr hn hv
    simpa [upV, dnV, hv] using this
  · have := iclimb_yes v p w hr hv
    simpa [upV, dnV, hv] using this

end Go.Proofs.Ytonehpndbbojpaa
