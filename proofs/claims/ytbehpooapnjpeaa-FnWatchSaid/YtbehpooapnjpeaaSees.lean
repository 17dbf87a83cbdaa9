/- Contracts: ProfileSees of the program and of the reference. -/
import Derived.Test.YtbehpooapnjpeaaGround
import Derived.Test.YtbehpooapnjpeaaSSees
namespace Go.Proofs.Ytbehpooapnjpeaa
open Go.RowKit

theorem has_split {p : List Int} {i : Int} (h : hasB p i = true) : ∃ k : Nat, i = k ∧ k < p.length ∧ validB p = true := by
  rw [hasB_iff] at h
  obtain ⟨h0, h1, h2⟩ := h
  exact ⟨i.toNat, by omega, by omega, h0⟩

theorem ssees_b (v : Value) (p : List Int) (i k : Nat) (e : Int) (w : World) (hr : Row w v p) (hv : validB p = true) (hi : i < p.length) (hk : k < p.length) (e0 : 0 ≤ e) (e1 : e ≤ 50) :
    Calls Try.prog 54 #[v, .int .i64 i, .int .i64 k, .int .i64 e] w fun e' w' => e' = .returned (.bool (seesB p i k e)) ∧ Below w.heap.size w w' :=
  calls_below (ssees_any v p i k e w hr hv hi hk e0 e1)

theorem isees3_any (v : Value) (p : List Int) (i k : Int) (w : World) (hr : Row w v p) (hn : p.length ≤ 1099511627776) :
    Calls Try.prog 22 #[v, .int .i64 i, .int .i64 k] w fun e w' => e = .returned (.bool (sees3B p i k)) ∧ Below w.heap.size w w' := by
  cases e1 : hasB p i
  · have HB := Lib.hid (show sees3B p i k = false by simp [sees3B, e1])
    go_enter Try.func22, Try.ntmps22
    go_wp2_with (go_at_call 51; refine (ihas_any _ p _ _ hr hn).mono ?_; rintro e w' ⟨rfl, rfl⟩)
    go_ret
    exact ⟨ret_bool HB.out.symm, Below.refl _ _⟩
  · cases e2 : hasB p k
    · have HB := Lib.hid (show sees3B p i k = false by simp [sees3B, e2])
      go_enter Try.func22, Try.ntmps22
      go_wp2_with (go_at_call 51; refine (ihas_any _ p _ _ hr hn).mono ?_; rintro e w' ⟨rfl, rfl⟩)
      go_ret
      exact ⟨ret_bool HB.out.symm, Below.refl _ _⟩
    · obtain ⟨i', rfl, hi, hv⟩ := has_split e1
      obtain ⟨k', rfl, hk, -⟩ := has_split e2
      have HB := Lib.hid (show sees3B p i' k' = seesB p i' k' 0 by simp [sees3B, e1, e2])
      have HG := Lib.hid (ground_any v p i' k' w hr hv hi hk)
      go_enter Try.func22, Try.ntmps22
      go_wp2_with (first | (go_at_call 51; refine (ihas_any _ p _ _ hr hn).mono ?_; rintro e w' ⟨rfl, rfl⟩) | (go_at_call 52; refine HG.out.mono ?_; rintro e w' ⟨rfl, hb⟩))
      go_ret
      exact ⟨ret_bool HB.out.symm, hb⟩

theorem ssees3_any (v : Value) (p : List Int) (i k : Int) (w : World) (hr : Row w v p) (hn : p.length ≤ 1099511627776) :
    Calls Try.prog 23 #[v, .int .i64 i, .int .i64 k] w fun e w' => e = .returned (.bool (sees3B p i k)) ∧ Below w.heap.size w w' := by
  cases e1 : hasB p i
  · have HB := Lib.hid (show sees3B p i k = false by simp [sees3B, e1])
    go_enter Try.func23, Try.ntmps23
    go_wp2_with (go_at_call 53; refine (shas_any _ p _ _ hr hn).mono ?_; rintro e w' ⟨rfl, rfl⟩)
    go_ret
    exact ⟨ret_bool HB.out.symm, Below.refl _ _⟩
  · cases e2 : hasB p k
    · have HB := Lib.hid (show sees3B p i k = false by simp [sees3B, e2])
      go_enter Try.func23, Try.ntmps23
      go_wp2_with (go_at_call 53; refine (shas_any _ p _ _ hr hn).mono ?_; rintro e w' ⟨rfl, rfl⟩)
      go_ret
      exact ⟨ret_bool HB.out.symm, Below.refl _ _⟩
    · obtain ⟨i', rfl, hi, hv⟩ := has_split e1
      obtain ⟨k', rfl, hk, -⟩ := has_split e2
      have HB := Lib.hid (show sees3B p i' k' = seesB p i' k' 0 by simp [sees3B, e1, e2])
      have HG := Lib.hid (ssees_b v p i' k' 0 w hr hv hi hk (by omega) (by omega))
      go_enter Try.func23, Try.ntmps23
      go_wp2_with (first | (go_at_call 53; refine (shas_any _ p _ _ hr hn).mono ?_; rintro e w' ⟨rfl, rfl⟩) | (go_at_call 54; refine HG.out.mono ?_; rintro e w' ⟨rfl, hb⟩))
      go_ret
      exact ⟨ret_bool HB.out.symm, hb⟩

end Go.Proofs.Ytbehpooapnjpeaa
