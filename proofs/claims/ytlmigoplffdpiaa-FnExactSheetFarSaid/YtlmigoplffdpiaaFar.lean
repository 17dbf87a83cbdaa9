/- Contracts: SheetFar of the program and of the reference. -/
import Derived.Test.YtlmigoplffdpiaaSheet
import Derived.Deep.RegionHeld3
namespace Go.Proofs.Ytlmigoplffdpiaa
open Go.RowKit

def absV (x : Int) : Int := if 0 ≤ x then x else -x
def gapV (a b : Nat) : Int := if a = b then 0 else absV ((a : Int) - b) * 4 - 3
theorem size_any (x : Int) (w : World) (h1 : -100 ≤ x) (h2 : x ≤ 100) : Calls Try.prog 38 #[.int .i64 x] w fun e w' => e = .returned (.int .i64 (absV x)) ∧ w = w' := by
  unfold absV
  by_cases h : 0 ≤ x
  · rw [if_pos h]
    go_enter Try.func38, Try.ntmps38
    go_wp2
    all_goals
      go_ret
      exact ⟨ret_int (by omega), rfl⟩
  · rw [if_neg h]
    go_enter Try.func38, Try.ntmps38
    go_wp2
    all_goals
      go_ret
      exact ⟨ret_int (by omega), rfl⟩
theorem gap_any (a b : Nat) (w : World) (h1 : a < 26) (h2 : b < 26) : Calls Try.prog 25 #[.int .i64 a, .int .i64 b] w fun e w' => e = .returned (.int .i64 (gapV a b)) ∧ w = w' := by
  have HS := Lib.hid (fun wx => size_any ((a : Int) - b) wx (by omega) (by omega))
  have hA : 0 ≤ absV ((a : Int) - b) ∧ absV ((a : Int) - b) ≤ 25 := by unfold absV; split <;> omega
  have hA0 := Lib.hid (show a ≠ b → 1 ≤ absV ((a : Int) - b) by unfold absV; split <;> omega)
  have hA1 := Lib.hid (show a = b → absV ((a : Int) - b) = 0 by unfold absV; split <;> omega)
  unfold gapV
  obtain ⟨A, hAe⟩ : ∃ A, A = absV ((a : Int) - b) := ⟨_, rfl⟩
  rw [← hAe] at HS hA hA0 hA1 ⊢
  obtain ⟨q1, q2⟩ := hA
  clear hAe
  by_cases h : a = b
  · rw [if_pos h]
    have hz := hA1.out h
    clear h
    go_enter Try.func25, Try.ntmps25
    go_wp2_with (go_at_call 38; refine (HS.out _).mono ?_; rintro e w' ⟨rfl, rfl⟩)
    all_goals
      go_ret
      exact ⟨ret_int (by omega), rfl⟩
  · rw [if_neg h]
    have hz := hA0.out h
    clear h
    go_enter Try.func25, Try.ntmps25
    go_wp2_with (go_at_call 38; refine (HS.out _).mono ?_; rintro e w' ⟨rfl, rfl⟩)
    all_goals
      go_ret
      exact ⟨ret_int (by omega), rfl⟩
theorem apart_any (a b : Nat) (w : World) (h1 : a < 26) (h2 : b < 26) : Calls Try.prog 26 #[.int .i64 a, .int .i64 b] w fun e w' => e = .returned (.int .i64 (absV ((a : Int) - b))) ∧ w = w' := by
  unfold absV
  by_cases h : a ≤ b
  · have h' : (a : Int) ≤ (b : Int) := by omega
    go_enter Try.func26, Try.ntmps26
    go_wp2
    all_goals
      go_ret
      exact ⟨ret_int (by first | omega | (split <;> omega)), rfl⟩
  · have h' : (b : Int) < (a : Int) := by omega
    go_enter Try.func26, Try.ntmps26
    go_wp2
    all_goals
      go_ret
      exact ⟨ret_int (by first | omega | (split <;> omega)), rfl⟩
/-- What SheetFar gives. -/
def farV (S T : ByteArray) (x : Int) : Prop := (∃ c r c' r' : Nat, IsName S c r ∧ IsName T c' r' ∧ x = gapV c c' + gapV r r') ∨ ((NoName S ∨ NoName T) ∧ x = -1)
theorem gap_bd (a b : Nat) (h1 : a < 26) (h2 : b < 26) : 0 ≤ gapV a b ∧ gapV a b ≤ 100 := by
  unfold gapV absV
  split
  · omega
  · split <;> omega
theorem sfar_any (S T : ByteArray) (x : Int) (w : World) (h : farV S T x) :
    Calls Try.prog 13 #[.string S, .string T] w fun e w' => e = .returned (.int .i64 x) ∧ Below w.heap.size w w' := by
  rcases h with ⟨c, r, c', r', hn, hn', rfl⟩ | ⟨hn, rfl⟩
  · have HF := Lib.hid (fun wx => find_yes hn wx)
    have HF' := Lib.hid (fun wx => find_yes hn' wx)
    have H1 := Lib.hid (fun wx => gap_any c c' wx hn.1 hn'.1)
    have H2 := Lib.hid (fun wx => gap_any r r' wx hn.2.1 hn'.2.1)
    have b1 := gap_bd c c' hn.1 hn'.1
    have b2 := gap_bd r r' hn.2.1 hn'.2.1
    obtain ⟨G1, hG1⟩ : ∃ G, G = gapV c c' := ⟨_, rfl⟩
    obtain ⟨G2, hG2⟩ : ∃ G, G = gapV r r' := ⟨_, rfl⟩
    rw [← hG1] at H1 b1 ⊢
    rw [← hG2] at H2 b2 ⊢
    clear hn hn' hG1 hG2
    go_enter Try.func13, Try.ntmps13
    go_wp2_with fail
    refine (HF.out _).mono ?_
    rintro e w1 ⟨rfl, hb⟩
    have HB := Lib.hid hb
    clear hb
    go_wp2_with fail
    refine (HF'.out _).mono ?_
    rintro e w2 ⟨rfl, hb⟩
    have HB2 := Lib.hid (HB.out.trans (hb.mono HB.out.size))
    clear hb
    go_wp2_with fail
    refine (H1.out _).mono ?_
    rintro e w3 ⟨rfl, rfl⟩
    go_wp2_with fail
    refine (H2.out _).mono ?_
    rintro e w4 ⟨rfl, rfl⟩
    go_wp2
    go_ret
    exact ⟨rfl, HB2.out⟩
  · rcases name_or S with ⟨c, r, h1⟩ | h1
    · have hT : NoName T := hn.resolve_left (fun hS => hS c r h1)
      have HF := Lib.hid (fun wx => find_yes h1 wx)
      have HF' := Lib.hid (fun wx => find_no hT wx)
      clear hn h1 hT
      go_enter Try.func13, Try.ntmps13
      go_wp2_with fail
      refine (HF.out _).mono ?_
      rintro e w1 ⟨rfl, hb⟩
      have HB := Lib.hid hb
      clear hb
      go_wp2_with fail
      refine (HF'.out _).mono ?_
      rintro e w2 ⟨rfl, hb⟩
      have HB2 := Lib.hid (HB.out.trans (hb.mono HB.out.size))
      clear hb
      go_wp2
      go_ret
      exact ⟨rfl, HB2.out⟩
    · have HF := Lib.hid (fun wx => find_no h1 wx)
      have HF' := Lib.hid (show ∀ wx, ∃ c r o, Calls Try.prog 22 #[.string T] wx fun e w' => e = .returned (.tuple #[.int .i64 c, .int .i64 r, .bool o]) ∧ Below wx.heap.size wx w' from fun wx => by
        rcases name_or T with ⟨c, r, h⟩ | h
        · exact ⟨_, _, _, find_yes h wx⟩
        · exact ⟨_, _, _, find_no h wx⟩)
      clear hn h1
      go_enter Try.func13, Try.ntmps13
      go_wp2_with fail
      refine (HF.out _).mono ?_
      rintro e w1 ⟨rfl, hb⟩
      have HB := Lib.hid hb
      clear hb
      obtain ⟨c, r, o, H⟩ := HF'.out w1
      have H' := Lib.hid H
      clear H
      go_wp2_with fail
      refine H'.out.mono ?_
      rintro e w2 ⟨rfl, hb⟩
      have HB2 := Lib.hid (HB.out.trans (hb.mono HB.out.size))
      clear hb
      go_wp2
      go_ret
      exact ⟨rfl, HB2.out⟩

end Go.Proofs.Ytlmigoplffdpiaa
