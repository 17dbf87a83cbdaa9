/- Contracts of small functions of the sheets: l6In, l7Side, l7Place, l7Size, apart, place.there. -/
import Derived.Test.YtdimgdnljcndbaaRows
import Derived.WalkKit
import Derived.ProofKit
import Derived.Outline
import Derived.Lib.Hide
import Derived.Below
import Derived.WalkSpells
import Derived.WalkLawsBesides
namespace Go.Proofs.Ytdimgdnljcndbaa
open Go.RowKit

def inB (n lo hi : Int) : Bool := decide (lo ≤ n ∧ n ≤ hi)
def placeB (x y : Int) : Bool := inB x 0 103 && inB y 0 103
theorem inB_iff {n lo hi : Int} : inB n lo hi = true ↔ lo ≤ n ∧ n ≤ hi := by simp [inB]

theorem in_any (n lo hi : Int) (w : World) :
    Calls Try.prog 25 #[.int .i64 n, .int .i64 lo, .int .i64 hi] w fun e w' => e = .returned (.bool (inB n lo hi)) ∧ w = w' := by
  by_cases h1 : lo ≤ n
  · by_cases h2 : n ≤ hi
    · have : inB n lo hi = true := by simp [inB, h1, h2]
      have H := Lib.hid this; clear this
      go_enter Try.func25, Try.ntmps25
      go_wp2
      go_ret
      exact ⟨by rw [H.out]; rfl, rfl⟩
    · have : inB n lo hi = false := by simp [inB, h2]
      have H := Lib.hid this; clear this
      go_enter Try.func25, Try.ntmps25
      go_wp2
      go_ret
      exact ⟨by rw [H.out]; rfl, rfl⟩
  · have : inB n lo hi = false := by simp [inB, h1]
    have H := Lib.hid this; clear this
    go_enter Try.func25, Try.ntmps25
    go_wp2
    go_ret
    exact ⟨by rw [H.out]; rfl, rfl⟩

theorem side_any (w : World) : Calls Try.prog 26 #[] w fun e w' => e = .returned (.int .i64 104) ∧ w = w' := by
  go_enter Try.func26, Try.ntmps26
  go_wp2
  go_ret
  exact ⟨rfl, rfl⟩

theorem ret_int {k : IntKind} {a b : Int} (h : a = b) : Ending.returned (.int k a) = .returned (.int k b) := by rw [h]
theorem ret_bool {a b : Bool} (h : a = b) : Ending.returned (.bool a) = .returned (.bool b) := by rw [h]

theorem place_any (x y : Int) (w : World) :
    Calls Try.prog 15 #[.int .i64 x, .int .i64 y] w fun e w' => e = .returned (.bool (placeB x y)) ∧ w = w' := by
  cases hx : inB x 0 103
  all_goals
    cases hy : inB y 0 103
    all_goals
      have hp : placeB x y = (inB x 0 103 && inB y 0 103) := rfl
      rw [hx, hy] at hp
      have H := Lib.hid hp; clear hp
      go_enter Try.func15, Try.ntmps15
      go_wp2_with (first | (go_at_call 26; refine (side_any _).mono ?_; rintro e w' ⟨rfl, rfl⟩) | (go_at_call 25; refine (in_any _ _ _ _).mono ?_; rintro e w' ⟨rfl, rfl⟩))
      go_ret
      exact ⟨by rw [H.out]; rfl, rfl⟩

def absI (n : Int) : Int := max n (-n)

theorem size_any (n : Int) (w : World) (h1 : -1000000 ≤ n) (h2 : n ≤ 1000000) :
    Calls Try.prog 16 #[.int .i64 n] w fun e w' => e = .returned (.int .i64 (absI n)) ∧ w = w' := by
  go_enter Try.func16, Try.ntmps16
  go_wp2
  all_goals
    go_ret
    refine ⟨ret_int ?_, rfl⟩
    unfold absI
    omega

theorem apart_any (a b : Int) (w : World) (h1 : 0 ≤ a) (h2 : a ≤ 1000000)  (h3 : 0 ≤ b) (h4 : b ≤ 1000000) :
    Calls Try.prog 18 #[.int .i64 a, .int .i64 b] w fun e w' => e = .returned (.int .i64 (absI (a - b))) ∧ w = w' := by
  go_enter Try.func18, Try.ntmps18
  go_wp2
  all_goals
    go_ret
    refine ⟨ret_int ?_, rfl⟩
    unfold absI
    omega

theorem there_any (x y : Int) (w : World) :
    Calls Try.prog 17 #[.agg #[.int .i64 x, .int .i64 y]] w fun e w' => e = .returned (.bool (placeB x y)) ∧ Below w.heap.size w w' := by
  go_enter Try.func17, Try.ntmps17
  go_wp2
  all_goals
    go_ret
    refine ⟨ret_bool ?_, (Below.refl _ _).alloc (Nat.le_refl _) _⟩
    rw [Bool.eq_iff_iff]
    simp [placeB, inB]
    first | done | omega

theorem bcell {W w1 : World} (hb : Below W.heap.size W w1) : (∀ b o, b < W.heap.size → w1.cell? ⟨b, o, none⟩ = W.cell? ⟨b, o, none⟩) ∧ (∀ b o, b < W.heap.size → w1.frozen? ⟨b, o, none⟩ = W.frozen? ⟨b, o, none⟩) :=
  ⟨fun b o h => hb.cell (p := ⟨b, o, none⟩) h, fun b o h => hb.frozen (p := ⟨b, o, none⟩) h⟩

def farI (ax ay bx bY : Int) : Int := if placeB ax ay && placeB bx bY then absI (ax - bx) + absI (ay - bY) else -1

theorem sfar_any (ax ay bx bY : Int) (w : World) :
    Calls Try.prog 7 #[.int .i64 ax, .int .i64 ay, .int .i64 bx, .int .i64 bY] w fun e w' => e = .returned (.int .i64 (farI ax ay bx bY)) ∧ w = w' := by
  cases ha : placeB ax ay
  · have hf : farI ax ay bx bY = -1 := by simp [farI, ha]
    have H := Lib.hid hf; clear hf
    go_enter Try.func7, Try.ntmps7
    go_wp2_with (go_at_call 15; refine (place_any _ _ _).mono ?_; rintro e w' ⟨rfl, rfl⟩)
    go_ret
    exact ⟨by rw [H.out]; rfl, rfl⟩
  · cases hb : placeB bx bY
    · have hf : farI ax ay bx bY = -1 := by simp [farI, hb]
      have H := Lib.hid hf; clear hf
      go_enter Try.func7, Try.ntmps7
      go_wp2_with (go_at_call 15; refine (place_any _ _ _).mono ?_; rintro e w' ⟨rfl, rfl⟩)
      go_ret
      exact ⟨by rw [H.out]; rfl, rfl⟩
    · have hf : farI ax ay bx bY = absI (ax - bx) + absI (ay - bY) := by simp [farI, ha, hb]
      have H := Lib.hid hf; clear hf
      have ha' := ha
      have hb' := hb
      simp only [placeB, inB, Bool.and_eq_true, decide_eq_true_eq] at ha' hb'
      have i1 : -103 ≤ ax - bx := by omega
      have i2 : ax - bx ≤ 103 := by omega
      have i3 : -103 ≤ ay - bY := by omega
      have i4 : ay - bY ≤ 103 := by omega
      have k1 : 0 ≤ absI (ax - bx) ∧ absI (ax - bx) ≤ 103 := by unfold absI; omega
      have k2 : 0 ≤ absI (ay - bY) ∧ absI (ay - bY) ≤ 103 := by unfold absI; omega
      obtain ⟨k11, k12⟩ := k1
      obtain ⟨k21, k22⟩ := k2
      clear ha' hb'
      go_enter Try.func7, Try.ntmps7
      go_wp2_with (first | (go_at_call 15; refine (place_any _ _ _).mono ?_; rintro e w' ⟨rfl, rfl⟩) | (go_at_call 16; refine (size_any _ _ (by omega) (by omega)).mono ?_; rintro e w' ⟨rfl, rfl⟩))
      go_ret
      exact ⟨by rw [H.out]; rfl, rfl⟩


theorem ifar_any (ax ay bx bY : Int) (w : World) :
    Calls Try.prog 8 #[.int .i64 ax, .int .i64 ay, .int .i64 bx, .int .i64 bY] w fun e w' => e = .returned (.int .i64 (farI ax ay bx bY)) ∧ Below w.heap.size w w' := by
  cases ha : placeB ax ay
  · have hf : farI ax ay bx bY = -1 := by simp [farI, ha]
    have H := Lib.hid hf; clear hf
    go_enter Try.func8, Try.ntmps8
    go_wp2_with fail
    refine (there_any _ _ _).mono ?_
    rintro e w' ⟨rfl, hb⟩
    go_wp2_with fail
    go_ret
    refine ⟨by rw [H.out]; rfl, (((Below.refl _ _).alloc (Nat.le_refl _) _).alloc (by simp) _).trans (hb.mono (by simp; omega))⟩
  · cases hb : placeB bx bY
    · have hf : farI ax ay bx bY = -1 := by simp [farI, hb]
      have H := Lib.hid hf; clear hf
      go_enter Try.func8, Try.ntmps8
      go_wp2_with fail
      refine (there_any _ _ _).mono ?_
      rintro e w1 ⟨rfl, hb1⟩
      obtain ⟨hc, hf⟩ := bcell hb1
      have hz : w.heap.size + 1 < w1.heap.size := by have := hb1.size; simp at this; omega
      go_wp2_with fail
      refine (there_any _ _ _).mono ?_
      rintro e w2 ⟨rfl, hb2⟩
      go_wp2_with fail
      go_ret
      refine ⟨by rw [H.out]; rfl, ((((Below.refl _ _).alloc (Nat.le_refl _) _).alloc (by simp) _).trans (hb1.mono (by simp; omega))).trans (hb2.mono (by omega))⟩
    · have hf : farI ax ay bx bY = absI (ax - bx) + absI (ay - bY) := by simp [farI, ha, hb]
      have H := Lib.hid hf; clear hf
      have ha' := ha
      have hb' := hb
      simp only [placeB, inB, Bool.and_eq_true, decide_eq_true_eq] at ha' hb'
      obtain ⟨⟨a1, a2⟩, a3, a4⟩ := ha'
      obtain ⟨⟨b1, b2⟩, b3, b4⟩ := hb'
      have k1 : 0 ≤ absI (ax - bx) ∧ absI (ax - bx) ≤ 103 := by unfold absI; omega
      have k2 : 0 ≤ absI (ay - bY) ∧ absI (ay - bY) ≤ 103 := by unfold absI; omega
      obtain ⟨k11, k12⟩ := k1
      obtain ⟨k21, k22⟩ := k2
      go_enter Try.func8, Try.ntmps8
      go_wp2_with fail
      refine (there_any _ _ _).mono ?_
      rintro e w1 ⟨rfl, hb1⟩
      obtain ⟨hc, hf⟩ := bcell hb1
      have hz : w.heap.size + 1 < w1.heap.size := by have := hb1.size; simp at this; omega
      go_wp2_with fail
      refine (there_any _ _ _).mono ?_
      rintro e w2 ⟨rfl, hb2⟩
      go_wp2_with (go_at_call 18; refine (apart_any _ _ _ (by omega) (by omega) (by omega) (by omega)).mono ?_; rintro e w' ⟨rfl, rfl⟩)
      go_ret
      refine ⟨by rw [H.out]; rfl, ((((Below.refl _ _).alloc (Nat.le_refl _) _).alloc (by simp) _).trans (hb1.mono (by simp; omega))).trans (hb2.mono (by omega))⟩

end Go.Proofs.Ytdimgdnljcndbaa
