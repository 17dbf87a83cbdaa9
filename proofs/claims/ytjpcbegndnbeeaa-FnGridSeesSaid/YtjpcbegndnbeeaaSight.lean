/- Contracts: sight, inSight, groundSight, hasPoint; l5Has, l5Sees. -/
import Derived.Test.YtjpcbegndnbeeaaValid
import Derived.Test.YtjpcbegndnbeeaaBase
import Derived.RegionTactic
import Derived.ChangeAlike
import Derived.IntWalk
import Derived.Deep.RegionHeld2
namespace Go.Proofs.Ytjpcbegndnbeeaa
open Go.RowKit

/-- The value is the function of a line of sight. -/
def Sight (w : World) (v : Value) (lo hi a b : Int) : Prop :=
  ∃ c0 c1 c2 c3 : Nat, v = .func (Fn.func 57) #[] #[.pointer (some ⟨c2, 0, none⟩), .pointer (some ⟨c0, 0, none⟩), .pointer (some ⟨c1, 0, none⟩), .pointer (some ⟨c3, 0, none⟩)] ∧
    w.cell? ⟨c0, 0, none⟩ = some (.int .i64 lo) ∧ w.cell? ⟨c1, 0, none⟩ = some (.int .i64 a) ∧ w.cell? ⟨c2, 0, none⟩ = some (.int .i64 hi) ∧ w.cell? ⟨c3, 0, none⟩ = some (.int .i64 b)

def GivesSight (lo hi a b : Int) (w : World) (e : Ending) (w' : World) : Prop := ∃ v, e = .returned v ∧ Sight w' v lo hi a b ∧ Below w.heap.size w w'

theorem free_any (j h lo hi a b : Int) (c0 c1 c2 c3 : Nat) (w : World)
    (h0 : w.cell? ⟨c0, 0, none⟩ = some (.int .i64 lo)) (h1 : w.cell? ⟨c1, 0, none⟩ = some (.int .i64 a)) (h2 : w.cell? ⟨c2, 0, none⟩ = some (.int .i64 hi)) (h3 : w.cell? ⟨c3, 0, none⟩ = some (.int .i64 b))
    (l0 : 0 ≤ lo) (l1 : lo ≤ j) (l2 : j ≤ hi) (l3 : hi ≤ 20) (a0 : 0 ≤ a) (a1 : a ≤ 200) (b0 : 0 ≤ b) (b1 : b ≤ 200) (x0 : 0 ≤ h) (x1 : h ≤ 200) :
    Calls Try.prog 57 #[.int .i64 j, .int .i64 h, .pointer (some ⟨c2, 0, none⟩), .pointer (some ⟨c0, 0, none⟩), .pointer (some ⟨c1, 0, none⟩), .pointer (some ⟨c3, 0, none⟩)] w
      fun e w' => e = .returned (.bool (decide (h * (hi - lo) ≤ a * (hi - j) + b * (j - lo)))) ∧ w = w' := by
  obtain ⟨m0, m1⟩ := prod_bd (y := hi - lo) x0 x1 (by omega) (show hi - lo ≤ 20 by omega)
  obtain ⟨m2, m3⟩ := prod_bd (y := hi - j) a0 a1 (by omega) (show hi - j ≤ 20 by omega)
  obtain ⟨m4, m5⟩ := prod_bd (y := j - lo) b0 b1 (by omega) (show j - lo ≤ 20 by omega)
  go_enter Try.func57, Try.ntmps57
  go_wp2
  all_goals
    go_ret
    refine ⟨ret_bool ?_, rfl⟩
    simp
    try omega

theorem sight_le (i a k b : Int) (w : World) (h : i ≤ k) :
    Calls Try.prog 56 #[.int .i64 i, .int .i64 a, .int .i64 k, .int .i64 b] w (GivesSight i k a b w) := by
  go_enter Try.func56, Try.ntmps56
  go_wp2
  go_ret
  refine ⟨_, rfl, ⟨_, _, _, _, rfl, ?_, ?_, ?_, ?_⟩, ?_⟩
  · simp [go_sem]
  · simp [go_sem]
  · simp [go_sem]
  · simp [go_sem]
  · exact (((((Below.refl _ _).alloc (Nat.le_refl _) _).alloc (by simp) _).alloc (by simp; try omega) _).alloc (by simp; try omega) _)

theorem sight_gt (i a k b : Int) (w : World) (h : k < i) :
    Calls Try.prog 56 #[.int .i64 i, .int .i64 a, .int .i64 k, .int .i64 b] w (GivesSight k i b a w) := by
  go_enter Try.func56, Try.ntmps56
  go_wp2
  go_region
  all_goals
    go_wp2
    go_ret
    refine ⟨_, rfl, ⟨_, _, _, _, rfl, ?_, ?_, ?_, ?_⟩, ?_⟩
    · simp [go_sem]
    · simp [go_sem]
    · simp [go_sem]
    · simp [go_sem]
    · exact below_drewN (((((Below.refl _ _).alloc (Nat.le_refl _) _).alloc (by simp) _).alloc (by simp; try omega) _).alloc (by simp; try omega) _) 1

theorem insight_le (v : Value) (p : List Int) (i k : Nat) (x y : Int) (w : World) (hr : Row w v p) (hv : validB p = true) (hik : i ≤ k) (hk : k < p.length)
    (x0 : 0 ≤ x) (x1 : x ≤ 200) (y0 : 0 ≤ y) (y1 : y ≤ 200) :
    Calls Try.prog 55 #[v, .int .i64 i, .int .i64 x, .int .i64 k, .int .i64 y] w fun e w' => e = .returned (.bool (clearB p i k x y)) ∧ Below w.heap.size w w' := by
  have hl := valid_len hv
  have hht := valid_ht' hv
  obtain ⟨a, cap, rfl⟩ := hr.shape
  obtain ⟨-, hc⟩ := hr.cells
  obtain ⟨n, hN⟩ : ∃ n, n = p.length := ⟨_, rfl⟩
  rw [← hN] at hc hl hk ⊢
  obtain ⟨l1, l2⟩ := hl
  have HH := Lib.hid hht; clear hht
  have HC := Lib.hid hc; clear hc hr hv hN
  go_enter Try.func55, Try.ntmps55
  go_wp2_with (go_at_call 56; refine (sight_le _ _ _ _ _ (by omega)).mono ?_; rintro e w1 ⟨fv, rfl, hs, hb⟩)
  obtain ⟨c0, c1, c2, c3, rfl, q0, q1, q2, q3⟩ := hs
  have Q0 := Lib.hid q0; have Q1 := Lib.hid q1; have Q2 := Lib.hid q2; have Q3 := Lib.hid q3
  clear q0 q1 q2 q3
  go_loop [12] (fun j => ∃ m : Nat, i < m ∧ (m ≤ k ∨ m = i + 1) ∧ j = .int .i64 m ∧ ∀ t, i < t → t < m → p.getD t 0 * ((k : Int) - i) ≤ x * ((k : Int) - t) + y * ((t : Int) - i)) (fun j => k - (intOf j).toNat)
  case atStart => exact ⟨i + 1, by omega, .inr rfl, by go_num, fun t _ _ => by omega⟩
  case round =>
    obtain ⟨m, hm1, hm2, rfl, ha⟩ := hrel
    have HA := Lib.hid ha; clear ha
    have hm3 : m ≤ 21 := by omega
    have HM2 := Lib.hid hm2; clear hm2
    by_cases hlt : m < k
    · obtain ⟨b, off, rfl, hcell⟩ := HC.out m (by omega)
      have hcell' := (hb.cell (World.block_lt_of_cell? w _ hcell)).trans hcell
      have hz := HH.out m
      obtain ⟨z, hZ⟩ : ∃ z, z = p.getD m 0 := ⟨_, rfl⟩
      rw [← hZ] at hcell' hz
      have HZ := Lib.hid hZ; clear hZ hcell
      obtain ⟨z0, z1⟩ := hz
      have FR := Lib.hid (free_any (m : Int) z i k x y c0 c1 c2 c3 w1 Q0.out Q1.out Q2.out Q3.out (by omega) (by omega) (by omega) (by omega) x0 x1 y0 y1 z0 (by omega))
      by_cases hfree : z * ((k : Int) - i) ≤ x * ((k : Int) - m) + y * ((m : Int) - i)
      · rw [decide_eq_true hfree] at FR
        have HF := Lib.hid hfree; clear hfree
        go_wp2_with (go_at_call 57; refine FR.out.mono ?_; rintro e w' ⟨rfl, rfl⟩)
        go_round
        case rel =>
          refine ⟨m + 1, by omega, .inl (by omega), by go_num, fun t h1 h2 => ?_⟩
          by_cases htm : t < m
          · exact HA.out t h1 htm
          · have : t = m := by omega
            subst this
            rw [← HZ.out]; exact HF.out
        case measure => simp [intOf]; omega
      · rw [decide_eq_false hfree] at FR
        have HF := Lib.hid (show clearB p i k x y = false by
          rw [clearB_false]; intro h; have := h m hm1 hlt; rw [← HZ.out] at this; exact hfree this); clear hfree
        go_wp2_with (go_at_call 57; refine FR.out.mono ?_; rintro e w' ⟨rfl, rfl⟩)
        go_ret
        exact ⟨ret_bool HF.out.symm, hb⟩
    · have HF := Lib.hid (show clearB p i k x y = true by
        rw [clearB_iff]; intro t h1 h2; exact HA.out t h1 (by omega))
      go_wp2
      all_goals
        go_ret
        exact ⟨ret_bool HF.out.symm, hb⟩

theorem insight_gt (v : Value) (p : List Int) (i k : Nat) (x y : Int) (w : World) (hr : Row w v p) (hv : validB p = true) (hik : k < i) (hk : i < p.length)
    (x0 : 0 ≤ x) (x1 : x ≤ 200) (y0 : 0 ≤ y) (y1 : y ≤ 200) :
    Calls Try.prog 55 #[v, .int .i64 i, .int .i64 x, .int .i64 k, .int .i64 y] w fun e w' => e = .returned (.bool (clearB p k i y x)) ∧ Below w.heap.size w w' := by
  have hl := valid_len hv
  have hht := valid_ht' hv
  obtain ⟨a, cap, rfl⟩ := hr.shape
  obtain ⟨-, hc⟩ := hr.cells
  obtain ⟨n, hN⟩ : ∃ n, n = p.length := ⟨_, rfl⟩
  rw [← hN] at hc hl hk ⊢
  obtain ⟨l1, l2⟩ := hl
  have HH := Lib.hid hht; clear hht
  have HC := Lib.hid hc; clear hc hr hv hN
  go_enter Try.func55, Try.ntmps55
  go_wp2_with (go_at_call 56; refine (sight_gt _ _ _ _ _ (by omega)).mono ?_; rintro e w1 ⟨fv, rfl, hs, hb⟩)
  obtain ⟨c0, c1, c2, c3, rfl, q0, q1, q2, q3⟩ := hs
  have Q0 := Lib.hid q0; have Q1 := Lib.hid q1; have Q2 := Lib.hid q2; have Q3 := Lib.hid q3
  clear q0 q1 q2 q3
  go_loop [12] (fun j => ∃ m : Nat, k < m ∧ (m ≤ i ∨ m = k + 1) ∧ j = .int .i64 m ∧ ∀ t, k < t → t < m → p.getD t 0 * ((i : Int) - k) ≤ y * ((i : Int) - t) + x * ((t : Int) - k)) (fun j => i - (intOf j).toNat)
  case atStart => exact ⟨k + 1, by omega, .inr rfl, by go_num, fun t _ _ => by omega⟩
  case round =>
    obtain ⟨m, hm1, hm2, rfl, ha⟩ := hrel
    have HA := Lib.hid ha; clear ha
    have hm3 : m ≤ 21 := by omega
    have HM2 := Lib.hid hm2; clear hm2
    by_cases hlt : m < i
    · obtain ⟨b, off, rfl, hcell⟩ := HC.out m (by omega)
      have hcell' := (hb.cell (World.block_lt_of_cell? w _ hcell)).trans hcell
      have hz := HH.out m
      obtain ⟨z, hZ⟩ : ∃ z, z = p.getD m 0 := ⟨_, rfl⟩
      rw [← hZ] at hcell' hz
      have HZ := Lib.hid hZ; clear hZ hcell
      obtain ⟨z0, z1⟩ := hz
      have FR := Lib.hid (free_any (m : Int) z k i y x c0 c1 c2 c3 w1 Q0.out Q1.out Q2.out Q3.out (by omega) (by omega) (by omega) (by omega) y0 y1 x0 x1 z0 (by omega))
      by_cases hfree : z * ((i : Int) - k) ≤ y * ((i : Int) - m) + x * ((m : Int) - k)
      · rw [decide_eq_true hfree] at FR
        have HF := Lib.hid hfree; clear hfree
        go_wp2_with (go_at_call 57; refine FR.out.mono ?_; rintro e w' ⟨rfl, rfl⟩)
        go_round
        case rel =>
          refine ⟨m + 1, by omega, .inl (by omega), by go_num, fun t h1 h2 => ?_⟩
          by_cases htm : t < m
          · exact HA.out t h1 htm
          · have : t = m := by omega
            subst this
            rw [← HZ.out]; exact HF.out
        case measure => simp [intOf]; omega
      · rw [decide_eq_false hfree] at FR
        have HF := Lib.hid (show clearB p k i y x = false by
          rw [clearB_false]; intro h; have := h m hm1 hlt; rw [← HZ.out] at this; exact hfree this); clear hfree
        go_wp2_with (go_at_call 57; refine FR.out.mono ?_; rintro e w' ⟨rfl, rfl⟩)
        go_ret
        exact ⟨ret_bool HF.out.symm, hb⟩
    · have HF := Lib.hid (show clearB p k i y x = true by
        rw [clearB_iff]; intro t h1 h2; exact HA.out t h1 (by omega))
      go_wp2
      all_goals
        go_ret
        exact ⟨ret_bool HF.out.symm, hb⟩

theorem insight_any (v : Value) (p : List Int) (i k : Nat) (x y : Int) (w : World) (hr : Row w v p) (hv : validB p = true) (hi : i < p.length) (hk : k < p.length)
    (x0 : 0 ≤ x) (x1 : x ≤ 200) (y0 : 0 ≤ y) (y1 : y ≤ 200) :
    Calls Try.prog 55 #[v, .int .i64 i, .int .i64 x, .int .i64 k, .int .i64 y] w fun e w' => e = .returned (.bool (lookB p i k x y)) ∧ Below w.heap.size w w' := by
  unfold lookB
  by_cases h : i ≤ k
  · rw [if_pos h]; exact insight_le v p i k x y w hr hv h hk x0 x1 y0 y1
  · rw [if_neg h]; exact insight_gt v p i k x y w hr hv (by omega) hi x0 x1 y0 y1

end Go.Proofs.Ytjpcbegndnbeeaa
