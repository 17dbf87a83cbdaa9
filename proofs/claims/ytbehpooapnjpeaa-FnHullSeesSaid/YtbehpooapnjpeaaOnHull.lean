/- Contract: onHull of the program. -/
import Derived.Test.YtbehpooapnjpeaaSees
import Derived.Deep.RegionHeld3
namespace Go.Proofs.Ytbehpooapnjpeaa
open Go.RowKit

theorem free_yes (j h lo hi a b : Int) (c0 c1 c2 c3 : Nat) (w : World)
    (h0 : w.cell? ⟨c0, 0, none⟩ = some (.int .i64 lo)) (h1 : w.cell? ⟨c1, 0, none⟩ = some (.int .i64 a)) (h2 : w.cell? ⟨c2, 0, none⟩ = some (.int .i64 hi)) (h3 : w.cell? ⟨c3, 0, none⟩ = some (.int .i64 b))
    (l0 : 0 ≤ lo) (l1 : lo ≤ j) (l2 : j ≤ hi) (l3 : hi ≤ 20) (a0 : 0 ≤ a) (a1 : a ≤ 200) (b0 : 0 ≤ b) (b1 : b ≤ 200) (x0 : 0 ≤ h) (x1 : h ≤ 200)
    (hle : h * (hi - lo) ≤ a * (hi - j) + b * (j - lo)) :
    Calls Try.prog 65 #[.int .i64 j, .int .i64 h, .pointer (some ⟨c2, 0, none⟩), .pointer (some ⟨c0, 0, none⟩), .pointer (some ⟨c1, 0, none⟩), .pointer (some ⟨c3, 0, none⟩)] w
      fun e w' => e = .returned (.bool true) ∧ w = w' := by
  have := free_any j h lo hi a b c0 c1 c2 c3 w h0 h1 h2 h3 l0 l1 l2 l3 a0 a1 b0 b1 x0 x1
  rw [decide_eq_true hle] at this
  exact this

theorem free_no (j h lo hi a b : Int) (c0 c1 c2 c3 : Nat) (w : World)
    (h0 : w.cell? ⟨c0, 0, none⟩ = some (.int .i64 lo)) (h1 : w.cell? ⟨c1, 0, none⟩ = some (.int .i64 a)) (h2 : w.cell? ⟨c2, 0, none⟩ = some (.int .i64 hi)) (h3 : w.cell? ⟨c3, 0, none⟩ = some (.int .i64 b))
    (l0 : 0 ≤ lo) (l1 : lo ≤ j) (l2 : j ≤ hi) (l3 : hi ≤ 20) (a0 : 0 ≤ a) (a1 : a ≤ 200) (b0 : 0 ≤ b) (b1 : b ≤ 200) (x0 : 0 ≤ h) (x1 : h ≤ 200)
    (hle : a * (hi - j) + b * (j - lo) < h * (hi - lo)) :
    Calls Try.prog 65 #[.int .i64 j, .int .i64 h, .pointer (some ⟨c2, 0, none⟩), .pointer (some ⟨c0, 0, none⟩), .pointer (some ⟨c1, 0, none⟩), .pointer (some ⟨c3, 0, none⟩)] w
      fun e w' => e = .returned (.bool false) ∧ w = w' := by
  have := free_any j h lo hi a b c0 c1 c2 c3 w h0 h1 h2 h3 l0 l1 l2 l3 a0 a1 b0 b1 x0 x1
  rw [decide_eq_false (by omega)] at this
  exact this

/-- Above all straight lines that begin ahead of i. -/
def hull1 (p : List Int) (j i : Nat) : Prop := ∀ i', i' < i → ∀ k, j < k → k < p.length → overB p i' j k = true
def hull2 (p : List Int) (j i t : Nat) : Prop := ∀ k, j < k → k < t → overB p i j k = true
theorem hull1_step {p : List Int} {j i : Nat} (h : hull1 p j i) (h2 : hull2 p j i p.length) : hull1 p j (i + 1) := by
  intro i' hi k h3 h4
  by_cases e : i' = i
  · subst e; exact h2 k h3 h4
  · exact h i' (by omega) k h3 h4
theorem hull2_step {p : List Int} {j i t : Nat} (h : hull2 p j i t) (h2 : overB p i j t = true) : hull2 p j i (t + 1) := by
  intro k h3 h4
  by_cases e : k = t
  · subst e; exact h2
  · exact h k h3 (by omega)
theorem hull_of1 {p : List Int} {j : Nat} (h : hull1 p j j) : hullB p j = true := by
  rw [hullB_iff]; intro i k h1 h2 h3; exact h i h1 k h2 h3
theorem hull_not {p : List Int} {i j k : Nat} (h1 : i < j) (h2 : j < k) (h3 : k < p.length) (h : overB p i j k = false) : hullB p j = false := by
  rw [hullB_false]; intro hh; have := hh i k h1 h2 h3; rw [h] at this; cases this
theorem over_iff {p : List Int} {i j k : Nat} : overB p i j k = true ↔ ¬ (p.getD j 0 * ((k : Int) - i) ≤ p.getD i 0 * ((k : Int) - j) + p.getD k 0 * ((j : Int) - i)) := by simp [overB]
theorem over_false {p : List Int} {i j k : Nat} : overB p i j k = false ↔ p.getD j 0 * ((k : Int) - i) ≤ p.getD i 0 * ((k : Int) - j) + p.getD k 0 * ((j : Int) - i) := by simp [overB]

set_option maxHeartbeats 400000 in
theorem onhull_any (v : Value) (p : List Int) (j : Nat) (w : World) (hr : Row w v p) (hv : validB p = true) (hj : j < p.length) :
    Calls Try.prog 57 #[v, .int .i64 j] w fun e w' => e = .returned (.bool (hullB p j)) ∧ Below w.heap.size w w' := by
  have hl := valid_len hv
  have HH := Lib.hid (valid_ht' hv)
  obtain ⟨a, cap, rfl⟩ := hr.shape
  obtain ⟨-, hc⟩ := hr.cells
  have HS1 := Lib.hid (fun i => @hull1_step p j i)
  have HNot := Lib.hid (fun i k => @hull_not p i j k)
  obtain ⟨n, hN⟩ : ∃ n, n = p.length := ⟨_, rfl⟩
  rw [← hN] at hc hl hj HS1 HNot ⊢
  obtain ⟨l1, l2⟩ := hl
  obtain ⟨b, off, rfl, hcj⟩ := hc j hj
  have HC := Lib.hid hc; clear hc hr hv hN
  have hy := HH.out j
  obtain ⟨y, hY⟩ : ∃ y, y = p.getD j 0 := ⟨_, rfl⟩
  rw [← hY] at hcj hy
  have HY := Lib.hid hY; clear hY
  obtain ⟨y0, y1⟩ := hy
  go_enter Try.func57, Try.ntmps57
  go_wp2
  go_loopw [8] (fun s wr => ∃ m : Nat, m ≤ j ∧ s = .int .i64 m ∧ hull1 p j m ∧ Below w.heap.size w wr) (fun s _ => j - (intOf s).toNat)
  case atStart => exact ⟨0, Nat.zero_le _, rfl, fun i' h => by omega, Below.refl _ _⟩
  case round =>
    obtain ⟨m, hm, rfl, h1, hb⟩ := hrel
    have H1 := Lib.hid h1; clear h1
    have HBe := Lib.hid hb; clear hb
    by_cases hlt : m < j
    · obtain ⟨b', off', he, hci⟩ := HC.out m (by omega)
      simp only [Option.some.injEq, Addr.mk.injEq, and_true] at he
      obtain ⟨rfl, rfl⟩ := he
      have hx := HH.out m
      obtain ⟨x, hX⟩ : ∃ x, x = p.getD m 0 := ⟨_, rfl⟩
      rw [← hX] at hci hx
      have HX := Lib.hid hX; clear hX
      obtain ⟨x0, x1⟩ := hx
      go_wp2
      obtain ⟨wo, rfl⟩ : ∃ wo : World, wo = wr := ⟨_, rfl⟩
      go_loopw [6] (fun s wr => ∃ t : Nat, j < t ∧ t ≤ n ∧ s = .int .i64 t ∧ hull2 p j m t ∧ Below w.heap.size w wr) (fun s _ => n - (intOf s).toNat)
      case atStart => exact ⟨j + 1, by omega, by omega, by go_num, fun k h3 h4 => by omega, HBe.out⟩
      case round =>
        obtain ⟨t, ht1, ht2, rfl, h2, hb⟩ := hrel
        clear HBe
        have H2 := Lib.hid h2; clear h2
        have HBe := Lib.hid hb; clear hb
        have hsz := HBe.out.size
        by_cases hlt2 : t < n
        · obtain ⟨b', off', he, hck⟩ := HC.out t hlt2
          simp only [Option.some.injEq, Addr.mk.injEq, and_true] at he
          obtain ⟨rfl, rfl⟩ := he
          have hz := HH.out t
          obtain ⟨z, hZ⟩ : ∃ z, z = p.getD t 0 := ⟨_, rfl⟩
          rw [← hZ] at hck hz
          have HZ := Lib.hid hZ; clear hZ
          obtain ⟨z0, z1⟩ := hz
          have hlti := World.block_lt_of_cell? w _ hcj
          have kmn : (m : Int) < (n : Int) := by omega
          have kjn : (j : Int) < (n : Int) := by omega
          have ktn : (t : Int) < (n : Int) := by omega
          have kj := (HBe.out.cell (p := ⟨b, off + j, none⟩) hlti).trans hcj
          have ki := (HBe.out.cell (p := ⟨b, off + m, none⟩) hlti).trans hci
          have kk := (HBe.out.cell (p := ⟨b, off + t, none⟩) hlti).trans hck
          by_cases hfree : y * ((t : Int) - m) ≤ x * ((t : Int) - j) + z * ((j : Int) - m)
          · have HF := Lib.hid (HNot.out m t hlt ht1 hlt2 (by rw [over_false, ← HX.out, ← HY.out, ← HZ.out]; exact hfree))
            go_wp2
            go_region_held3 (fun w' => w'.cell? ⟨b, off + j, none⟩ = some (.int .i64 y) ∧ w'.cell? ⟨b, off + m, none⟩ = some (.int .i64 x) ∧ w'.cell? ⟨b, off + t, none⟩ = some (.int .i64 z)) (go_keep)
              (first
                | (go_at_call 62; refine (sight_le _ _ _ _ _ (by omega)).mono ?_; rintro e w2 ⟨fv, rfl, hs, hb2⟩; obtain ⟨c0, c1, c2, c3, rfl, q0, q1, q2, q3⟩ := hs; (have hlt3 : b < wr.heap.size := by omega); (have k1 := (hb2.cell (p := ⟨b, off + j, none⟩) hlt3).trans kj); (have k2 := (hb2.cell (p := ⟨b, off + m, none⟩) hlt3).trans ki); (have k3 := (hb2.cell (p := ⟨b, off + t, none⟩) hlt3).trans kk))
                | (go_at_call 65; refine (free_yes _ _ _ _ _ _ _ _ _ _ _ q0 q1 q2 q3 (by omega) (by omega) (by omega) (by omega) (by omega) (by omega) (by omega) (by omega) (by omega) (by omega) hfree).mono ?_; rintro e w3 ⟨rfl, rfl⟩))
            go_wp2
            go_ret
            exact ⟨ret_bool HF.out.symm, (below_drewN HBe.out 1).trans (hb2.mono hsz)⟩
          · have HF := Lib.hid (hull2_step H2.out (by rw [over_iff, ← HX.out, ← HY.out, ← HZ.out]; exact hfree))
            go_wp2
            go_region_held3 (fun w' => w'.cell? ⟨b, off + j, none⟩ = some (.int .i64 y) ∧ w'.cell? ⟨b, off + m, none⟩ = some (.int .i64 x) ∧ w'.cell? ⟨b, off + t, none⟩ = some (.int .i64 z)) (go_keep)
              (first
                | (go_at_call 62; refine (sight_le _ _ _ _ _ (by omega)).mono ?_; rintro e w2 ⟨fv, rfl, hs, hb2⟩; obtain ⟨c0, c1, c2, c3, rfl, q0, q1, q2, q3⟩ := hs; (have hlt3 : b < wr.heap.size := by omega); (have k1 := (hb2.cell (p := ⟨b, off + j, none⟩) hlt3).trans kj); (have k2 := (hb2.cell (p := ⟨b, off + m, none⟩) hlt3).trans ki); (have k3 := (hb2.cell (p := ⟨b, off + t, none⟩) hlt3).trans kk))
                | (go_at_call 65; refine (free_no _ _ _ _ _ _ _ _ _ _ _ q0 q1 q2 q3 (by omega) (by omega) (by omega) (by omega) (by omega) (by omega) (by omega) (by omega) (by omega) (by omega) hfree).mono ?_; rintro e w3 ⟨rfl, rfl⟩))
            go_wp2
            go_roundw
            case rel => exact ⟨t + 1, by omega, by omega, by go_num, HF.out, (below_drewN HBe.out 1).trans (hb2.mono hsz)⟩
            case measure => simp [intOf]; omega
        · have hke : t = n := by omega
          subst hke
          go_wp2
          go_roundw
          case rel => exact ⟨m + 1, by omega, by go_num, HS1.out m H1.out H2.out, HBe.out⟩
          case measure => simp [intOf]; omega
    · have hke : m = j := by omega
      subst hke
      have HF := Lib.hid (hull_of1 H1.out)
      go_wp2
      go_ret
      exact ⟨ret_bool HF.out.symm, HBe.out⟩

end Go.Proofs.Ytbehpooapnjpeaa
