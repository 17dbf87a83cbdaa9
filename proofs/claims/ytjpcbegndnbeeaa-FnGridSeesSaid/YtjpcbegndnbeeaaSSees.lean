/- Contract: l5Sees of the reference. -/
import Derived.Test.YtjpcbegndnbeeaaValid
import Derived.Test.YtjpcbegndnbeeaaPlainS
namespace Go.Proofs.Ytjpcbegndnbeeaa
open Go.RowKit

theorem ssees_any (v : Value) (p : List Int) (i k : Nat) (e : Int) (w : World) (hr : Row w v p) (hv : validB p = true) (hi : i < p.length) (hk : k < p.length) (e0 : 0 ≤ e) (e1 : e ≤ 50) :
    Calls Try.prog 50 #[v, .int .i64 i, .int .i64 k, .int .i64 e] w fun e' w' => e' = .returned (.bool (seesB p i k e)) ∧ ∃ q, w' = w.drewN q := by
  have hl := valid_len hv
  have hht := valid_ht' hv
  obtain ⟨a, cap, rfl⟩ := hr.shape
  obtain ⟨-, hc⟩ := hr.cells
  obtain ⟨n, hN⟩ : ∃ n, n = p.length := ⟨_, rfl⟩
  rw [← hN] at hc hl hk hi ⊢
  obtain ⟨l1, l2⟩ := hl
  obtain ⟨b, off, rfl, hci⟩ := hc i hi
  obtain ⟨b', off', he, hck⟩ := hc k hk
  simp only [Option.some.injEq, Addr.mk.injEq, and_true] at he
  obtain ⟨rfl, rfl⟩ := he
  have HS := Lib.hid (show seesB p i k e = lookB p i k (p.getD i 0 + e) (p.getD k 0) from rfl)
  have hx := hht i
  have hy := hht k
  obtain ⟨x, hX⟩ : ∃ x, x = p.getD i 0 := ⟨_, rfl⟩
  obtain ⟨y, hY⟩ : ∃ y, y = p.getD k 0 := ⟨_, rfl⟩
  rw [← hX] at hci hx HS
  rw [← hY] at hck hy HS
  obtain ⟨x0, x1⟩ := hx
  obtain ⟨y0, y1⟩ := hy
  have HH := Lib.hid hht; clear hht
  have HC := Lib.hid hc; clear hc hr hv hN hX hY
  rcases Nat.lt_trichotomy i k with hik | rfl | hik
  · rw [lookB, if_pos (Nat.le_of_lt hik)] at HS
    have hneq : ((i : Int) != (k : Int)) = true := by simp; omega
    go_enter Try.func50, Try.ntmps50
    go_wp2
    go_loopw [10] (fun j wr => ∃ m : Nat, i < m ∧ m ≤ k ∧ j = .int .i64 m ∧ (∀ t, i < t → t < m → p.getD t 0 * ((k : Int) - i) ≤ (x + e) * ((k : Int) - t) + y * ((t : Int) - i)) ∧ ∃ q, wr = w.drewN q) (fun j _ => k - (intOf j).toNat)
    case atStart => exact ⟨i + 1, by omega, by omega, by go_num, fun t _ _ => by omega, 0, rfl⟩
    case round =>
      obtain ⟨m, hm1, hm2, rfl, ha, q, rfl⟩ := hrel
      have HA := Lib.hid ha; clear ha
      by_cases hlt : m < k
      · obtain ⟨b', off', he, hcm⟩ := HC.out m (by omega)
        simp only [Option.some.injEq, Addr.mk.injEq, and_true] at he
        obtain ⟨rfl, rfl⟩ := he
        have hz := HH.out m
        obtain ⟨z, hZ⟩ : ∃ z, z = p.getD m 0 := ⟨_, rfl⟩
        rw [← hZ] at hcm hz
        have HZ := Lib.hid hZ; clear hZ
        obtain ⟨z0, z1⟩ := hz
        have hmk : ((m : Int) != (k : Int)) = true := by simp; omega
        obtain ⟨m0, m1⟩ := prod_bd (y := (k : Int) - i) z0 z1 (by omega) (show (k : Int) - i ≤ 20 by omega)
        obtain ⟨m2, m3⟩ := prod_bd (x := x + e) (y := (k : Int) - m) (by omega) (show x + e ≤ 200 by omega) (by omega) (show (k : Int) - m ≤ 20 by omega)
        obtain ⟨m4, m5⟩ := prod_bd (y := (m : Int) - i) y0 y1 (by omega) (show (m : Int) - i ≤ 20 by omega)
        by_cases hfree : z * ((k : Int) - i) ≤ (x + e) * ((k : Int) - m) + y * ((m : Int) - i)
        · have HF := Lib.hid hfree
          go_wp2
          go_quiet (fail)
          go_wp2
          go_roundw
          case rel =>
            refine ⟨m + 1, by omega, by omega, by go_num, fun t h1 h2 => ?_, _, rfl⟩
            by_cases htm : t < m
            · exact HA.out t h1 htm
            · have : t = m := by omega
              subst this
              rw [← HZ.out]; exact HF.out
          case measure => simp [intOf]; omega
        · have HF := Lib.hid (show clearB p i k (x + e) y = false by
            rw [clearB_false]; intro h; have := h m hm1 hlt; rw [← HZ.out] at this; exact hfree this)
          go_wp2
          go_quiet (fail)
          go_wp2
          go_ret
          exact ⟨ret_bool (by rw [HS.out, HF.out]), q + nq, by simp⟩
      · have hke : m = k := by omega
        subst hke
        have HF := Lib.hid (show clearB p i m (x + e) y = true by
          rw [clearB_iff]; intro t h1 h2; exact HA.out t h1 h2)
        have hmm : ((m : Int) != (m : Int)) = false := by simp
        go_wp2
        go_ret
        exact ⟨ret_bool (by rw [HS.out, HF.out]), _, rfl⟩
  · rw [lookB, if_pos (Nat.le_refl _)] at HS
    have HF := Lib.hid (show clearB p i i (x + e) y = true by rw [clearB_iff]; intro t h1 h2; omega)
    have hneq : ((i : Int) != (i : Int)) = false := by simp
    have hneq2 : ((i : Int) + 1 != (i : Int)) = true := by simp; omega
    go_enter Try.func50, Try.ntmps50
    go_wp2
    go_loop [10] (fun j => j = .int .i64 ((i : Int) + 1)) (fun _ => 0)
    case atStart => rfl
    case round =>
      obtain rfl := hrel
      go_wp2
      go_ret
      exact ⟨ret_bool (by rw [HS.out, HF.out]), 0, rfl⟩
  · rw [lookB, if_neg (by omega)] at HS
    have hneq : ((i : Int) != (k : Int)) = true := by simp; omega
    go_enter Try.func50, Try.ntmps50
    go_wp2
    go_loopw [10] (fun j wr => ∃ m : Nat, k ≤ m ∧ m < i ∧ j = .int .i64 m ∧ (∀ t, m < t → t < i → p.getD t 0 * ((i : Int) - k) ≤ y * ((i : Int) - t) + (x + e) * ((t : Int) - k)) ∧ ∃ q, wr = w.drewN q) (fun j _ => (intOf j).toNat - k)
    case atStart => exact ⟨i - 1, by omega, by omega, by rw [show ((i - 1 : Nat) : Int) = (i : Int) - 1 by omega]; rfl, fun t _ _ => by omega, 0, rfl⟩
    case round =>
      obtain ⟨m, hm1, hm2, rfl, ha, q, rfl⟩ := hrel
      have HA := Lib.hid ha; clear ha
      by_cases hlt : k < m
      · obtain ⟨b', off', he, hcm⟩ := HC.out m (by omega)
        simp only [Option.some.injEq, Addr.mk.injEq, and_true] at he
        obtain ⟨rfl, rfl⟩ := he
        have hz := HH.out m
        obtain ⟨z, hZ⟩ : ∃ z, z = p.getD m 0 := ⟨_, rfl⟩
        rw [← hZ] at hcm hz
        have HZ := Lib.hid hZ; clear hZ
        obtain ⟨z0, z1⟩ := hz
        have hmk : ((m : Int) != (k : Int)) = true := by simp; omega
        obtain ⟨m0, m1⟩ := prod_bd (y := (i : Int) - k) z0 z1 (by omega) (show (i : Int) - k ≤ 20 by omega)
        obtain ⟨m2, m3⟩ := prod_bd (x := x + e) (y := (m : Int) - k) (by omega) (show x + e ≤ 200 by omega) (by omega) (show (m : Int) - k ≤ 20 by omega)
        obtain ⟨m4, m5⟩ := prod_bd (y := (i : Int) - m) y0 y1 (by omega) (show (i : Int) - m ≤ 20 by omega)
        have f0 : z * -((k : Int) - i) = z * ((i : Int) - k) := by rw [Int.neg_sub]
        have f1 : -(x + e) * ((k : Int) - m) = (x + e) * ((m : Int) - k) := by rw [Int.neg_mul, ← Int.mul_neg, Int.neg_sub]
        have f2 : -y * ((m : Int) - i) = y * ((i : Int) - m) := by rw [Int.neg_mul, ← Int.mul_neg, Int.neg_sub]
        by_cases hfree : z * ((i : Int) - k) ≤ y * ((i : Int) - m) + (x + e) * ((m : Int) - k)
        · have HF := Lib.hid hfree
          have hfr2 : z * ((i : Int) - k) ≤ (x + e) * ((m : Int) - k) + y * ((i : Int) - m) := by omega
          go_wp2
          go_quiet (fail)
          go_wp2
          go_roundw
          case rel =>
            refine ⟨m - 1, by omega, by omega, by rw [show ((m - 1 : Nat) : Int) = (m : Int) + -1 by omega], fun t h1 h2 => ?_, _, rfl⟩
            by_cases htm : m < t
            · exact HA.out t htm h2
            · have : t = m := by omega
              subst this
              rw [← HZ.out]; exact HF.out
          case measure => simp [intOf]; omega
        · have HF := Lib.hid (show clearB p k i y (x + e) = false by
            rw [clearB_false]; intro h; have := h m hlt hm2; rw [← HZ.out] at this; exact hfree this)
          have hfr2 : ¬ z * ((i : Int) - k) ≤ (x + e) * ((m : Int) - k) + y * ((i : Int) - m) := by omega
          go_wp2
          go_quiet (fail)
          go_wp2
          go_ret
          exact ⟨ret_bool (by rw [HS.out, HF.out]), q + nq, by simp⟩
      · have hke : m = k := by omega
        subst hke
        have HF := Lib.hid (show clearB p m i y (x + e) = true by
          rw [clearB_iff]; intro t h1 h2; exact HA.out t h1 h2)
        have hmm : ((m : Int) != (m : Int)) = false := by simp
        go_wp2
        go_ret
        exact ⟨ret_bool (by rw [HS.out, HF.out]), _, rfl⟩

end Go.Proofs.Ytjpcbegndnbeeaa
