/- Contracts of the helpers of the laws: sameInts, hasInt. -/
import Derived.Test.YtkhhloeemecokaaBase
namespace Go.Proofs.Ytkhhloeemecokaa
open Go.RowKit

theorem same_any (va vb : Value) (xs ys : List Int) (w : World) (ha : Row w va xs) (hb : Row w vb ys) (hn : xs.length ≤ 1099511627776) (hn' : ys.length ≤ 1099511627776) :
    Calls Try.prog 15 #[va, vb] w fun e w' => e = .returned (.bool (decide (xs = ys))) ∧ ∃ n, w' = w.drewN n := by
  obtain ⟨a, cap, rfl⟩ := ha.shape
  obtain ⟨-, hca⟩ := ha.cells
  obtain ⟨b, cap', rfl⟩ := hb.shape
  obtain ⟨-, hcb⟩ := hb.cells
  obtain ⟨n, hN⟩ : ∃ n, n = xs.length := ⟨_, rfl⟩
  obtain ⟨m, hM⟩ : ∃ m, m = ys.length := ⟨_, rfl⟩
  rw [← hN] at hca hn ⊢
  rw [← hM] at hcb hn' ⊢
  have HN := Lib.hid hN; clear hN
  have HM := Lib.hid hM; clear hM
  have HA := Lib.hid hca; clear hca
  have HB := Lib.hid hcb; clear hcb
  clear ha hb
  by_cases hne : n = m
  · subst hne
    have hb0 : ((n : Int) != (n : Int)) = false := by simp
    go_enter Try.func15, Try.ntmps15
    go_wp2
    go_loopw [5] (fun i wr => ∃ k : Nat, k ≤ n ∧ i = .int .i64 k ∧ xs.take k = ys.take k ∧ ∃ q, wr = w.drewN q) (fun i _ => n - (intOf i).toNat)
    case atStart => exact ⟨0, Nat.zero_le _, rfl, rfl, 0, rfl⟩
    case round =>
      obtain ⟨k, hk, rfl, ht, q, rfl⟩ := hrel
      have HT := Lib.hid ht; clear ht
      by_cases hlt : k < n
      · obtain ⟨ba, oa, rfl, hcella⟩ := HA.out k hlt
        obtain ⟨bb, ob, rfl, hcellb⟩ := HB.out k hlt
        have k1 : (0 : Int) ≤ (k : Int) := by omega
        have k2 : (k : Int) < (n : Int) := by omega
        obtain ⟨x, hx⟩ : ∃ x, x = xs.getD k 0 := ⟨_, rfl⟩
        obtain ⟨y, hy⟩ : ∃ y, y = ys.getD k 0 := ⟨_, rfl⟩
        rw [← hx] at hcella
        rw [← hy] at hcellb
        have HX := Lib.hid hx; clear hx
        have HY := Lib.hid hy; clear hy
        by_cases he : x = y
        · subst he
          have heb : (x != x) = false := by simp
          go_wp2
          go_quiet (fail)
          go_wp2
          go_roundw
          case rel => exact ⟨k + 1, by omega, by go_num, take_eq_step xs ys k (by have := HN.out; omega) (by have := HM.out; omega) HT.out (HX.out.symm.trans HY.out), _, rfl⟩
          case measure => simp [intOf]; omega
        · have heb : (x != y) = true := by simpa using he
          have HE := Lib.hid (ne_of_getD xs ys k (by rw [← HX.out, ← HY.out]; exact he)); clear he
          go_wp2
          go_quiet (fail)
          go_wp2
          go_ret
          exact ⟨ret_bool (by simp [HE.out]), q + nq, by simp⟩
      · go_wp2
        go_ret
        have : xs = ys := by
          have h1 := HT.out
          rw [List.take_of_length_le (by have := HN.out; omega), List.take_of_length_le (by have := HM.out; omega)] at h1
          exact h1
        exact ⟨ret_bool (by simp [this]), _, rfl⟩
  · have hb0 : ((n : Int) != (m : Int)) = true := by simp; omega
    have HE := Lib.hid (show ¬ xs = ys from fun h => hne (by rw [HN.out, HM.out, h])); clear hne
    go_enter Try.func15, Try.ntmps15
    go_wp2
    go_ret
    exact ⟨ret_bool (by simp [HE.out]), 0, rfl⟩

theorem has_any (v : Value) (zs : List Int) (x : Int) (w : World) (hr : Row w v zs) (hn : zs.length ≤ 1099511627776) :
    Calls Try.prog 17 #[v, .int .i64 x] w fun e w' => e = .returned (.bool (decide (x ∈ zs))) ∧ w = w' := by
  obtain ⟨a, cap, rfl⟩ := hr.shape
  obtain ⟨-, hc⟩ := hr.cells
  obtain ⟨n, hN⟩ : ∃ n, n = zs.length := ⟨_, rfl⟩
  rw [← hN] at hc hn ⊢
  have HN := Lib.hid hN; clear hN
  have HC := Lib.hid hc; clear hc hr
  go_enter Try.func17, Try.ntmps17
  go_wp2
  go_loop [5] (fun i => ∃ k : Nat, k ≤ n ∧ i = .int .i64 k ∧ ∀ j, j < k → zs.getD j 0 ≠ x) (fun i => n - (intOf i).toNat)
  case atStart => exact ⟨0, Nat.zero_le _, rfl, fun j h => by omega⟩
  case round =>
    obtain ⟨k, hk, rfl, ha⟩ := hrel
    have HA := Lib.hid ha; clear ha
    by_cases hlt : k < n
    · obtain ⟨b, off, rfl, hcell⟩ := HC.out k hlt
      obtain ⟨y, hy⟩ : ∃ y, y = zs.getD k 0 := ⟨_, rfl⟩
      rw [← hy] at hcell
      have HY := Lib.hid hy; clear hy
      by_cases he : y = x
      · have HF := Lib.hid (show x ∈ zs by
          have h1 : k < zs.length := by have := HN.out; omega
          have h2 := HY.out
          simp [h1] at h2
          rw [← he, h2]; exact List.getElem_mem h1)
        have hb : (y == x) = true := by simpa using he
        clear he
        go_wp2
        go_ret
        exact ⟨ret_bool (by simp [HF.out]), rfl⟩
      · have hb : (y == x) = false := by simpa using he
        have HE := Lib.hid he; clear he
        go_wp2
        go_round
        case rel =>
          refine ⟨k + 1, by omega, by go_num, fun j h => ?_⟩
          by_cases ej : j = k
          · subst ej; rw [← HY.out]; exact HE.out
          · exact HA.out j (by omega)
        case measure => simp [intOf]; omega
    · have HF := Lib.hid (show ¬ x ∈ zs from fun hx => by
        obtain ⟨j, hj, e⟩ := List.getElem_of_mem hx
        have h3 := HA.out j (by have := HN.out; omega)
        simp [hj] at h3
        exact h3 e)
      go_wp2
      go_ret
      exact ⟨ret_bool (by simp [HF.out]), rfl⟩

end Go.Proofs.Ytkhhloeemecokaa
