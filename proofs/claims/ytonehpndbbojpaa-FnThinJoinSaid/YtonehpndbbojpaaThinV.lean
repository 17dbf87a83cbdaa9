/- Contracts: ThinValid of the program and of the reference. -/
import Derived.Test.YtonehpndbbojpaaValid
import Derived.Test.YtonehpndbbojpaaBase
import Derived.RegionTactic
import Derived.ChangeAlike
namespace Go.Proofs.Ytonehpndbbojpaa
open Go.RowKit

theorem ithinv_any (v u : Value) (p l : List Int) (w : World) (hr : Row w v p) (hn : p.length ≤ 1099511627776) (hs : Row w u l) (hm : l.length ≤ 1099511627776) :
    Calls Try.prog 18 #[v, u] w fun e w' => e = .returned (.bool (thinB p l)) ∧ ∃ q, w' = w.drewN q := by
  have e0 := ivalid_any v p w hr hn
  obtain ⟨a, cap, rfl⟩ := hr.shape
  obtain ⟨a', cap', rfl⟩ := hs.shape
  obtain ⟨-, hc⟩ := hs.cells
  obtain ⟨n, hN⟩ : ∃ n, n = p.length := ⟨_, rfl⟩
  obtain ⟨m, hM⟩ : ∃ m, m = l.length := ⟨_, rfl⟩
  rw [← hN] at hn e0 ⊢
  rw [← hM] at hm hc ⊢
  have HN := Lib.hid hN; clear hN
  have HM := Lib.hid hM; clear hM
  have HC := Lib.hid hc; clear hc hr hs
  cases hv : validB p
  · have hB := Lib.hid (show thinB p l = false by rw [thinB_false]; intro h; rw [h.1] at hv; simp at hv)
    rw [hv] at e0
    clear hv
    go_enter Try.func18, Try.ntmps18
    go_wp2_with (go_at_call 52; refine e0.mono ?_; rintro e w' ⟨rfl, rfl⟩)
    go_ret
    exact ⟨ret_bool hB.out.symm, 0, rfl⟩
  · rw [hv] at e0
    have HV := Lib.hid hv; clear hv
    have E0 := Lib.hid e0; clear e0
    have hnz := valid_len HV.out
    rw [← HN.out] at hnz
    obtain ⟨hn1, hn2⟩ := hnz
    by_cases h0 : m = 0
    · subst h0
      have hB := Lib.hid (show thinB p l = false by rw [thinB_false]; intro h; have := h.2.1; have := HM.out; omega)
      go_enter Try.func18, Try.ntmps18
      go_wp2_with (go_at_call 52; refine E0.out.mono ?_; rintro e w' ⟨rfl, rfl⟩)
      go_ret
      exact ⟨ret_bool hB.out.symm, 0, rfl⟩
    · obtain ⟨b, off, rfl, hcell0⟩ := HC.out 0 (by omega)
      obtain ⟨b', off', he, hcell1⟩ := HC.out (m - 1) (by omega)
      simp only [Option.some.injEq, Addr.mk.injEq, and_true] at he
      obtain ⟨rfl, rfl⟩ := he
      obtain ⟨x, hx⟩ : ∃ x, x = l.getD 0 0 := ⟨_, rfl⟩
      obtain ⟨y, hy⟩ : ∃ y, y = l.getD (m - 1) 0 := ⟨_, rfl⟩
      rw [← hx, Nat.add_zero] at hcell0
      rw [← hy] at hcell1
      have HX := Lib.hid hx; clear hx
      have HY := Lib.hid hy; clear hy
      have h0' : ((m : Int) == 0) = false := by simp; omega
      by_cases hx0 : x = 0
      · subst hx0
        by_cases hy0 : y = (n : Int) - 1
        · subst hy0
          have hyb : (((n : Int) - 1) != ((n : Int) - 1)) = false := by simp
          go_enter Try.func18, Try.ntmps18
          go_wp2_with (go_at_call 52; refine E0.out.mono ?_; rintro e w' ⟨rfl, rfl⟩)
          clear E0 hcell0 hcell1
          go_loopw [5] (fun i wr => ∃ k : Nat, 1 ≤ k ∧ k ≤ m ∧ i = .int .i64 k ∧ (∀ i, 1 ≤ i → i < k → l.getD (i - 1) 0 < l.getD i 0) ∧ ∃ q, wr = w.drewN q) (fun i _ => m - (intOf i).toNat)
          case atStart => exact ⟨1, by omega, by omega, rfl, fun i _ _ => by omega, 0, rfl⟩
          case round =>
            obtain ⟨k, hk1, hk, rfl, ha, q, rfl⟩ := hrel
            have HA := Lib.hid ha; clear ha
            by_cases hlt : k < m
            · obtain ⟨b1, off1, he, hcella⟩ := HC.out k hlt
              simp only [Option.some.injEq, Addr.mk.injEq, and_true] at he
              obtain ⟨rfl, rfl⟩ := he
              obtain ⟨b1, off1, he, hcellb⟩ := HC.out (k - 1) (by omega)
              simp only [Option.some.injEq, Addr.mk.injEq, and_true] at he
              obtain ⟨rfl, rfl⟩ := he
              obtain ⟨z, hz⟩ : ∃ z, z = l.getD k 0 := ⟨_, rfl⟩
              obtain ⟨t, ht⟩ : ∃ t, t = l.getD (k - 1) 0 := ⟨_, rfl⟩
              rw [← hz] at hcella
              rw [← ht] at hcellb
              have HZ := Lib.hid hz; clear hz
              have HT := Lib.hid ht; clear ht
              by_cases hzt : z ≤ t
              · have hB := Lib.hid (show thinB p l = false by rw [thinB_false]; intro h; have := h.2.2.2.2 k hk1 (by rw [← HM.out]; exact hlt); rw [← HZ.out, ← HT.out] at this; omega)
                go_wp2
                go_quiet (fail)
                go_wp2
                go_ret
                exact ⟨ret_bool hB.out.symm, q + nq, by simp⟩
              · go_wp2
                go_quiet (fail)
                go_wp2
                go_roundw
                case rel =>
                  refine ⟨k + 1, by omega, by omega, by go_num, fun i h1 h2 => ?_, _, rfl⟩
                  by_cases hik : i < k
                  · exact HA.out i h1 hik
                  · have : i = k := by omega
                    subst this
                    rw [← HZ.out, ← HT.out]; omega
                case measure => simp [intOf]; omega
            · have hke : k = m := by omega
              subst hke
              have hB := Lib.hid (show thinB p l = true by
                rw [thinB_iff]
                exact ⟨HV.out, by rw [← HM.out]; omega, HX.out.symm, by rw [← HM.out, ← HN.out]; exact HY.out.symm, by rw [← HM.out]; exact HA.out⟩)
              go_wp2
              go_ret
              exact ⟨ret_bool hB.out.symm, _, rfl⟩
        · have hB := Lib.hid (show thinB p l = false by rw [thinB_false]; intro h; have := h.2.2.2.1; rw [← HM.out, ← HY.out, ← HN.out] at this; exact hy0 this)
          have hyb : (y != ((n : Int) - 1)) = true := by simpa using hy0
          go_enter Try.func18, Try.ntmps18
          go_wp2_with (go_at_call 52; refine E0.out.mono ?_; rintro e w' ⟨rfl, rfl⟩)
          go_ret
          exact ⟨ret_bool hB.out.symm, 0, rfl⟩
      · have hB := Lib.hid (show thinB p l = false by rw [thinB_false]; intro h; have := h.2.2.1; rw [← HX.out] at this; exact hx0 this)
        have hxb : (x != 0) = true := by simpa using hx0
        go_enter Try.func18, Try.ntmps18
        go_wp2_with (go_at_call 52; refine E0.out.mono ?_; rintro e w' ⟨rfl, rfl⟩)
        go_ret
        exact ⟨ret_bool hB.out.symm, 0, rfl⟩

theorem sthinv_any (v u : Value) (p l : List Int) (w : World) (hr : Row w v p) (hn : p.length ≤ 1099511627776) (hs : Row w u l) (hm : l.length ≤ 1099511627776) :
    Calls Try.prog 20 #[v, u] w fun e w' => e = .returned (.bool (thinB p l)) ∧ ∃ q, w' = w.drewN q := by
  have e0 := svalid_any v p w hr hn
  obtain ⟨a, cap, rfl⟩ := hr.shape
  obtain ⟨a', cap', rfl⟩ := hs.shape
  obtain ⟨-, hc⟩ := hs.cells
  obtain ⟨n, hN⟩ : ∃ n, n = p.length := ⟨_, rfl⟩
  obtain ⟨m, hM⟩ : ∃ m, m = l.length := ⟨_, rfl⟩
  rw [← hN] at hn e0 ⊢
  rw [← hM] at hm hc ⊢
  have HN := Lib.hid hN; clear hN
  have HM := Lib.hid hM; clear hM
  have HC := Lib.hid hc; clear hc hr hs
  have E0 := Lib.hid e0; clear e0
  go_enter Try.func20, Try.ntmps20
  go_wp2
  go_loop [5, 6] (fun t i => ∃ (k : Nat) (z : Int), k ≤ m ∧ i = .int .i64 k ∧ t = .int .i64 z ∧ -1 ≤ z ∧ z ≤ (n : Int) ∧ (k = 0 → z = -1) ∧ (1 ≤ k → z = l.getD (k - 1) 0) ∧ (∀ i, 1 ≤ i → i < k → l.getD (i - 1) 0 < l.getD i 0)) (fun _ i => m - (intOf i).toNat)
  case atStart => exact ⟨0, -1, Nat.zero_le _, rfl, rfl, by omega, by omega, fun _ => rfl, fun h => by omega, fun i _ h => by omega⟩
  case round =>
    obtain ⟨k, z, hk, rfl, rfl, hz1, hz2, hz3, hz4, ha⟩ := hrel
    have HZ3 := Lib.hid hz3; clear hz3
    have HZ4 := Lib.hid hz4; clear hz4
    have HA := Lib.hid ha; clear ha
    by_cases hlt : k < m
    · obtain ⟨b, off, rfl, hcell⟩ := HC.out k hlt
      obtain ⟨x, hx⟩ : ∃ x, x = l.getD k 0 := ⟨_, rfl⟩
      rw [← hx] at hcell
      have HX := Lib.hid hx; clear hx
      cases hh : inB x (z + 1) ((n : Int) - 1)
      · have hB := Lib.hid (show thinB p l = false by
          rw [thinB_false]; intro h
          rw [inB_false] at hh
          have h1 := h.bd k (by rw [← HM.out]; exact hlt)
          rw [← HX.out, ← HN.out] at h1
          by_cases hk0 : k = 0
          · have := HZ3.out hk0; omega
          · have := HZ4.out (by omega)
            have h2 := h.2.2.2.2 k (by omega) (by rw [← HM.out]; exact hlt)
            rw [← HX.out, ← this] at h2
            omega)
        go_wp2_with (go_at_call 55; refine (in_any _ _ _ _).mono ?_; rintro e w' ⟨rfl, rfl⟩)
        go_ret
        exact ⟨ret_bool hB.out.symm, 0, rfl⟩
      · have hi := inB_iff.mp hh
        obtain ⟨hi1, hi2⟩ := hi
        go_wp2_with (go_at_call 55; refine (in_any _ _ _ _).mono ?_; rintro e w' ⟨rfl, rfl⟩)
        go_round
        case rel =>
          refine ⟨k + 1, x, by omega, by go_num, rfl, by omega, by omega, fun h => by omega, fun _ => by simpa using HX.out, fun i h1 h2 => ?_⟩
          by_cases hik : i < k
          · exact HA.out i h1 hik
          · have : i = k := by omega
            subst this
            rw [← HX.out, ← HZ4.out h1]; omega
        case measure => simp [intOf]; omega
    · have hke : k = m := by omega
      subst hke
      have HB := Lib.hid (show Thin p l ↔ (validB p = true ∧ 0 < k ∧ l.getD 0 0 = 0 ∧ z = (n : Int) - 1) by
        constructor
        · rintro ⟨h1, h2, h3, h4, _⟩
          rw [← HM.out] at h2 h4
          rw [← HN.out] at h4
          exact ⟨h1, h2, h3, by rw [HZ4.out (by omega)]; exact h4⟩
        · rintro ⟨h1, h2, h3, h4⟩
          exact ⟨h1, by rw [← HM.out]; exact h2, h3, by rw [← HM.out, ← HN.out, ← HZ4.out (by omega)]; exact h4, by rw [← HM.out]; exact HA.out⟩)
      cases hv : validB p
      · have E1 := E0.out; rw [hv] at E1
        have hB := Lib.hid (show thinB p l = false by rw [thinB_false, HB.out, hv]; simp)
        go_wp2_with (go_at_call 53; refine E1.mono ?_; rintro e w' ⟨rfl, rfl⟩)
        go_ret
        exact ⟨ret_bool hB.out.symm, 0, rfl⟩
      · have E1 := E0.out; rw [hv] at E1
        by_cases h0 : k = 0
        · have hB := Lib.hid (show thinB p l = false by rw [thinB_false, HB.out]; omega)
          subst h0
          go_wp2_with (go_at_call 53; refine E1.mono ?_; rintro e w' ⟨rfl, rfl⟩)
          go_ret
          exact ⟨ret_bool hB.out.symm, 0, rfl⟩
        · obtain ⟨b, off, rfl, hcell0⟩ := HC.out 0 (by omega)
          obtain ⟨x, hx⟩ : ∃ x, x = l.getD 0 0 := ⟨_, rfl⟩
          rw [← hx, Nat.add_zero] at hcell0
          have hB := Lib.hid (show thinB p l = (decide (x = 0 ∧ z = (n : Int) - 1)) by
            rw [Bool.eq_iff_iff, thinB_iff, HB.out, hv, ← hx]; simp; omega)
          clear hx
          by_cases hx0 : x = 0
          · subst hx0
            by_cases hz0 : z = (n : Int) - 1
            · have hzb : (z == (n : Int) - 1) = true := by simpa using hz0
              have hB' := Lib.hid (show thinB p l = true by rw [hB.out]; simp [hz0])
              clear hz0
              go_wp2_with (go_at_call 53; refine E1.mono ?_; rintro e w' ⟨rfl, rfl⟩)
              go_ret
              exact ⟨ret_bool hB'.out.symm, 0, rfl⟩
            · have hzb : (z == (n : Int) - 1) = false := by simpa using hz0
              have hB' := Lib.hid (show thinB p l = false by rw [hB.out]; simp [hz0])
              clear hz0
              go_wp2_with (go_at_call 53; refine E1.mono ?_; rintro e w' ⟨rfl, rfl⟩)
              go_ret
              exact ⟨ret_bool hB'.out.symm, 0, rfl⟩
          · have hxb : (x == 0) = false := by simpa using hx0
            have hB' := Lib.hid (show thinB p l = false by rw [hB.out]; simp [hx0])
            clear hx0
            go_wp2_with (go_at_call 53; refine E1.mono ?_; rintro e w' ⟨rfl, rfl⟩)
            go_ret
            exact ⟨ret_bool hB'.out.symm, 0, rfl⟩

end Go.Proofs.Ytonehpndbbojpaa
