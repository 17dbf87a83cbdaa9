/- Contracts: ProfilePairs of the program and of the reference. -/
import Derived.Test.YtjpcbegndnbeeaaSees
namespace Go.Proofs.Ytjpcbegndnbeeaa
open Go.RowKit

theorem pairsS_succ (p : List Int) (m : Nat) : pairsS p (m + 1) = pairsS p m + cntB (fun i => seesB p i m 0) m := rfl

theorem ipairs_any (v : Value) (p : List Int) (w : World) (hr : Row w v p) (hn : p.length ≤ 1099511627776) :
    Calls Try.prog 35 #[v] w fun e w' => e = .returned (.int .i64 (pairsV p)) ∧ Below w.heap.size w w' := by
  have HV := Lib.hid (ivalid_any v p w hr hn)
  cases hv : validB p
  · have HB := Lib.hid (show pairsV p = -1 by simp [pairsV, hv])
    rw [hv] at HV
    clear hv
    go_enter Try.func35, Try.ntmps35
    go_wp2_with (go_at_call 41; refine HV.out.mono ?_; rintro e w' ⟨rfl, rfl⟩)
    go_ret
    exact ⟨ret_int HB.out.symm, Below.refl _ _⟩
  · have HB := Lib.hid (show pairsV p = pairsS p p.length by simp [pairsV, hv])
    rw [hv] at HV
    have hl := valid_len hv
    obtain ⟨a, cap, rfl⟩ := hr.shape
    obtain ⟨n, hN⟩ : ∃ n, n = p.length := ⟨_, rfl⟩
    have HG := Lib.hid (fun (i k : Nat) (wr : World) (hi : i < p.length) (hk : k < p.length) (hb : Below w.heap.size w wr) => ground_any _ p i k wr (hr.below hb) hv hi hk)
    rw [← hN] at hn hl HV HB HG ⊢
    obtain ⟨l1, l2⟩ := hl
    clear hr hv hN
    go_enter Try.func35, Try.ntmps35
    go_wp2_with (go_at_call 41; refine HV.out.mono ?_; rintro e w' ⟨rfl, rfl⟩)
    go_loopw [3, 11] (fun t j wr => ∃ m : Nat, m ≤ n ∧ j = .int .i64 m ∧ t = .int .i64 (pairsS p m) ∧ Below w.heap.size w wr) (fun _ j _ => n - (intOf j).toNat)
    case atStart => exact ⟨0, Nat.zero_le _, rfl, rfl, Below.refl _ _⟩
    case round =>
      obtain ⟨m, hm, rfl, rfl, hb⟩ := hrel
      obtain ⟨q0, q1⟩ := pairsS_bd p m (by omega)
      have HS := Lib.hid (pairsS_succ p m)
      obtain ⟨S, hS⟩ : ∃ S, S = pairsS p m := ⟨_, rfl⟩
      rw [← hS] at q0 q1 HS ⊢
      have HSS := Lib.hid hS; clear hS
      have HBe := Lib.hid hb; clear hb
      by_cases hlt : m < n
      · go_wp2
        obtain ⟨wo, rfl⟩ : ∃ wo : World, wo = wr := ⟨_, rfl⟩
        go_loopw [3, 15] (fun t j wr => ∃ k : Nat, k ≤ m ∧ j = .int .i64 k ∧ t = .int .i64 (S + cntB (fun i => seesB p i m 0) k) ∧ Below w.heap.size w wr) (fun _ j _ => m - (intOf j).toNat)
        case atStart => exact ⟨0, Nat.zero_le _, rfl, by simp [cntB], HBe.out⟩
        case round =>
          obtain ⟨k, hk, rfl, rfl, hb⟩ := hrel
          clear HBe
          have HBe := Lib.hid hb; clear hb
          obtain ⟨c0, c1⟩ := cntB_bd (fun i => seesB p i m 0) k
          have hsz := HBe.out.size
          by_cases hlt2 : k < m
          · have G := Lib.hid (HG.out k m _ (by omega) hlt HBe.out)
            cases hf : seesB p k m 0
            · have HC := Lib.hid (show cntB (fun i => seesB p i m 0) (k + 1) = cntB (fun i => seesB p i m 0) k from cntB_no hf)
              obtain ⟨C, hC⟩ : ∃ C, C = cntB (fun i => seesB p i m 0) k := ⟨_, rfl⟩
              rw [← hC] at c0 c1 HC ⊢
              rw [hf] at G
              clear hC hf
              go_wp2_with (go_at_call 51; refine G.out.mono ?_; rintro e w2 ⟨rfl, hb2⟩)
              go_roundw
              case rel => exact ⟨k + 1, by omega, by go_num, by rw [HC.out], HBe.out.trans (hb2.mono hsz)⟩
              case measure => simp [intOf]; omega
            · have HC := Lib.hid (show cntB (fun i => seesB p i m 0) (k + 1) = cntB (fun i => seesB p i m 0) k + 1 from cntB_yes hf)
              obtain ⟨C, hC⟩ : ∃ C, C = cntB (fun i => seesB p i m 0) k := ⟨_, rfl⟩
              rw [← hC] at c0 c1 HC ⊢
              rw [hf] at G
              clear hC hf
              go_wp2_with (go_at_call 51; refine G.out.mono ?_; rintro e w2 ⟨rfl, hb2⟩)
              go_roundw
              case rel => exact ⟨k + 1, by omega, by go_num, by rw [HC.out, Int.add_assoc], HBe.out.trans (hb2.mono hsz)⟩
              case measure => simp [intOf]; omega
          · have hke : k = m := by omega
            subst hke
            go_wp2
            go_roundw
            case rel => exact ⟨k + 1, by omega, by go_num, by rw [HS.out], HBe.out⟩
            case measure => simp [intOf]; omega
      · have hke : m = n := by omega
        subst hke
        go_wp2
        go_ret
        exact ⟨ret_int (by rw [HB.out, HSS.out]), HBe.out⟩

theorem spairs_any (v : Value) (p : List Int) (w : World) (hr : Row w v p) (hn : p.length ≤ 1099511627776) :
    Calls Try.prog 34 #[v] w fun e w' => e = .returned (.int .i64 (pairsV p)) ∧ Below w.heap.size w w' := by
  have HV := Lib.hid (svalid_any v p w hr hn)
  cases hv : validB p
  · have HB := Lib.hid (show pairsV p = -1 by simp [pairsV, hv])
    rw [hv] at HV
    clear hv
    go_enter Try.func34, Try.ntmps34
    go_wp2_with (go_at_call 49; refine HV.out.mono ?_; rintro e w' ⟨rfl, rfl⟩)
    go_ret
    exact ⟨ret_int HB.out.symm, Below.refl _ _⟩
  · have HB := Lib.hid (show pairsV p = pairsS p p.length by simp [pairsV, hv])
    rw [hv] at HV
    have hl := valid_len hv
    obtain ⟨a, cap, rfl⟩ := hr.shape
    obtain ⟨n, hN⟩ : ∃ n, n = p.length := ⟨_, rfl⟩
    have HG := Lib.hid (fun (i k : Nat) (wr : World) (hi : i < p.length) (hk : k < p.length) (hb : Below w.heap.size w wr) => ssees_b _ p k i 0 wr (hr.below hb) hv hk hi (by omega) (by omega))
    rw [← hN] at hn hl HV HB HG ⊢
    obtain ⟨l1, l2⟩ := hl
    clear hr hv hN
    go_enter Try.func34, Try.ntmps34
    go_wp2_with (go_at_call 49; refine HV.out.mono ?_; rintro e w' ⟨rfl, rfl⟩)
    go_loopw [3, 4] (fun t j wr => ∃ m : Nat, m ≤ n ∧ j = .int .i64 m ∧ t = .int .i64 (pairsS p m) ∧ Below w.heap.size w wr) (fun _ j _ => n - (intOf j).toNat)
    case atStart => exact ⟨0, Nat.zero_le _, rfl, rfl, Below.refl _ _⟩
    case round =>
      obtain ⟨m, hm, rfl, rfl, hb⟩ := hrel
      obtain ⟨q0, q1⟩ := pairsS_bd p m (by omega)
      have HS := Lib.hid (pairsS_succ p m)
      obtain ⟨S, hS⟩ : ∃ S, S = pairsS p m := ⟨_, rfl⟩
      rw [← hS] at q0 q1 HS ⊢
      have HSS := Lib.hid hS; clear hS
      have HBe := Lib.hid hb; clear hb
      by_cases hlt : m < n
      · go_wp2
        obtain ⟨wo, rfl⟩ : ∃ wo : World, wo = wr := ⟨_, rfl⟩
        go_loopw [3, 5] (fun t j wr => ∃ k : Nat, k ≤ m ∧ j = .int .i64 k ∧ t = .int .i64 (S + cntB (fun i => seesB p i m 0) k) ∧ Below w.heap.size w wr) (fun _ j _ => m - (intOf j).toNat)
        case atStart => exact ⟨0, Nat.zero_le _, rfl, by simp [cntB], HBe.out⟩
        case round =>
          obtain ⟨k, hk, rfl, rfl, hb⟩ := hrel
          clear HBe
          have HBe := Lib.hid hb; clear hb
          obtain ⟨c0, c1⟩ := cntB_bd (fun i => seesB p i m 0) k
          have hsz := HBe.out.size
          by_cases hlt2 : k < m
          · have G := Lib.hid (HG.out k m _ (by omega) hlt HBe.out)
            rw [seesB_symm] at G
            cases hf : seesB p k m 0
            · have HC := Lib.hid (show cntB (fun i => seesB p i m 0) (k + 1) = cntB (fun i => seesB p i m 0) k from cntB_no hf)
              obtain ⟨C, hC⟩ : ∃ C, C = cntB (fun i => seesB p i m 0) k := ⟨_, rfl⟩
              rw [← hC] at c0 c1 HC ⊢
              rw [hf] at G
              clear hC hf
              go_wp2_with (go_at_call 50; refine G.out.mono ?_; rintro e w2 ⟨rfl, hb2⟩)
              go_roundw
              case rel => exact ⟨k + 1, by omega, by go_num, by rw [HC.out], HBe.out.trans (hb2.mono hsz)⟩
              case measure => simp [intOf]; omega
            · have HC := Lib.hid (show cntB (fun i => seesB p i m 0) (k + 1) = cntB (fun i => seesB p i m 0) k + 1 from cntB_yes hf)
              obtain ⟨C, hC⟩ : ∃ C, C = cntB (fun i => seesB p i m 0) k := ⟨_, rfl⟩
              rw [← hC] at c0 c1 HC ⊢
              rw [hf] at G
              clear hC hf
              go_wp2_with (go_at_call 50; refine G.out.mono ?_; rintro e w2 ⟨rfl, hb2⟩)
              go_roundw
              case rel => exact ⟨k + 1, by omega, by go_num, by rw [HC.out, Int.add_assoc], HBe.out.trans (hb2.mono hsz)⟩
              case measure => simp [intOf]; omega
          · have hke : k = m := by omega
            subst hke
            go_wp2
            go_roundw
            case rel => exact ⟨k + 1, by omega, by go_num, by rw [HS.out], HBe.out⟩
            case measure => simp [intOf]; omega
      · have hke : m = n := by omega
        subst hke
        go_wp2
        go_ret
        exact ⟨ret_int (by rw [HB.out, HSS.out]), HBe.out⟩

end Go.Proofs.Ytjpcbegndnbeeaa
