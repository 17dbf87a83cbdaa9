/- Contracts: l5Bits and ProfileWatch of the reference. -/
import Derived.Test.YtlmigoplffdpiaaPlainY
import Derived.Test.YtlmigoplffdpiaaSSees
import Derived.IntWalk
namespace Go.Proofs.Ytlmigoplffdpiaa
open Go.RowKit

noncomputable def masksL (p : List Int) : List Int := (List.range p.length).map (fun i => (maskN p i : Int))
theorem masksL_len (p : List Int) : (masksL p).length = p.length := by simp [masksL]
theorem masksL_at (p : List Int) (i : Nat) (h : i < p.length) : (masksL p).getD i 0 = (maskN p i : Int) := by simp [masksL, h]
theorem masksL_step (p : List Int) (i : Nat) (h : i < p.length) : (masksL p).take (i + 1) = (masksL p).take i ++ [(maskN p i : Int)] := by
  rw [List.take_succ_eq_append_getElem (by rw [masksL_len]; exact h)]
  simp [masksL]
theorem mk_yes {f : Nat → Bool} {m : Nat} (h : f m = true) : mk f (m + 1) = mk f m + 2 ^ m := by simp [mk, h]
theorem mk_no {f : Nat → Bool} {m : Nat} (h : f m = false) : mk f (m + 1) = mk f m := by simp [mk, h]

set_option maxHeartbeats 1000000 in
theorem sbits_any (v : Value) (p : List Int) (w : World) (hr : Row w v p) (hv : validB p = true) (hn : p.length ≤ 12) :
    Calls Try.prog 18 #[v] w (GivesRow (masksL p) w) := by
  have HG := Lib.hid (fun (i k : Nat) (wr : World) (hb : Below w.heap.size w wr) (hi : i < p.length) (hk : k < p.length) => ssees_any v p i k 0 wr (hr.below hb) hv hi hk (by omega) (by omega))
  have HL := Lib.hid (masksL_len p)
  have HS := Lib.hid (masksL_step p)
  have HM := Lib.hid (show ∀ i, maskN p i = mk (fun k => seesB p i k 0) p.length from fun _ => rfl)
  have HF := Lib.hid (List.take_length (l := masksL p))
  obtain ⟨a, cap, rfl⟩ := hr.shape
  obtain ⟨n, hN⟩ : ∃ n, n = p.length := ⟨_, rfl⟩
  rw [HL.out] at HF
  rw [← hN] at hn HG HL HS HM HF ⊢
  clear hr hv hN
  go_enter Try.func18, Try.ntmps18
  go_wp2
  go_loopw [3, 4] (fun out i wr => ∃ k : Nat, k ≤ n ∧ i = .int .i64 k ∧ Own wr w.heap.size out ((masksL p).take k) ∧ Below w.heap.size w wr) (fun _ i _ => n - (intOf i).toNat)
  case atStart => exact ⟨0, Nat.zero_le _, rfl, Own.emptyLit w _ (Nat.le_refl _), Below.alloc (Below.refl _ _) (Nat.le_refl _) _⟩
  case round =>
    obtain ⟨i, hi, rfl, ho, hb⟩ := hrel
    have hlen : ((masksL p).take i).length ≤ 1099511627776 := by rw [List.length_take]; omega
    have HO := Lib.hid ho
    have HBe := Lib.hid hb
    clear ho hb
    by_cases hlt : i < n
    · go_wp2
      obtain ⟨wo, rfl⟩ : ∃ wo : World, wo = wr := ⟨_, rfl⟩
      go_loopw [5, 6, 7] (fun s b k wr => ∃ m : Nat, m ≤ n ∧ k = .int .i64 m ∧ s = .int .i64 (mk (fun k => seesB p i k 0) m : Nat) ∧ b = .int .i64 (2 ^ m : Nat) ∧ ∃ q, wr = wo.drewN q) (fun _ _ k _ => n - (intOf k).toNat)
      case atStart => exact ⟨0, Nat.zero_le _, rfl, rfl, rfl, 0, rfl⟩
      case round =>
        obtain ⟨m, hm, rfl, rfl, rfl, q, rfl⟩ := hrel
        by_cases hlt2 : m < n
        · have hM := mk_lt (fun k => seesB p i k 0) m
          have hP : 2 ^ m ≤ 2048 := Nat.le_trans (Nat.pow_le_pow_right (by omega) (show m ≤ 11 by omega)) (by decide)
          have hP2 : 2 ^ (m + 1) = 2 ^ m + 2 ^ m := by rw [Nat.pow_succ]; omega
          have G := Lib.hid (HG.out i m (wo.drewN q) (below_drewN HBe.out q) hlt hlt2)
          have HY := Lib.hid (@mk_yes (fun k => seesB p i k 0) m)
          have HNo := Lib.hid (@mk_no (fun k => seesB p i k 0) m)
          obtain ⟨M, hMe⟩ : ∃ M, M = mk (fun k => seesB p i k 0) m := ⟨_, rfl⟩
          obtain ⟨P, hPe⟩ : ∃ P, P = 2 ^ m := ⟨_, rfl⟩
          rw [← hMe] at hM HY HNo ⊢
          rw [← hPe] at hM hP hP2 HY ⊢
          have HP2 := Lib.hid hP2
          clear hMe hPe hP2
          cases hs : seesB p i m 0
          · have HE := Lib.hid (HNo.out hs)
            rw [hs] at G
            clear hs
            go_wp2_with fail
            refine G.out.mono ?_
            rintro e w' ⟨rfl, q2, rfl⟩
            go_wp2
            go_roundw
            case rel => exact ⟨m + 1, by omega, by go_num, by rw [HE.out], by rw [HP2.out]; go_num, q + q2, by simp⟩
            case measure => simp [intOf]; omega
          · have HE := Lib.hid (HY.out hs)
            rw [hs] at G
            clear hs
            go_wp2_with fail
            refine G.out.mono ?_
            rintro e w' ⟨rfl, q2, rfl⟩
            go_wp2
            go_roundw
            case rel => exact ⟨m + 1, by omega, by go_num, by rw [HE.out]; go_num, by rw [HP2.out]; go_num, q + q2, by simp⟩
            case measure => simp [intOf]; omega
        · have hke : m = n := by omega
          subst hke
          have HSi := Lib.hid (HS.out i hlt)
          have HMi := Lib.hid (HM.out i)
          rw [← HMi.out]
          obtain ⟨wn, hwn⟩ : ∃ wn, wn = wo.drewN q := ⟨_, rfl⟩
          have HO2 := Lib.hid (show Own wn w.heap.size _ ((masksL p).take i) by rw [hwn]; exact HO.out.drewN q)
          have HB2 := Lib.hid (show Below w.heap.size w wn by rw [hwn]; exact below_drewN HBe.out q)
          have hsz2 := HB2.out.size
          rw [← hwn]
          clear hwn
          go_wp2_with (at_builtin; refine append1 (by rfl) _ _ (by rfl) (w.heap.size) _ ((masksL p).take i) ((maskN p i : Int)) (by rfl) (by rfl) (HO2.out) (hsz2) (hlen) ?_; intro v' w3 ho3 hg3)
          go_roundw
          case rel => exact ⟨i + 1, by omega, by go_num, by rw [HSi.out]; exact ho3, below_own HB2.out HO2.out hsz2 hg3⟩
          case measure => simp [intOf]; omega
    · have hke : i = n := by omega
      subst hke
      go_wp2
      go_ret
      refine GivesRow.of ?_ HBe.out
      have h := HO.out
      rw [HF.out] at h
      exact h

theorem i64_or_nat (a b : Nat) (ha : a < 9223372036854775808) (hb : b < 9223372036854775808) : bits .or .i64 (a : Int) (b : Int) = ((a ||| b : Nat) : Int) := by
  have hx : a ||| b < 2 ^ 63 := Nat.or_lt_two_pow (by omega) (by omega)
  have e : ∀ a : Nat, a < 9223372036854775808 → (BitVec.ofInt 64 (a : Int)).toNat = a := by
    intro a ha
    rw [BitVec.ofInt_natCast, BitVec.toNat_ofNat]; exact Nat.mod_eq_of_lt (by omega)
  show IntKind.i64.wrap ((BitVec.ofInt 64 (a : Int) ||| BitVec.ofInt 64 (b : Int)).toNat : Int) = _
  rw [BitVec.toNat_or, e a ha, e b hb, IntKind.wrap_i64]
  omega
theorem watch_no1 {p : List Int} (h : validB p = false) : watchV p = -1 := by simp [watchV, watchB, h]
theorem watch_no2 {p : List Int} (h : 12 < p.length) : watchV p = -1 := by
  have : watchB p = false := by simp [watchB]; omega
  simp [watchV, this]
theorem watch_yes {p : List Int} (h : validB p = true) (h' : p.length ≤ 12) : watchV p = (wmin p (2 ^ p.length - 1) : Int) := by simp [watchV, watchB, h, h']
theorem bit_mod (s m : Nat) : s.testBit m = decide (s / 2 ^ m % 2 = 1) := Nat.testBit_eq_decide_div_mod_eq

set_option maxHeartbeats 1000000 in
theorem swatch_any (v : Value) (p : List Int) (w : World) (hr : Row w v p) (hn : p.length ≤ 1099511627776) :
    Calls Try.prog 7 #[v] w fun e w' => e = .returned (.int .i64 (watchV p)) ∧ Below w.heap.size w w' := by
  have HV := Lib.hid (svalid_any v p w hr hn)
  cases hv : validB p
  · have HE := Lib.hid (watch_no1 hv)
    rw [hv] at HV
    obtain ⟨a, cap, rfl⟩ := hr.shape
    clear hv hr
    go_enter Try.func7, Try.ntmps7
    go_wp2_with (go_at_call 17; refine HV.out.mono ?_; rintro e w' ⟨rfl, rfl⟩)
    go_ret
    exact ⟨ret_int HE.out.symm, Below.refl _ _⟩
  · rw [hv] at HV
    have hl := valid_len hv
    obtain ⟨l1, l2⟩ := hl
    by_cases h12 : 12 < p.length
    · have HE := Lib.hid (watch_no2 h12)
      obtain ⟨a, cap, rfl⟩ := hr.shape
      clear hv hr
      go_enter Try.func7, Try.ntmps7
      go_wp2_with (go_at_call 17; refine HV.out.mono ?_; rintro e w' ⟨rfl, rfl⟩)
      go_ret
      exact ⟨ret_int HE.out.symm, Below.refl _ _⟩
    · have HE := Lib.hid (watch_yes hv (by omega))
      have HBi := Lib.hid (sbits_any v p w hr hv (by omega))
      have HMa := Lib.hid (masksL_at p)
      have HLt := Lib.hid (fun s m => watN_lt p s m)
      have HSu := Lib.hid (show ∀ s m, watN p s (m + 1) = if s.testBit m then watN p s m ||| maskN p m else watN p s m from fun _ _ => rfl)
      have HWm := Lib.hid (show ∀ m, wmin p (m + 1) = if watN p (m + 1) p.length = 2 ^ p.length - 1 then min (wmin p m) (popN (m + 1) p.length) else wmin p m from fun _ => rfl)
      have HWl := Lib.hid (wmin_le p)
      have HW0 := Lib.hid (show wmin p 0 = p.length from rfl)
      have HMl := Lib.hid (fun i => mk_lt (fun k => seesB p i k 0) p.length)
      have HLn := Lib.hid (masksL_len p)
      have HMd := Lib.hid (show ∀ i, maskN p i = mk (fun k => seesB p i k 0) p.length from fun _ => rfl)
      obtain ⟨a, cap, rfl⟩ := hr.shape
      obtain ⟨n, hN⟩ : ∃ n, n = p.length := ⟨_, rfl⟩
      rw [← hN] at h12 l1 l2 HV HE HBi HMa HLt HWm HWl HW0 HMl HLn HMd ⊢
      have h12' : n ≤ 12 := by omega
      have hp12 := pow_12 h12'
      obtain ⟨A, hA⟩ : ∃ A, A = 2 ^ n := ⟨_, rfl⟩
      rw [← hA] at hp12 HE HLt HWm HMl
      have HA := Lib.hid hA
      obtain ⟨A1, A2⟩ := hp12
      clear hv hr hN hn hA l2 h12
      go_enter Try.func7, Try.ntmps7
      go_wp2_with (go_at_call 17; refine HV.out.mono ?_; rintro e w' ⟨rfl, rfl⟩)
      refine HBi.out.mono ?_
      rintro e w1 ⟨a2, c2, rfl, ho, hb⟩
      obtain ⟨-, hc2⟩ := ho.row.cells
      rw [HLn.out] at hc2 ⊢
      have HC := Lib.hid hc2
      have HB1 := Lib.hid hb
      clear ho hb hc2
      go_wp2
      go_loop [4, 5] (fun s i => ∃ k : Nat, k ≤ n ∧ i = .int .i64 k ∧ s = .int .i64 (2 ^ k : Nat)) (fun _ i => n - (intOf i).toNat)
      case atStart => exact ⟨0, Nat.zero_le _, rfl, rfl⟩
      case round =>
        obtain ⟨k, hk, rfl, rfl⟩ := hrel
        by_cases hlt : k < n
        · have hP : 2 ^ k ≤ 2048 := Nat.le_trans (Nat.pow_le_pow_right (by omega) (show k ≤ 11 by omega)) (by decide)
          have hP2 : 2 ^ (k + 1) = 2 ^ k + 2 ^ k := by rw [Nat.pow_succ]; omega
          obtain ⟨P, hPe⟩ : ∃ P, P = 2 ^ k := ⟨_, rfl⟩
          rw [← hPe] at hP hP2 ⊢
          have HP2 := Lib.hid hP2
          clear hPe hP2
          go_wp2
          go_round
          case rel => exact ⟨k + 1, by omega, by go_num, by rw [HP2.out]; go_num⟩
          case measure => simp [intOf]; omega
        · have hke : k = n := by omega
          rw [hke, ← HA.out]
          clear hke hlt hk
          go_wp2
          go_loop [6, 7] (fun b s => ∃ S : Nat, 1 ≤ S ∧ S ≤ A ∧ s = .int .i64 S ∧ b = .int .i64 (wmin p (S - 1) : Nat)) (fun _ s => A - (intOf s).toNat)
          case atStart => exact ⟨1, Nat.le_refl _, by omega, rfl, by rw [Nat.sub_self, HW0.out]⟩
          case round =>
            obtain ⟨S, hS1, hS2, rfl, rfl⟩ := hrel
            by_cases hltS : S < A
            · go_wp2
              go_loop [8, 9, 10, 11] (fun x c r i => ∃ m : Nat, m ≤ n ∧ i = .int .i64 m ∧ x = .int .i64 (watN p S m : Nat) ∧ c = .int .i64 (popN S m : Nat) ∧ r = .int .i64 (S / 2 ^ m : Nat)) (fun _ _ _ i => n - (intOf i).toNat)
              case atStart => exact ⟨0, Nat.zero_le _, rfl, rfl, rfl, by simp⟩
              case round =>
                obtain ⟨m, hm, rfl, rfl, rfl, rfl⟩ := hrel
                by_cases hltm : m < n
                · obtain ⟨b3, o3, rfl, hcm⟩ := HC.out m hltm
                  rw [HMa.out m hltm] at hcm
                  have hM := HMl.out m
                  rw [← HMd.out] at hM
                  have hW := HLt.out S m
                  have hC := pop_le S m
                  have hR : S / 2 ^ m ≤ S := Nat.div_le_self _ _
                  have hR2 : S / 2 ^ (m + 1) = S / 2 ^ m / 2 := by rw [Nat.pow_succ, Nat.div_div_eq_div_mul]
                  have ht := bit_mod S m
                  have hS := HSu.out S m
                  have hpn : popN S (m + 1) = popN S m + (if S.testBit m then 1 else 0) := rfl
                  obtain ⟨M, hMe⟩ : ∃ M, M = maskN p m := ⟨_, rfl⟩
                  obtain ⟨W, hWe⟩ : ∃ W, W = watN p S m := ⟨_, rfl⟩
                  obtain ⟨C, hCe⟩ : ∃ C, C = popN S m := ⟨_, rfl⟩
                  obtain ⟨R, hRe⟩ : ∃ R, R = S / 2 ^ m := ⟨_, rfl⟩
                  rw [← hMe] at hcm hM hS
                  rw [← hWe] at hW hS ⊢
                  rw [← hCe] at hC hpn ⊢
                  rw [← hRe] at hR hR2 ht ⊢
                  have HR2 := Lib.hid hR2
                  clear hMe hWe hCe hRe hR2
                  cases hb : S.testBit m
                  · have e : ((R : Int) % 2 == 1) = false := by
                      rw [hb] at ht
                      have := of_decide_eq_false ht.symm
                      simp only [beq_eq_false_iff_ne, ne_eq]
                      omega
                    rw [hb] at hS hpn
                    simp only [Bool.false_eq_true, if_false, Nat.add_zero] at hS hpn
                    have HS := Lib.hid hS
                    have HPn := Lib.hid hpn
                    clear hS hpn ht hb
                    go_wp2
                    go_round
                    case rel => exact ⟨m + 1, by omega, by go_num, by rw [HS.out], by rw [HPn.out], by rw [HR2.out]; go_num⟩
                    case measure => simp [intOf]; omega
                  · have e : ((R : Int) % 2 == 1) = true := by
                      rw [hb] at ht
                      have := of_decide_eq_true ht.symm
                      simp only [beq_iff_eq]
                      omega
                    rw [hb] at hS hpn
                    simp only [if_true] at hS hpn
                    have HS := Lib.hid hS
                    have HPn := Lib.hid hpn
                    have HOr := Lib.hid (i64_or_nat W M (by omega) (by omega))
                    clear hS hpn ht hb
                    go_wp2
                    go_round
                    case rel => exact ⟨m + 1, by omega, by go_num, by rw [HS.out, ← HOr.out], by rw [HPn.out]; go_num, by rw [HR2.out]; go_num⟩
                    case measure => simp [intOf]; omega
                · have hme : m = n := by omega
                  subst hme
                  have hW := HLt.out S m
                  have hC := pop_le S m
                  have hB := HWl.out (S - 1)
                  have hWS := HWm.out (S - 1)
                  rw [show S - 1 + 1 = S by omega] at hWS
                  obtain ⟨W, hWe⟩ : ∃ W, W = watN p S m := ⟨_, rfl⟩
                  obtain ⟨C, hCe⟩ : ∃ C, C = popN S m := ⟨_, rfl⟩
                  obtain ⟨B, hBe⟩ : ∃ B, B = wmin p (S - 1) := ⟨_, rfl⟩
                  rw [← hWe] at hW hWS ⊢
                  rw [← hCe] at hC hWS ⊢
                  rw [← hBe] at hB hWS ⊢
                  clear hWe hCe hBe
                  by_cases hw : W = A - 1
                  · rw [if_pos hw] at hWS
                    have e : ((W : Int) == (A : Int) - 1) = true := by simp; omega
                    have HWS := Lib.hid hWS
                    clear hw hWS
                    by_cases hmin : B ≤ C
                    · have hmn : (B : Int) ≤ (C : Int) := by omega
                      have HWS2 := Lib.hid (show wmin p S = B by rw [HWS.out]; omega)
                      go_wp2
                      go_round
                      case rel => exact ⟨S + 1, by omega, by omega, by go_num, by rw [Nat.add_sub_cancel, HWS2.out]⟩
                      case measure => simp [intOf]; omega
                    · have hmn : (C : Int) < (B : Int) := by omega
                      have hmn2 : (C : Int) ≤ (B : Int) := by omega
                      have HWS2 := Lib.hid (show wmin p S = C by rw [HWS.out]; omega)
                      go_wp2
                      go_round
                      case rel => exact ⟨S + 1, by omega, by omega, by go_num, by rw [Nat.add_sub_cancel, HWS2.out]⟩
                      case measure => simp [intOf]; omega
                  · rw [if_neg hw] at hWS
                    have e : ((W : Int) == (A : Int) - 1) = false := by simp; omega
                    have HWS := Lib.hid hWS
                    clear hw hWS
                    go_wp2
                    go_round
                    case rel => exact ⟨S + 1, by omega, by omega, by go_num, by rw [Nat.add_sub_cancel, HWS.out]⟩
                    case measure => simp [intOf]; omega
            · have hSe : S = A := by omega
              have HE2 := Lib.hid (show watchV p = (wmin p (S - 1) : Int) by rw [hSe]; exact HE.out)
              clear hSe
              go_wp2
              go_ret
              exact ⟨ret_int HE2.out.symm, HB1.out⟩

end Go.Proofs.Ytlmigoplffdpiaa
