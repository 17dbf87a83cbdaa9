/- Contracts: ThinLeast of the program and of the reference. -/
import Derived.Test.YtonehpndbbojpaaTFew
namespace Go.Proofs.Ytonehpndbbojpaa
open Go.RowKit

theorem few99 {p : List Int} (hv : validB p = true) : (fewL p 99).length ≤ min p.length 2 := by
  have hl := valid_len hv
  have h := lines_at (few_ok (p := p) (e := 99) (by omega)) (i := 0) (by omega)
  have h1 := h.len
  by_cases e : p.length = 1
  · unfold fewL; omega
  · have hw : Way (okB p 99) p.length 0 [((0 : Nat) : Int), ((p.length - 1 : Nat) : Int)] := .step (by omega) (by omega) (okB_iff.2 (spanV_bd hv _ _).2) .last
    have := h.least _ hw
    simp at this
    unfold fewL
    omega

noncomputable def leastT (p : List Int) (k : Int) : Bool := validB p && inB k (min (p.length : Int) 2) 20
def leastF (p : List Int) (k : Int) (e : Nat) : Bool := decide (((fewL p e).length : Int) ≤ k)
/-- The least error. -/
structure IsLeast (p : List Int) (k : Int) (e : Nat) : Prop where
  le : e ≤ 99
  at_ : leastF p k e = true
  below : ∀ j, j < e → leastF p k j = false
theorem least_ex {p : List Int} {k : Int} (h : leastT p k = true) : ∃ e, IsLeast p k e := by
  simp only [leastT, Bool.and_eq_true, inB_iff] at h
  have h99 := few99 h.1
  rcases leastB_cases2 (leastF p k) 100 with ⟨h1⟩ | ⟨e, h1, h2, h3⟩
  · have := h1 99 (by omega)
    simp only [leastF, decide_eq_false_iff_not] at this
    have e99 : ((99 : Nat) : Int) = 99 := rfl
    rw [e99] at this
    omega
  · exact ⟨e, by omega, h2, h3⟩
open Classical in
noncomputable def leastV (p : List Int) (k : Int) : Int := if h : leastT p k = true then ((least_ex h).choose : Int) else -1
theorem leastV_no {p : List Int} {k : Int} (h : leastT p k = false) : leastV p k = -1 := by simp [leastV, h]
theorem leastV_eq {p : List Int} {k : Int} (h : leastT p k = true) {e : Nat} (he : IsLeast p k e) : leastV p k = e := by
  simp only [leastV, h, dite_true]
  have hc := (least_ex h).choose_spec
  have h1 : ¬ (least_ex h).choose < e := fun hlt => by
    have := he.below _ hlt
    rw [hc.at_] at this; cases this
  have h2 : ¬ e < (least_ex h).choose := fun hlt => by
    have := hc.below _ hlt
    rw [he.at_] at this; cases this
  omega

set_option maxHeartbeats 400000 in
theorem itleast_any (v : Value) (p : List Int) (k : Int) (w : World) (hr : Row w v p) (hn : p.length ≤ 1099511627776) :
    Calls Try.prog 40 #[v, .int .i64 k] w fun x w' => x = .returned (.int .i64 (leastV p k)) ∧ Below w.heap.size w w' := by
  have HV := Lib.hid (ivalid_any v p w hr hn)
  cases hv : validB p
  · have HB := Lib.hid (leastV_no (show leastT p k = false by simp [leastT, hv]))
    rw [hv] at HV
    clear hv
    go_enter Try.func40, Try.ntmps40
    go_wp2_with (go_at_call 52; refine HV.out.mono ?_; rintro e w' ⟨rfl, rfl⟩)
    go_ret
    exact ⟨ret_int HB.out.symm, Below.refl _ _⟩
  · have hl := valid_len hv
    have HT := Lib.hid (show leastT p k = inB k (min (p.length : Int) 2) 20 by simp [leastT, hv])
    have HF := Lib.hid (fun (e : Nat) wr (hb : Below w.heap.size w wr) => fewest_any v p e wr (hr.below hb) hv (by omega))
    have HL := Lib.hid (fun (e : Nat) => @fewL_len p e hv (by omega))
    have H99 := Lib.hid (few99 hv)
    have HE := Lib.hid (fun h e => @leastV_eq p k h e)
    have HNo := Lib.hid (@leastV_no p k)
    rw [hv] at HV
    obtain ⟨a, cap, rfl⟩ := hr.shape
    obtain ⟨n, hN⟩ : ∃ n, n = p.length := ⟨_, rfl⟩
    rw [← hN] at hn hl HV HT HF HL H99 ⊢
    obtain ⟨l1, l2⟩ := hl
    clear hr hv hN
    cases hk : inB k (min (n : Int) 2) 20
    · rw [hk] at HT
      have HB := Lib.hid (HNo.out HT.out)
      rw [inB_false] at hk
      by_cases hk1 : k < min (n : Int) 2
      · by_cases hn2 : n < 2
        · have e1 : n = 1 := by omega
          subst e1
          have hk2 : k < 1 := by omega
          clear hk hk1
          go_enter Try.func40, Try.ntmps40
          go_wp2_with (go_at_call 52; refine HV.out.mono ?_; rintro e w' ⟨rfl, rfl⟩)
          all_goals
            go_ret
            exact ⟨ret_int HB.out.symm, Below.refl _ _⟩
        · have hk2 : k < 2 := by omega
          clear hk hk1
          go_enter Try.func40, Try.ntmps40
          go_wp2_with (go_at_call 52; refine HV.out.mono ?_; rintro e w' ⟨rfl, rfl⟩)
          all_goals
            go_ret
            exact ⟨ret_int HB.out.symm, Below.refl _ _⟩
      · have hk2 : 20 < k := by omega
        have hk3 : ¬ k < 2 := by omega
        have hk4 : ¬ k < (n : Int) := by omega
        clear hk hk1
        go_enter Try.func40, Try.ntmps40
        go_wp2_with (go_at_call 52; refine HV.out.mono ?_; rintro e w' ⟨rfl, rfl⟩)
        all_goals
          go_ret
          exact ⟨ret_int HB.out.symm, Below.refl _ _⟩
    · rw [hk] at HT
      have HY := Lib.hid (fun e => HE.out HT.out e)
      rw [inB_iff] at hk
      obtain ⟨k1, k2⟩ := hk
      have hk3 : ¬ 20 < k := by omega
      have hk4 : (n < 2 ∧ 1 ≤ k) ∨ (2 ≤ n ∧ 2 ≤ k) := by omega
      have HK1 := Lib.hid k1
      clear k1
      have HLt := Lib.hid (show ∀ e : Nat, leastF p k e = decide (((fewL p e).length : Int) ≤ k) from fun _ => rfl)
      have HL99 := Lib.hid (show leastF p k 99 = true by
        have h1 := H99.out
        have h2 := HK1.out
        rw [HLt.out 99, show ((99 : Nat) : Int) = 99 from rfl]
        simp only [decide_eq_true_eq]
        omega)
      have hmin1 : ¬ k < (n : Int) ∨ 2 ≤ k := by omega
      by_cases n2 : n ≤ 2
      · have hz : True := trivial
        have hka : (n < 2 → ¬ k < (n : Int)) ∧ (¬ n < 2 → ¬ k < 2) := by omega
        have hkb : ¬ k < (n : Int) ∨ ¬ k < 2 := by omega
        go_enter Try.func40, Try.ntmps40
        go_wp2_with (go_at_call 52; refine HV.out.mono ?_; rintro e w' ⟨rfl, rfl⟩)
        all_goals first | omega | skip
        all_goals
          go_loopw [20] (fun s wr => ∃ m : Nat, m ≤ 99 ∧ s = .int .i64 m ∧ (∀ j, j < m → leastF p k j = false) ∧ Below w.heap.size w wr) (fun s _ => 99 - (intOf s).toNat)
          case atStart => exact ⟨0, by omega, rfl, fun j h => by omega, Below.refl _ _⟩
          case round =>
            obtain ⟨m, hm, rfl, hj, hb⟩ := hrel
            have HJ := Lib.hid hj
            have HBe := Lib.hid hb
            have hsz := hb.size
            clear hj hb
            by_cases hlt : m < 99
            · have F := Lib.hid (HF.out m _ HBe.out)
              have hl := HL.out m
              have LT := Lib.hid (HLt.out m)
              obtain ⟨L, hL⟩ : ∃ L, L = fewL p m := ⟨_, rfl⟩
              rw [← hL] at F hl LT
              clear hL
              by_cases hle : (L.length : Int) ≤ k
              · have HR := Lib.hid (HY.out m ⟨by omega, by rw [LT.out]; simpa using hle, HJ.out⟩)
                go_wp2_with (first | (go_at_call 63; refine F.out.mono ?_; rintro x w2 ⟨ks, u, rfl, hks, hch, hb2⟩; (have CT := Lib.hid (count_any _ _ _ _ hch (by have := congrArg List.length hks; simp at this; omega))); (have e1 := congrArg List.length hks); rw [List.length_map] at e1; rw [e1] at CT; clear hks hch e1) | (go_at_call 64; refine CT.out.mono ?_; rintro x w3 ⟨rfl, rfl⟩))
                go_ret
                exact ⟨ret_int HR.out.symm, HBe.out.trans (hb2.mono hsz)⟩
              · exfalso; omega
            · have hme : m = 99 := by omega
              subst hme
              have HR := Lib.hid (HY.out 99 ⟨by omega, HL99.out, HJ.out⟩)
              go_wp2
              go_ret
              exact ⟨ret_int HR.out.symm, HBe.out⟩
      · have hz : True := trivial
        have hka : (n < 2 → ¬ k < (n : Int)) ∧ (¬ n < 2 → ¬ k < 2) := by omega
        have hkb : ¬ k < (n : Int) ∨ ¬ k < 2 := by omega
        go_enter Try.func40, Try.ntmps40
        go_wp2_with (go_at_call 52; refine HV.out.mono ?_; rintro e w' ⟨rfl, rfl⟩)
        all_goals first | omega | skip
        all_goals
          go_loopw [20] (fun s wr => ∃ m : Nat, m ≤ 99 ∧ s = .int .i64 m ∧ (∀ j, j < m → leastF p k j = false) ∧ Below w.heap.size w wr) (fun s _ => 99 - (intOf s).toNat)
          case atStart => exact ⟨0, by omega, rfl, fun j h => by omega, Below.refl _ _⟩
          case round =>
            obtain ⟨m, hm, rfl, hj, hb⟩ := hrel
            have HJ := Lib.hid hj
            have HBe := Lib.hid hb
            have hsz := hb.size
            clear hj hb
            by_cases hlt : m < 99
            · have F := Lib.hid (HF.out m _ HBe.out)
              have hl := HL.out m
              have LT := Lib.hid (HLt.out m)
              obtain ⟨L, hL⟩ : ∃ L, L = fewL p m := ⟨_, rfl⟩
              rw [← hL] at F hl LT
              clear hL
              by_cases hle : (L.length : Int) ≤ k
              · have HR := Lib.hid (HY.out m ⟨by omega, by rw [LT.out]; simpa using hle, HJ.out⟩)
                go_wp2_with (first | (go_at_call 63; refine F.out.mono ?_; rintro x w2 ⟨ks, u, rfl, hks, hch, hb2⟩; (have CT := Lib.hid (count_any _ _ _ _ hch (by have := congrArg List.length hks; simp at this; omega))); (have e1 := congrArg List.length hks); rw [List.length_map] at e1; rw [e1] at CT; clear hks hch e1) | (go_at_call 64; refine CT.out.mono ?_; rintro x w3 ⟨rfl, rfl⟩))
                go_ret
                exact ⟨ret_int HR.out.symm, HBe.out.trans (hb2.mono hsz)⟩
              · have HR := Lib.hid (show leastF p k m = false by rw [LT.out]; simpa using hle)
                go_wp2_with (first | (go_at_call 63; refine F.out.mono ?_; rintro x w2 ⟨ks, u, rfl, hks, hch, hb2⟩; (have CT := Lib.hid (count_any _ _ _ _ hch (by have := congrArg List.length hks; simp at this; omega))); (have e1 := congrArg List.length hks); rw [List.length_map] at e1; rw [e1] at CT; clear hks hch e1) | (go_at_call 64; refine CT.out.mono ?_; rintro x w3 ⟨rfl, rfl⟩))
                go_roundw
                case rel =>
                  refine ⟨m + 1, by omega, by go_num, fun j h => ?_, HBe.out.trans (hb2.mono hsz)⟩
                  by_cases ej : j = m
                  · rw [ej]; exact HR.out
                  · exact HJ.out j (by omega)
                case measure => simp [intOf] <;> omega
            · have hme : m = 99 := by omega
              subst hme
              have HR := Lib.hid (HY.out 99 ⟨by omega, HL99.out, HJ.out⟩)
              go_wp2
              go_ret
              exact ⟨ret_int HR.out.symm, HBe.out⟩

set_option maxHeartbeats 400000 in
theorem stleast_any (v : Value) (p : List Int) (k : Int) (w : World) (hr : Row w v p) (hn : p.length ≤ 1099511627776) :
    Calls Try.prog 41 #[v, .int .i64 k] w fun x w' => x = .returned (.int .i64 (leastV p k)) ∧ Below w.heap.size w w' := by
  have HV := Lib.hid (svalid_any v p w hr hn)
  cases hv : validB p
  · have HB := Lib.hid (leastV_no (show leastT p k = false by simp [leastT, hv]))
    rw [hv] at HV
    clear hv
    go_enter Try.func41, Try.ntmps41
    go_wp2_with (go_at_call 53; refine HV.out.mono ?_; rintro e w' ⟨rfl, rfl⟩)
    go_ret
    exact ⟨ret_int HB.out.symm, Below.refl _ _⟩
  · have hl := valid_len hv
    have HT := Lib.hid (show leastT p k = inB k (min (p.length : Int) 2) 20 by simp [leastT, hv])
    have HF := Lib.hid (fun (e : Nat) wr (hb : Below w.heap.size w wr) => stfew_any v p e wr (hr.below hb) hn)
    have HFv := Lib.hid (show ∀ e : Nat, e ≤ 99 → fewV p e = (fewL p e).length from fun e he => fewV_yes (fewB_iff.2 ⟨hv, by omega, by omega⟩))
    have HL := Lib.hid (fun (e : Nat) => @fewL_len p e hv (by omega))
    have H99 := Lib.hid (few99 hv)
    have HE := Lib.hid (fun h e => @leastV_eq p k h e)
    have HNo := Lib.hid (@leastV_no p k)
    rw [hv] at HV
    obtain ⟨a, cap, rfl⟩ := hr.shape
    obtain ⟨n, hN⟩ : ∃ n, n = p.length := ⟨_, rfl⟩
    rw [← hN] at hn hl HV HT HF HL H99 ⊢
    obtain ⟨l1, l2⟩ := hl
    clear hr hv hN
    obtain ⟨M, hM⟩ : ∃ M : Int, M = min (n : Int) 2 := ⟨_, rfl⟩
    rw [← hM] at HT
    have HMin := Lib.hid hM
    have hm1 : (n < 2 ∧ M = n) ∨ (¬ n < 2 ∧ M = 2) := by omega
    clear hM
    have IN := Lib.hid (fun W => in_any k M 20 W)
    cases hk : inB k M 20
    · rw [hk] at HT IN
      have HB := Lib.hid (HNo.out HT.out)
      clear hk
      rcases hm1 with ⟨n2, rfl⟩ | ⟨n2, rfl⟩
      all_goals
        go_enter Try.func41, Try.ntmps41
        go_wp2_with (first | (go_at_call 53; refine HV.out.mono ?_; rintro e w' ⟨rfl, rfl⟩) | (go_at_call 55; refine (IN.out _).mono ?_; rintro e w' ⟨rfl, rfl⟩))
        all_goals
          go_ret
          exact ⟨ret_int HB.out.symm, Below.refl _ _⟩
    · rw [hk] at HT IN
      have HY := Lib.hid (fun e => HE.out HT.out e)
      rw [inB_iff] at hk
      obtain ⟨k1, k2⟩ := hk
      have HLt := Lib.hid (show ∀ e : Nat, leastF p k e = decide (((fewL p e).length : Int) ≤ k) from fun _ => rfl)
      have HL99 := Lib.hid (show leastF p k 99 = true by
        have h1 := H99.out
        have h2 := HMin.out
        rw [HLt.out 99, show ((99 : Nat) : Int) = 99 from rfl]
        simp only [decide_eq_true_eq]
        omega)
      rcases hm1 with ⟨n2, rfl⟩ | ⟨n2, rfl⟩
      all_goals
        go_enter Try.func41, Try.ntmps41
        go_wp2_with (first | (go_at_call 53; refine HV.out.mono ?_; rintro e w' ⟨rfl, rfl⟩) | (go_at_call 55; refine (IN.out _).mono ?_; rintro e w' ⟨rfl, rfl⟩))
        all_goals
          go_loopw [5] (fun s wr => ∃ m : Nat, m ≤ 99 ∧ s = .int .i64 m ∧ (∀ j, j < m → leastF p k j = false) ∧ Below w.heap.size w wr) (fun s _ => 99 - (intOf s).toNat)
          case atStart => exact ⟨0, by omega, rfl, fun j h => by omega, Below.refl _ _⟩
          case round =>
            obtain ⟨m, hm, rfl, hj, hb⟩ := hrel
            have HJ := Lib.hid hj
            have HBe := Lib.hid hb
            have hsz := hb.size
            clear hj hb
            have F := Lib.hid (HF.out m _ HBe.out)
            rw [HFv.out m hm] at F
            have hl := HL.out m
            have LT := Lib.hid (HLt.out m)
            obtain ⟨L, hL⟩ : ∃ L, L = (fewL p m).length := ⟨_, rfl⟩
            rw [← hL] at F hl LT
            clear hL
            by_cases hle : (L : Int) ≤ k
            · have HR := Lib.hid (HY.out m ⟨by omega, by rw [LT.out]; simpa using hle, HJ.out⟩)
              go_wp2_with (go_at_call 38; refine F.out.mono ?_; rintro x w2 ⟨rfl, hb2⟩)
              go_ret
              exact ⟨ret_int HR.out.symm, HBe.out.trans (hb2.mono hsz)⟩
            · have HR := Lib.hid (show leastF p k m = false by rw [LT.out]; simpa using hle)
              have hm9 : m < 99 := by
                rcases Nat.lt_or_ge m 99 with h | h
                · exact h
                · have e9 : m = 99 := by omega
                  have := HR.out
                  rw [e9, HL99.out] at this
                  cases this
              go_wp2_with (go_at_call 38; refine F.out.mono ?_; rintro x w2 ⟨rfl, hb2⟩)
              go_roundw
              case rel =>
                refine ⟨m + 1, by omega, by go_num, fun j h => ?_, HBe.out.trans (hb2.mono hsz)⟩
                by_cases ej : j = m
                · rw [ej]; exact HR.out
                · exact HJ.out j (by omega)
              case measure => simp [intOf] <;> omega

end Go.Proofs.Ytonehpndbbojpaa
