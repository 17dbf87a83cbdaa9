/- Contracts: ProfileBest of the program and of the reference. -/
import Derived.Test.YtbehpooapnjpeaaSeen
namespace Go.Proofs.Ytbehpooapnjpeaa
open Go.RowKit

theorem bestV_no {p : List Int} (h : validB p = false) : bestV p = 0 := by simp [bestV, h]
theorem bestV_yes {p : List Int} (h : validB p = true) : bestV p = bestS p p.length := by simp [bestV, h]
theorem bestS_yes {p : List Int} {k : Nat} (h : seeN p (bestS p k) < seeN p k) : bestS p (k + 1) = k := by simp [bestS, h]
theorem bestS_no {p : List Int} {k : Nat} (h : ¬ seeN p (bestS p k) < seeN p k) : bestS p (k + 1) = bestS p k := by simp [bestS, h]

/-- What a call gives that returns an int and a bool. -/
def GivesIB (n : Int) (b : Bool) (w : World) (e : Ending) (w' : World) : Prop := e = .returned (.tuple #[.int .i64 n, .bool b]) ∧ Below w.heap.size w w'
theorem GivesIB.of {n m : Int} {b : Bool} {w w' : World} (h : m = n) (hb : Below w.heap.size w w') : GivesIB n b w (.returned (.tuple #[.int .i64 m, .bool b])) w' := by
  subst h; exact ⟨rfl, hb⟩

theorem ibest_any (v : Value) (p : List Int) (w : World) (hr : Row w v p) (hn : p.length ≤ 1099511627776) :
    Calls Try.prog 42 #[v] w (GivesIB (bestV p) (validB p) w) := by
  have HV := Lib.hid (ivalid_any v p w hr hn)
  cases hv : validB p
  · have HB := Lib.hid (bestV_no hv)
    rw [hv] at HV
    clear hv
    go_enter Try.func42, Try.ntmps42
    go_wp2_with (go_at_call 27; refine HV.out.mono ?_; rintro e w' ⟨rfl, rfl⟩)
    go_ret2
    exact GivesIB.of HB.out.symm (Below.refl _ _)
  · have HB := Lib.hid (bestV_yes hv)
    rw [hv] at HV
    have hl := valid_len hv
    have HP := Lib.hid (fun i hi => @seeN_pos p hv i hi)
    have HG := Lib.hid (fun (k : Nat) (wr : World) (hb : Below w.heap.size w wr) => iseen_any v p (k : Int) wr (hr.below hb) hn)
    have HSe := Lib.hid (show ∀ k : Nat, (seenL p (k : Int)).length = seeN p k from fun _ => rfl)
    obtain ⟨a, cap, rfl⟩ := hr.shape
    obtain ⟨n, hN⟩ : ∃ n, n = p.length := ⟨_, rfl⟩
    rw [← hN] at hn hl HV HB HG HP ⊢
    have HLe := Lib.hid (show ∀ k : Nat, seeN p k ≤ n by rw [hN]; exact seeN_le p)
    obtain ⟨l1, l2⟩ := hl
    clear hr hv hN
    go_enter Try.func42, Try.ntmps42
    go_wp2_with (go_at_call 27; refine HV.out.mono ?_; rintro e w' ⟨rfl, rfl⟩)
    go_loopw [4, 5, 13] (fun s t j wr => ∃ (k m : Nat), k ≤ n ∧ j = .int .i64 k ∧ s = .int .i64 (bestS p k) ∧ t = .int .i64 m ∧ ((k = 0 ∧ m = 0) ∨ (0 < k ∧ m = seeN p (bestS p k))) ∧ Below w.heap.size w wr) (fun _ _ j _ => n - (intOf j).toNat)
    case atStart => exact ⟨0, 0, Nat.zero_le _, rfl, rfl, rfl, .inl ⟨rfl, rfl⟩, Below.refl _ _⟩
    case round =>
      obtain ⟨k, m, hk, rfl, rfl, rfl, hm, hb⟩ := hrel
      have hsz := hb.size
      have HBe := Lib.hid hb; clear hb
      have HM := Lib.hid hm; clear hm
      have hml : m ≤ n := by
        rcases HM.out with ⟨_, h⟩ | ⟨_, h⟩
        · omega
        · rw [h]; exact HLe.out _
      by_cases hlt : k < n
      · have G := Lib.hid (HG.out k _ HBe.out)
        unfold GivesRow at G
        rw [HSe.out k] at G
        have hle := HLe.out k
        have hpos := HP.out k hlt
        by_cases hc : m < seeN p k
        · have HS := Lib.hid (show bestS p (k + 1) = k by
            rcases HM.out with ⟨h0, _⟩ | ⟨_, h⟩
            · subst h0; simp [bestS]
            · exact bestS_yes (by rw [← h]; exact hc))
          obtain ⟨c, hC⟩ : ∃ c, c = seeN p k := ⟨_, rfl⟩
          rw [← hC] at G hle hpos hc
          have HCc := Lib.hid hC; clear hC
          go_wp2_with (go_at_call 31; refine G.out.mono ?_; rintro e w2 ⟨a2, cap2, rfl, -, hb2⟩)
          go_roundw
          case rel => exact ⟨k + 1, c, by omega, by go_num, by rw [HS.out], rfl, .inr ⟨by omega, by rw [HS.out]; exact HCc.out⟩, HBe.out.trans (hb2.mono hsz)⟩
          case measure => simp [intOf]; omega
        · have h1 : 0 < k := by
            rcases HM.out with ⟨h0, h⟩ | ⟨h, _⟩
            · omega
            · exact h
          have HS := Lib.hid (show bestS p (k + 1) = bestS p k ∧ m = seeN p (bestS p k) by
            rcases HM.out with ⟨h0, _⟩ | ⟨_, h⟩
            · omega
            · exact ⟨bestS_no (by rw [← h]; exact hc), h⟩)
          obtain ⟨c, hC⟩ : ∃ c, c = seeN p k := ⟨_, rfl⟩
          rw [← hC] at G hle hpos hc
          have HCc := Lib.hid hC; clear hC
          go_wp2_with (go_at_call 31; refine G.out.mono ?_; rintro e w2 ⟨a2, cap2, rfl, -, hb2⟩)
          go_roundw
          case rel => exact ⟨k + 1, m, by omega, by go_num, by rw [HS.out.1], rfl, .inr ⟨by omega, by rw [HS.out.1]; exact HS.out.2⟩, HBe.out.trans (hb2.mono hsz)⟩
          case measure => simp [intOf]; omega
      · have hke : k = n := by omega
        subst hke
        go_wp2
        go_ret2
        exact GivesIB.of HB.out.symm HBe.out

theorem sbest_any (v : Value) (p : List Int) (w : World) (hr : Row w v p) (hn : p.length ≤ 1099511627776) :
    Calls Try.prog 43 #[v] w (GivesIB (bestV p) (validB p) w) := by
  have HV := Lib.hid (svalid_any v p w hr hn)
  cases hv : validB p
  · have HB := Lib.hid (bestV_no hv)
    rw [hv] at HV
    clear hv
    go_enter Try.func43, Try.ntmps43
    go_wp2_with (go_at_call 49; refine HV.out.mono ?_; rintro e w' ⟨rfl, rfl⟩)
    go_ret2
    exact GivesIB.of HB.out.symm (Below.refl _ _)
  · have HB := Lib.hid (bestV_yes hv)
    rw [hv] at HV
    have hl := valid_len hv
    have HG := Lib.hid (fun (k : Nat) (wr : World) (hb : Below w.heap.size w wr) => sseen_any v p (k : Int) wr (hr.below hb) hn)
    have HSe := Lib.hid (show ∀ k : Nat, (seenL p (k : Int)).length = seeN p k from fun _ => rfl)
    obtain ⟨a, cap, rfl⟩ := hr.shape
    obtain ⟨n, hN⟩ : ∃ n, n = p.length := ⟨_, rfl⟩
    rw [← hN] at hn hl HV HB HG ⊢
    have HLe := Lib.hid (show ∀ k : Nat, seeN p k ≤ n by rw [hN]; exact seeN_le p)
    obtain ⟨l1, l2⟩ := hl
    clear hr hv hN
    go_enter Try.func43, Try.ntmps43
    go_wp2_with (go_at_call 49; refine HV.out.mono ?_; rintro e w' ⟨rfl, rfl⟩)
    go_loopw [4, 5] (fun s j wr => ∃ k : Nat, k ≤ n ∧ j = .int .i64 k ∧ s = .int .i64 (bestS p k) ∧ Below w.heap.size w wr) (fun _ j _ => n - (intOf j).toNat)
    case atStart => exact ⟨0, Nat.zero_le _, rfl, rfl, Below.refl _ _⟩
    case round =>
      obtain ⟨k, hk, rfl, rfl, hb⟩ := hrel
      have hsz := hb.size
      have HBe := Lib.hid hb; clear hb
      by_cases hlt : k < n
      · have G := Lib.hid (HG.out k _ HBe.out)
        have G2 := Lib.hid (fun w2 hb => HG.out (bestS p k) w2 hb)
        unfold GivesRow at G G2
        rw [HSe.out k] at G
        rw [HSe.out (bestS p k)] at G2
        have hle := HLe.out k
        have hle2 := HLe.out (bestS p k)
        obtain ⟨B, hB⟩ : ∃ B, B = bestS p k := ⟨_, rfl⟩
        have HY := Lib.hid (show seeN p (bestS p k) < seeN p k → bestS p (k + 1) = k from bestS_yes)
        have HN := Lib.hid (show ¬ seeN p (bestS p k) < seeN p k → bestS p (k + 1) = bestS p k from bestS_no)
        rw [← hB] at G2 hle2 HY HN ⊢
        clear hB
        obtain ⟨c, hC⟩ : ∃ c, c = seeN p k := ⟨_, rfl⟩
        obtain ⟨d, hD⟩ : ∃ d, d = seeN p B := ⟨_, rfl⟩
        rw [← hC] at G hle HY HN
        rw [← hD] at G2 hle2 HY HN
        clear hC hD
        by_cases hc : d < c
        · have HS := Lib.hid (HY.out hc)
          go_wp2_with fail
          refine G.out.mono ?_
          rintro e w2 ⟨a2, cap2, rfl, -, hb2⟩
          have hbb := Lib.hid (HBe.out.trans (hb2.mono hsz))
          have hsz2 := hb2.size
          clear hb2
          go_wp2_with fail
          refine (G2.out _ hbb.out).mono ?_
          rintro e w3 ⟨a3, cap3, rfl, -, hb3⟩
          go_wp2
          go_roundw
          case rel => exact ⟨k + 1, by omega, by go_num, by rw [HS.out], hbb.out.trans (hb3.mono (by omega))⟩
          case measure => simp [intOf]; omega
        · have HS := Lib.hid (HN.out hc)
          go_wp2_with fail
          refine G.out.mono ?_
          rintro e w2 ⟨a2, cap2, rfl, -, hb2⟩
          have hbb := Lib.hid (HBe.out.trans (hb2.mono hsz))
          have hsz2 := hb2.size
          clear hb2
          go_wp2_with fail
          refine (G2.out _ hbb.out).mono ?_
          rintro e w3 ⟨a3, cap3, rfl, -, hb3⟩
          go_wp2
          go_roundw
          case rel => exact ⟨k + 1, by omega, by go_num, by rw [HS.out], hbb.out.trans (hb3.mono (by omega))⟩
          case measure => simp [intOf]; omega
      · have hke : k = n := by omega
        subst hke
        go_wp2
        go_ret2
        exact GivesIB.of HB.out.symm HBe.out

end Go.Proofs.Ytbehpooapnjpeaa
