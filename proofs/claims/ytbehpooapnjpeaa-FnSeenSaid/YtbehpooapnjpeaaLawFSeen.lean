/- Walk of the law FnSeen: neighbors are always seen. -/
import Derived.Test.YtbehpooapnjpeaaDProf2
import Derived.Test.YtbehpooapnjpeaaSame
import Derived.Test.YtbehpooapnjpeaaSeen
import Derived.Test.YtbehpooapnjpeaaPlainV
namespace Go.Proofs.Ytbehpooapnjpeaa
open Go.RowKit

set_option maxRecDepth 100000 in
set_option maxHeartbeats 4000000 in
theorem fnSeen_walk (w : World) (v0 : Value) (z0 : List Int) (hr0 : RowB w v0 z0) (_hm0 : z0.length ≤ maxLen) (hf0 : ∀ n ∈ z0, (Lit.int .u8 n).wf = true) :
    Calls Try.prog 8 #[v0] w fun e w' => e = .returned (.bool true) ∧ Below w.heap.size w w' := by
  have HDr := Lib.hid (dProfileSeen_any v0 z0 w hr0 hf0)
  obtain ⟨a0, cap0, rfl, -, -, -⟩ := hr0
  clear _hm0 hf0
  by_cases hbig : 1048576 < z0.length
  · go_enter Try.func8, Try.ntmps8
    go_wp2
    go_ret
    exact ⟨rfl, Below.refl _ _⟩
  go_enter Try.func8, Try.ntmps8
  have BT := Lib.hid (Below.refl w.heap.size w)
  go_wp2_with fail
  refine HDr.out.mono ?_
  rintro e w1 ⟨p, a_p, c_p, x, rfl, hlp, hR_p, hx0, hx1, hb⟩
  have R_p := Lib.hid hR_p
  replace BT := Lib.hid (BT.out.trans (hb.mono BT.out.size))
  clear hR_p hb HDr
  go_wp2_with fail
  refine (iseen_any _ p x _ R_p.out (by omega)).mono ?_
  rintro e w2 ⟨a_o, c_o, rfl, ho, hb⟩
  replace R_p := Lib.hid (R_p.out.below hb)
  replace BT := Lib.hid (BT.out.trans (hb.mono BT.out.size))
  have R_o := Lib.hid ho.row
  clear ho
  clear hb
  go_wp2_with fail
  refine (sseen_any _ p x _ R_p.out (by omega)).mono ?_
  rintro e w3 ⟨a_t, c_t, rfl, ho, hb⟩
  replace R_p := Lib.hid (R_p.out.below hb)
  replace R_o := Lib.hid (R_o.out.below hb)
  replace BT := Lib.hid (BT.out.trans (hb.mono BT.out.size))
  have R_t := Lib.hid ho.row
  clear ho
  clear hb
  have hlo : (seenL p x).length ≤ 1099511627776 := by have := seenL_len p x; omega
  have x1 : decide ((seenL p x) = (seenL p x)) = true := by simp
  go_wp2_with fail
  refine (calls_below (same_any _ _ (seenL p x) (seenL p x) _ R_o.out R_t.out hlo hlo)).mono ?_
  rintro e w4 ⟨rfl, hb⟩
  replace R_p := Lib.hid (R_p.out.below hb)
  replace R_o := Lib.hid (R_o.out.below hb)
  replace R_t := Lib.hid (R_t.out.below hb)
  replace BT := Lib.hid (BT.out.trans (hb.mono BT.out.size))
  clear hb
  cases hT : hasB p x
  · have hE := seenL_no hT
    clear hT
    have R_o2 := R_o.out
    have R_t2 := R_t.out
    have hz : (seenL p x).length = 0 := by rw [hE]; rfl
    have HS := Lib.hid (calls_below (same_any _ _ (seenL p x) (seenL p x) _ R_o.out R_t.out hlo hlo))
    rw [hz] at HS ⊢
    clear hE hz R_o2 R_t2
    go_wp2_with fail
    refine (HS.out).mono ?_
    rintro e w5 ⟨rfl, hb⟩
    replace R_p := Lib.hid (R_p.out.below hb)
    replace R_o := Lib.hid (R_o.out.below hb)
    replace R_t := Lib.hid (R_t.out.below hb)
    replace BT := Lib.hid (BT.out.trans (hb.mono BT.out.size))
    clear hb
    go_wp2
    go_ret
    exact ⟨rfl, BT.out⟩
  · have HT := Lib.hid hT
    have hx := (hasB_iff.1 hT).2
    obtain ⟨hx2, hx3⟩ := hx
    have hn0 : 0 < (seenL p x).length := by have h := seen_near hT x.toNat (by omega) (by omega) (by omega); exact List.length_pos_of_mem h
    have b0 : (((seenL p x).length : Int) == 0) = false := by simp only [beq_eq_false_iff_ne, ne_eq]; omega
    clear hT
    have hn1 : ¬ (seenL p x).length = 0 := by omega
    have HM := Lib.hid (fun k hk => seen_mem (p := p) (i := x) HT.out k hk)
    have HNr := Lib.hid (fun k hk h1 h2 => seen_near (p := p) (i := x) HT.out k hk h1 h2)
    clear R_t
    go_wp2
    go_loopw [7] (fun i wr => ∃ k : Nat, k ≤ p.length ∧ i = .int .i64 k ∧ Below w4.heap.size w4 wr) (fun  i _ => p.length - (intOf i).toNat)
    case atStart => exact ⟨0, by omega, rfl, Below.refl _ _⟩
    case round =>
      obtain ⟨k, hk, rfl, hb⟩ := hrel
      have HBe := Lib.hid hb
      clear hb
      replace R_p := Lib.hid (R_p.out.below HBe.out)
      replace R_o := Lib.hid (R_o.out.below HBe.out)
      replace BT := Lib.hid (BT.out.trans ((HBe.out).mono BT.out.size))
      by_cases hlt : k < p.length
      · have HA := Lib.hid (has_any _ (seenL p x) (k : Int) wr R_o.out hlo)
        rw [HM.out k hlt] at HA
        go_wp2_with fail
        refine (calls_same HA.out).mono ?_
        rintro e w6 ⟨rfl, hb⟩
        replace R_p := Lib.hid (R_p.out.below hb)
        replace R_o := Lib.hid (R_o.out.below hb)
        replace BT := Lib.hid (BT.out.trans (hb.mono BT.out.size))
        replace HBe := Lib.hid (HBe.out.trans (hb.mono HBe.out.size))
        clear hb
        go_wp2_with fail
        refine (isees3_any _ p x (k : Int) _ R_p.out (by omega)).mono ?_
        rintro e w7 ⟨rfl, hb⟩
        replace R_p := Lib.hid (R_p.out.below hb)
        replace R_o := Lib.hid (R_o.out.below hb)
        replace BT := Lib.hid (BT.out.trans (hb.mono BT.out.size))
        replace HBe := Lib.hid (HBe.out.trans (hb.mono HBe.out.size))
        clear hb
        have hmem := fun h1 h2 => HNr.out k hlt h1 h2
        have hmb : ∀ (h1 : -1 ≤ (k : Int) - x) (h2 : (k : Int) - x ≤ 1), sees3B p x (k : Int) = true := fun h1 h2 => by have h := HM.out k hlt; rw [decide_eq_true (hmem h1 h2)] at h; exact h.symm
        clear hmem
        by_cases d1 : -1 ≤ (k : Int) - x
        · have e1 : decide (-1 ≤ (k : Int) - x) = true := by simp; omega
          by_cases d2 : (k : Int) - x ≤ 1
          · have e2 : decide ((k : Int) - x ≤ 1) = true := by simp; omega
            have hb := hmb d1 d2
            rw [hb]
            have HA2 := Lib.hid (has_any _ (seenL p x) (k : Int) _ R_o.out hlo)
            rw [HM.out k hlt, hb] at HA2
            clear hb hmb
            go_wp2_with fail
            refine (calls_same HA2.out).mono ?_
            rintro e w8 ⟨rfl, hb⟩
            replace R_p := Lib.hid (R_p.out.below hb)
            replace R_o := Lib.hid (R_o.out.below hb)
            replace BT := Lib.hid (BT.out.trans (hb.mono BT.out.size))
            replace HBe := Lib.hid (HBe.out.trans (hb.mono HBe.out.size))
            clear hb
            go_wp2
            go_roundw
            case rel => exact ⟨k + 1, by omega, by go_num, HBe.out⟩
            case measure => simp [intOf]; omega
          · have e2 : decide ((k : Int) - x ≤ 1) = false := by simp; omega
            obtain ⟨b, hb⟩ : ∃ b, b = sees3B p x (k : Int) := ⟨_, rfl⟩
            rw [← hb]
            have eb : (b != b) = false := by simp
            clear hb hmb
            go_wp2
            go_roundw
            case rel => exact ⟨k + 1, by omega, by go_num, HBe.out⟩
            case measure => simp [intOf]; omega
        · have e1 : decide (-1 ≤ (k : Int) - x) = false := by simp; omega
          obtain ⟨b, hb⟩ : ∃ b, b = sees3B p x (k : Int) := ⟨_, rfl⟩
          rw [← hb]
          have eb : (b != b) = false := by simp
          clear hb hmb
          go_wp2
          go_roundw
          case rel => exact ⟨k + 1, by omega, by go_num, HBe.out⟩
          case measure => simp [intOf]; omega
      · have hje : p.length ≤ k := by omega
        go_wp2
        go_ret
        exact ⟨rfl, BT.out⟩

end Go.Proofs.Ytbehpooapnjpeaa
