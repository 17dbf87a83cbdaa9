/- Contract: l6hCosts of the reference. -/
import Derived.Test.YtonehpndbbojpaaSpan
import Derived.Test.YtonehpndbbojpaaPlainF
import Derived.StillTailTactics
namespace Go.Proofs.Ytonehpndbbojpaa
open Go.RowKit

/-- How many points lead on from each point. -/
def costN (p : List Int) (e : Int) (i : Nat) : Nat := (lineL (okB p e) p.length i).length
def costsL (p : List Int) (e : Int) : List Int := (List.range p.length).map (fun i => (costN p e i : Int))
theorem costsL_len (p : List Int) (e : Int) : (costsL p e).length = p.length := by simp [costsL]
theorem costsL_at (p : List Int) (e : Int) (i : Nat) (h : i < p.length) : (costsL p e).getD i 0 = costN p e i := by simp [costsL, h]
theorem costs_ext {p : List Int} {e : Int} {cs : List Int} (h1 : cs.length = p.length) (h2 : ∀ k, k < p.length → cs.getD k 0 = costN p e k) : cs = costsL p e := by
  apply List.ext_getElem
  · rw [h1, costsL_len]
  · intro i h3 h4
    have a := h2 i (by omega)
    have b := costsL_at p e i (by omega)
    simp [h3] at a
    simp [h4] at b
    rw [a, b]
theorem costN_bd {p : List Int} {e : Int} (he : 0 ≤ e) {i : Nat} (hi : i < p.length) : 1 ≤ costN p e i ∧ costN p e i ≤ p.length := by
  have h := lines_at (few_ok (p := p) he) hi
  have := h.len
  have := h.pos
  unfold costN
  omega

/-- What stands at i after m points behind it. -/
def costM (p : List Int) (e : Int) (i m : Nat) : Nat := if i = p.length - 1 then 1 else minC (okB p e i) (costN p e) p.length i m
theorem costM_zero {p : List Int} {e : Int} {i : Nat} (h : ¬ i = p.length - 1) : costM p e i 0 = p.length := by simp [costM, h, minC]
theorem costM_last {p : List Int} {e : Int} {i : Nat} (h : i = p.length - 1) (m : Nat) : costM p e i m = 1 := by simp [costM, h]
theorem costM_yes {p : List Int} {e : Int} {i m : Nat} (h : i + 1 + m < p.length) (hk : spanV p i (i + 1 + m) ≤ e) : costM p e i (m + 1) = min (costM p e i m) (1 + costN p e (i + 1 + m)) := by
  unfold costM
  rw [if_neg (by omega), if_neg (by omega)]
  simp only [minC]
  rw [if_pos (okB_iff.2 hk)]
theorem costM_no {p : List Int} {e : Int} {i m : Nat} (h : i + 1 + m < p.length) (hk : ¬ spanV p i (i + 1 + m) ≤ e) : costM p e i (m + 1) = costM p e i m := by
  unfold costM
  rw [if_neg (by omega), if_neg (by omega)]
  simp only [minC]
  rw [if_neg (by rw [okB_iff]; exact hk)]
theorem costM_end {p : List Int} {e : Int} (he : 0 ≤ e) {i m : Nat} (hi : i < p.length) (h : i + 1 + m = p.length) : costM p e i m = costN p e i := by
  unfold costM
  split
  · rename_i hl
    subst hl
    unfold costN
    rw [lineL_last]; rfl
  · have := minC_line (few_ok (p := p) he) (i := i) (by omega)
    rw [show m = p.length - 1 - i by omega]
    exact this
theorem costM_bd (p : List Int) (e : Int) (i m : Nat) (h : 0 < p.length) : costM p e i m ≤ p.length := by
  unfold costM
  split
  · omega
  · exact (minC_le _ _ _ _ _).1

theorem getD_set_ne (zs : List Int) (i j : Nat) (x : Int) (h : i ≠ j) : (zs.set i x).getD j 0 = zs.getD j 0 := by
  simp [List.getD_eq_getElem?_getD, h]

set_option maxHeartbeats 1000000 in
theorem costs_any (v : Value) (p : List Int) (e : Int) (w : World) (hr : Row w v p) (hv : validB p = true) (he : 0 ≤ e) :
    Calls Try.prog 65 #[v, .int .i64 e] w (GivesRow (costsL p e) w) := by
  have hl := valid_len hv
  have HG := Lib.hid (fun (i k : Nat) (wr : World) (hik : i ≤ k) (hk : k < p.length) (hb : Below w.heap.size w wr) => calls_below (sspan_any v p i k wr (hr.below hb) hv hik hk))
  have HE := Lib.hid (fun i k => spanV_bd hv i k)
  have HY := Lib.hid (fun i m => @costM_yes p e i m)
  have HN := Lib.hid (fun i m => @costM_no p e i m)
  have HZ := Lib.hid (fun i => @costM_zero p e i)
  have HL := Lib.hid (fun i => @costM_last p e i)
  have HEnd := Lib.hid (fun i m => @costM_end p e he i m)
  have HMb := Lib.hid (fun i m => costM_bd p e i m (by omega))
  have HNb := Lib.hid (fun i hi => @costN_bd p e he i hi)
  have HX := Lib.hid (fun cs => @costs_ext p e cs)
  obtain ⟨a, cap, rfl⟩ := hr.shape
  obtain ⟨i0, hi, hz0, hz1, hz2⟩ := info_parts Try.infoInt
  obtain ⟨n, hN⟩ : ∃ n, n = p.length := ⟨_, rfl⟩
  rw [← hN] at hl HG HY HN HZ HL HEnd HMb HNb HX ⊢
  obtain ⟨l1, l2⟩ := hl
  clear hr hv hN
  have hm : n ≤ maxLen := by unfold maxLen; omega
  go_enter Try.func65, Try.ntmps65
  go_wp2_with (at_make; refine wpList_make_full _ rfl _ _ 23 rfl w.heap.size 3 i0 (.int .i64 0) 1 Try.underlying23 hi hz0 hz1 .i64 .i64 _ _ n rfl rfl rfl rfl (by rw [hz2]; omega) hm (Nat.le_refl _) ?_; intro w1 hown hgrow)
  have HO0 := Lib.hid (Own.made hown)
  have HB0 := Lib.hid (below_of_grown hgrow (Nat.le_refl _) (fun k e => by cases e) : Below w.heap.size w w1)
  clear hown hgrow
  go_loopw [6] (fun s wr => ∃ (d : Nat) (cs : List Int), d ≤ n ∧ s = .int .i64 ((n : Int) - 1 - d) ∧ cs.length = n ∧ (∀ k, n - d ≤ k → k < n → cs.getD k 0 = costN p e k) ∧ Own wr w.heap.size (.slice (some ⟨w.heap.size, 0, none⟩) n n) cs ∧ Below w.heap.size w wr) (fun s _ => (intOf s + 1).toNat)
  case atStart => exact ⟨0, List.replicate n 0, Nat.zero_le _, by go_num, by simp, fun k h1 h2 => by omega, HO0.out, HB0.out⟩
  case round =>
    clear HO0 HB0
    obtain ⟨d, cs, hd, rfl, hlen, hcs, ho, hb⟩ := hrel
    have HCs := Lib.hid hcs; clear hcs
    have HLen := Lib.hid hlen; clear hlen
    have HBe := Lib.hid hb; clear hb
    by_cases hlt : d < n
    · obtain ⟨i, hi⟩ : ∃ i : Nat, i + d + 1 = n := ⟨n - 1 - d, by omega⟩
      have ei : ((n : Int) - 1 - d) = (i : Int) := by omega
      rw [ei]
      have HI := Lib.hid hi
      have hin : i < n := by omega
      clear ei hi
      have hold := ho.cellAt i hin
      have hfr := ho.frozenAt i
      have HS1 := Lib.hid (ho.store i (n : Int))
      have hm0 : (0 : Int) ≤ (i : Int) := by omega
      by_cases hlast : i + 1 = n
      · have heq : ((i : Int) == (n : Int) - 1) = true := by simp; omega
        have hold2 := HS1.out.1.cellAt i hin
        have hfr2 := HS1.out.1.frozenAt i
        have HS2 := Lib.hid (HS1.out.1.store i 1)
        obtain ⟨z, hz⟩ : ∃ z, z = cs.getD i 0 := ⟨_, rfl⟩
        obtain ⟨z2, hz2⟩ : ∃ z, z = (cs.set i (n : Int)).getD i 0 := ⟨_, rfl⟩
        rw [← hz] at hold
        rw [← hz2] at hold2
        clear hz hz2 ho
        have HB2 := Lib.hid ((HBe.out.setCell (p := ⟨w.heap.size, i, none⟩) (Nat.le_refl _) (.int .i64 (n : Int))).setCell (p := ⟨w.heap.size, i, none⟩) (Nat.le_refl _) (.int .i64 1))
        have hcs2 : ∀ k, n - (d + 1) ≤ k → k < n → ((cs.set i (n : Int)).set i 1).getD k 0 = costN p e k := by
          intro k k1 k2
          have hk : k = i := by have := HI.out; omega
          subst hk
          rw [getD_set_eq _ _ _ (by simp; rw [HLen.out]; exact hin), ← HEnd.out k 0 hin (by omega), HL.out k (by omega) 0]
          rfl
        have HC2 := Lib.hid hcs2
        clear hcs2
        go_wp2
        obtain ⟨wo, rfl⟩ : ∃ wo : World, wo = wr := ⟨_, rfl⟩
        go_loopw [7] (fun s wr => s = .int .i64 ((i : Int) + 1) ∧ Own wr w.heap.size (.slice (some ⟨w.heap.size, 0, none⟩) n n) ((cs.set i (n : Int)).set i 1) ∧ Below w.heap.size w wr) (fun _ _ => 0)
        case atStart => exact ⟨rfl, HS2.out.1, HB2.out⟩
        case round =>
          clear HS1 HS2 HB2 hold hold2 hfr hfr2 HBe
          obtain ⟨rfl, ho, hb⟩ := hrel
          have HO := Lib.hid ho; clear ho
          have HBe := Lib.hid hb; clear hb
          go_wp2
          go_roundw
          case rel => exact ⟨d + 1, _, by omega, val_int (by have := HI.out; omega), by simp; exact HLen.out, HC2.out, HO.out, HBe.out⟩
          case measure => simp [intOf]
      · have heq : ((i : Int) == (n : Int) - 1) = false := by simp; omega
        have HB2 := Lib.hid (HBe.out.setCell (p := ⟨w.heap.size, i, none⟩) (Nat.le_refl _) (.int .i64 (n : Int)))
        obtain ⟨z, hz⟩ : ∃ z, z = cs.getD i 0 := ⟨_, rfl⟩
        rw [← hz] at hold
        clear hz ho
        have hc0 : (cs.set i (n : Int)).getD i 0 = (costM p e i 0 : Nat) := by
          rw [getD_set_eq _ _ _ (by rw [HLen.out]; exact hin), HZ.out i (by omega)]
        have hc1 : ∀ k, i < k → k < n → (cs.set i (n : Int)).getD k 0 = costN p e k := fun k k1 k2 => by
          rw [getD_set_ne _ _ _ _ (by omega)]; exact HCs.out k (by have := HI.out; omega) k2
        have HC0 := Lib.hid hc0
        have HC1 := Lib.hid hc1
        clear hc0 hc1
        go_wp2
        obtain ⟨wo, rfl⟩ : ∃ wo : World, wo = wr := ⟨_, rfl⟩
        go_loopw [7] (fun s wr => ∃ (m : Nat) (cs : List Int), i + 1 + m ≤ n ∧ s = .int .i64 (i + 1 + m : Nat) ∧ cs.length = n ∧ cs.getD i 0 = (costM p e i m : Nat) ∧ (∀ k, i < k → k < n → cs.getD k 0 = costN p e k) ∧ Own wr w.heap.size (.slice (some ⟨w.heap.size, 0, none⟩) n n) cs ∧ Below w.heap.size w wr) (fun s _ => n - (intOf s).toNat)
        case atStart => exact ⟨0, _, by omega, by go_num, by simp; exact HLen.out, HC0.out, HC1.out, HS1.out.1, HB2.out⟩
        case round =>
          clear HS1 HB2 hold hfr HBe HC0 HC1 HCs HLen
          obtain ⟨m, cs, hmn, rfl, hlen, hc0, hc1, ho, hb⟩ := hrel
          have HBe := Lib.hid hb; clear hb
          have hsz := HBe.out.size
          have HLen := Lib.hid hlen; clear hlen
          have HC1 := Lib.hid hc1; clear hc1
          have hMb := HMb.out i m
          by_cases hlt2 : i + 1 + m < n
          · obtain ⟨k, hk⟩ : ∃ k, k = i + 1 + m := ⟨_, rfl⟩
            have G := Lib.hid (HG.out i k _ (by omega) (by omega) HBe.out)
            have Y := Lib.hid (HY.out i m hlt2)
            have N := Lib.hid (HN.out i m hlt2)
            have hNb := HNb.out (i + 1 + m) hlt2
            have c1 := HC1.out (i + 1 + m) (by omega) hlt2
            rw [← hk] at Y N hNb c1 hlt2 ⊢
            have HK := Lib.hid hk
            have hik : i ≠ k := by omega
            have hik2 : i < k := by omega
            clear hk
            obtain ⟨E, hE⟩ : ∃ E, E = spanV p i k := ⟨_, rfl⟩
            rw [← hE] at G Y N
            clear hE
            by_cases hle : E ≤ e
            · have Y' := Lib.hid (Y.out hle)
              have HOw := Lib.hid ho
              have HC0 := Lib.hid hc0
              have HCk := Lib.hid c1
              obtain ⟨M, hM⟩ : ∃ M, M = costM p e i m := ⟨_, rfl⟩
              obtain ⟨C, hC⟩ : ∃ C, C = costN p e k := ⟨_, rfl⟩
              rw [← hM] at Y' hMb HC0
              rw [← hC] at Y' hNb HCk
              clear hM hC ho hc0 c1
              go_wp2_with fail
              refine G.out.mono ?_
              rintro ee w2 ⟨rfl, hb2⟩
              have HO2 := Lib.hid (HOw.out.below hb2)
              have HB2 := Lib.hid (HBe.out.trans (hb2.mono hsz))
              clear hb2
              have d0 := HO2.out.cellAt i hin
              have d1 := HO2.out.cellAt k hlt2
              have d2 := HO2.out.frozenAt i
              rw [HC0.out] at d0
              rw [HCk.out] at d1
              have q1 : (0 : Int) ≤ (i : Int) := by omega
              have q2 : (i : Int) < (n : Int) := by omega
              have q3 : (0 : Int) ≤ (k : Int) := by omega
              have q4 : (k : Int) < (n : Int) := by omega
              have q5 : IntKind.i64.wrap (1 + (C : Int)) = 1 + (C : Int) := IntWalk.i64_in _ (by omega)
              have HSt := Lib.hid (fun x => HO2.out.store i x)
              have BD := Lib.hid (show ∀ W, Below w.heap.size w W → Below w.heap.size w W.drew from fun W h => ⟨h.os, h.tape, h.output, h.size, h.block⟩)
              by_cases hmin : (M : Int) ≤ 1 + (C : Int)
              · clear hmn
                go_wp2
                go_region
                all_goals
                  go_wp2
                  go_roundw
                  case rel =>
                    refine ⟨m + 1, cs.set i (M : Int), by have := HK.out; omega, by rw [show i + 1 + (m + 1) = k + 1 by have := HK.out; omega]; go_num, by simp; exact HLen.out, ?_, ?_, (HSt.out _).1, BD.out _ (HB2.out.setCell (p := ⟨w.heap.size, i, none⟩) (Nat.le_refl _) _)⟩
                    · rw [getD_set_eq _ _ _ (by rw [HLen.out]; exact hin), Y'.out]
                      omega
                    · intro k' k1 k2
                      rw [getD_set_ne _ _ _ _ (by omega)]
                      exact HC1.out k' k1 k2
                  case measure => simp [intOf]; omega
              · have hmin' : 1 + (C : Int) < (M : Int) := by omega
                clear hmn
                go_wp2
                go_region
                all_goals
                  go_wp2
                  go_roundw
                  case rel =>
                    refine ⟨m + 1, cs.set i (1 + (C : Int)), by have := HK.out; omega, by rw [show i + 1 + (m + 1) = k + 1 by have := HK.out; omega]; go_num, by simp; exact HLen.out, ?_, ?_, (HSt.out _).1, BD.out _ (HB2.out.setCell (p := ⟨w.heap.size, i, none⟩) (Nat.le_refl _) _)⟩
                    · rw [getD_set_eq _ _ _ (by rw [HLen.out]; exact hin), Y'.out]
                      omega
                    · intro k' k1 k2
                      rw [getD_set_ne _ _ _ _ (by omega)]
                      exact HC1.out k' k1 k2
                  case measure => simp [intOf]; omega
            · have N' := Lib.hid (N.out (by omega))
              have HOw := Lib.hid ho
              have HC0 := Lib.hid hc0
              obtain ⟨M, hM⟩ : ∃ M, M = costM p e i m := ⟨_, rfl⟩
              rw [← hM] at N' hMb HC0
              clear hM ho hc0 c1 hmn
              go_wp2_with fail
              refine G.out.mono ?_
              rintro ee w2 ⟨rfl, hb2⟩
              have HO2 := Lib.hid (HOw.out.below hb2)
              have HB2 := Lib.hid (HBe.out.trans (hb2.mono hsz))
              clear hb2
              go_wp2
              go_roundw
              case rel => exact ⟨m + 1, cs, by have := HK.out; omega, by rw [show i + 1 + (m + 1) = k + 1 by have := HK.out; omega]; go_num, HLen.out, by rw [N'.out]; exact HC0.out, HC1.out, HO2.out, HB2.out⟩
              case measure => simp [intOf]; omega
          · have hme : i + 1 + m = n := by omega
            have HEn := Lib.hid (HEnd.out i m hin hme)
            have HC0 := Lib.hid hc0
            have HOw := Lib.hid ho
            rw [hme]
            clear hc0 ho hmn hlt2 hme
            go_wp2
            go_roundw
            case rel =>
              refine ⟨d + 1, cs, by omega, val_int (by have := HI.out; omega), HLen.out, ?_, HOw.out, HBe.out⟩
              intro k k1 k2
              by_cases hki : k = i
              · subst hki; rw [HC0.out, HEn.out]
              · exact HC1.out k (by have := HI.out; omega) k2
            case measure => simp [intOf]
    · have hde : d = n := by omega
      have HF := Lib.hid (HX.out cs HLen.out (fun k hk => HCs.out k (by omega) hk))
      have HOw := Lib.hid ho
      clear ho
      subst hde
      go_wp2
      go_ret
      rw [← HF.out]
      exact GivesRow.of HOw.out HBe.out

end Go.Proofs.Ytonehpndbbojpaa
