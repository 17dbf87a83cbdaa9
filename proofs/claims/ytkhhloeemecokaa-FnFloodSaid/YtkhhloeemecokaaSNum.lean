/- Contract: l3Numbers of the reference. -/
import Derived.Test.YtkhhloeemecokaaSPasses
import Derived.Test.YtkhhloeemecokaaPlainFl
import Derived.Test.YtkhhloeemecokaaQueue
import Derived.Deep.Cut
namespace Go.Proofs.Ytkhhloeemecokaa
open Go.RowKit
set_option linter.unusedVariables false

/-- The memory of a flood. -/
structure NMem (w : World) (S G N gc : Nat) (out list : List Int) (v : Value) (wr : World) : Prop where
  own : Own wr w.heap.size (.slice (some ⟨G, 0, none⟩) N gc) out
  lst : QAt wr S v list
  bel : Below w.heap.size w wr
  lt : G < S
theorem NMem.below {w : World} {S G N gc : Nat} {out list : List Int} {v : Value} {wr w' : World} (p : NMem w S G N gc out list v wr) (hb : Below wr.heap.size wr w') : NMem w S G N gc out list v w' :=
  ⟨p.own.below hb, p.lst.below hb, p.bel.trans (hb.mono p.bel.size), p.lt⟩
theorem NMem.store {w : World} {S G N gc : Nat} {out list : List Int} {v : Value} {wr : World} (p : NMem w S G N gc out list v wr) (k : Nat) (x : Int) : NMem w S G N gc (out.set k x) list v (wr.setCell ⟨G, k, none⟩ (.int .i64 x)) := by
  have h1 := p.own.store k x
  have h2 := (p.own.lt G rfl).1
  have h3 := p.lt
  exact ⟨h1.1, p.lst.kept (fun k' hk => heap_setCell_other wr ⟨G, k, none⟩ k' _ (by have := (p.lst.lt k' hk).1; simp; omega)), p.bel.setCell (by simpa using h2) _, h3⟩
theorem NMem.app {w : World} {S G N gc : Nat} {out list list' : List Int} {v v' : Value} {wr w' : World} (p : NMem w S G N gc out list v wr) (hS : w.heap.size ≤ S) (hq : QAt w' S v' list') (hg : wr.grownBy w' v.ownBlock) : NMem w S G N gc out list' v' w' := by
  have h3 := p.lt
  exact ⟨p.own.kept hg (fun k hk e => by simp only [Value.ownBlock, Option.some.injEq] at hk; subst hk; have := (p.lst.lt _ e).1; omega), hq, p.bel.grown hg p.bel.size (fun k e => by have := (p.lst.lt k e).1; omega), h3⟩
/-- What l3Numbers gives. -/
def GivesNumS (N : Nat) (nb : Nat → List Int) (h : Nat → Int) (lev : Int) (w : World) (e : Ending) (w' : World) : Prop :=
  ∃ a cap cnt num, e = .returned (.tuple #[.slice a N cap, .int .i64 cnt]) ∧ Row w' (.slice a N cap) num ∧ RegOk N nb h lev num ∧ Below w.heap.size w w'
set_option maxRecDepth 4000 in
set_option maxHeartbeats 4000000 in
theorem l3Numbers_any (v : Value) (g : List (List Int)) (n C N : Nat) (lev : Int) (w : World) (hr : MRow w v g) (hv : gvalB g = true) (hn : n = g.length) (hC : C = colsG g) (hN : N = n * C) :
    Calls Try.prog 40 #[v, .int .i64 lev] w (GivesNumS N (nearL n C) (hgtG g C) lev w) := by
  have hG := grVal hv hn hC
  obtain ⟨h1, h2, h3, h4⟩ := gval_rows hv
  rw [← hn] at h1 h2
  rw [← hC] at h3 h4
  have hrow : ∀ r, r < n → (g.getD r []).length = C := fun r hr => by rw [hC]; exact gval_len hv r (by omega)
  have hN49 : N ≤ 49 := by rw [hN]; exact Nat.mul_le_mul h2 h4
  have hN1 : 1 ≤ N := by rw [hN]; exact Nat.mul_le_mul h1 h3
  have HCl := Lib.hid (fun (wr : World) (hb : Below w.heap.size w wr) => l2Cells_any v g n C N wr (hr.below hb) hn hC hN h1 h2 (by omega))
  have HHt := Lib.hid (fun (i : Nat) (wr : World) (hi : i < N) (hb : Below w.heap.size w wr) => l2Height_any v g i n C wr (hr.below hb) hn hC h3 h2 h4 (by rw [← hN]; exact hi) hrow)
  have HNr := Lib.hid (fun (i : Nat) (wr : World) (hi : i < N) (hb : Below w.heap.size w wr) => l2Near_any v g i n C wr (hr.below hb) hn hC h1 h2 h3 h4 (by rw [← hN]; exact hi))
  rw [← hN] at hG
  have HG := Lib.hid hG
  obtain ⟨h, hh⟩ : ∃ h : Nat → Int, h = hgtG g C := ⟨_, rfl⟩
  rw [← hh] at HG HHt ⊢
  have HE0 := Lib.hid (Own.emptyLit w w.heap.size (Nat.le_refl _))
  have HBA := Lib.hid (Below.alloc (Below.refl w.heap.size w) (Nat.le_refl _) (.cells #[] 3))
  clear hr hN hG hh hrow hn hC hv
  go_enter Try.func40, Try.ntmps40
  go_wp2_with fail
  go_loopw [6, 7] (fun s q wr => ∃ (k : Nat) (qa : Option Addr) (qc : Nat), k ≤ N ∧ q = .int .i64 k ∧ s = .slice qa k qc ∧ Own wr w.heap.size s (List.replicate k (-1)) ∧ Below w.heap.size w wr) (fun _ q _ => N - (intOf q).toNat)
  case atStart => exact ⟨0, _, _, Nat.zero_le _, rfl, rfl, HE0.out, HBA.out⟩
  case round =>
    obtain ⟨k, qa, qc, hk, rfl, rfl, ho, hb⟩ := hrel
    clear HE0 HBA
    have HO := Lib.hid ho
    have HB := Lib.hid hb
    clear ho hb
    by_cases hlt : k < N
    · have d1 : (k : Int) < (N : Int) := by omega
      go_upto_region 5 with (go_at_call 66; refine (HCl.out _ HB.out).mono ?_; rintro e w2 ⟨rfl, rfl⟩)
      have hbA := Below.alloc (Below.refl wr.heap.size wr) (Nat.le_refl _) (.cells #[.int .i64 (-1)] 3)
      have HO2 := Lib.hid (HO.out.below hbA)
      have HB2 := Lib.hid (HB.out.trans (hbA.mono HB.out.size))
      have hs2 := HB2.out.size
      have HNc := Lib.hid (show ∀ q, q < 1 → (wr.alloc (.cells #[.int .i64 (-1)] 3)).cell? ⟨wr.heap.size, 0 + q, none⟩ = some (.int .i64 (([-1] : List Int).getD q 0)) from fun q hq => by
        have : q = 0 := by omega
        subst this
        rw [cell_of_row _ wr.heap.size 0 _ _ (0, 0) (heap_alloc_new wr _)]; rfl)
      have HLn := Lib.hid (show (List.replicate k (-1 : Int)).length + 1 ≤ 1099511627776 by simp; omega)
      clear hbA
      go_wp2_with (at_builtin; refine appN (by rfl) _ _ (by rfl) w.heap.size (.slice qa k qc) (List.replicate k (-1)) [-1] wr.heap.size 0 1 1 ?a1h1 ?a1h2 ?a1h3 ?a1h4 ?a1h5 ?a1h6 ?a1h7 ?a1h8)
      case a1h1 => rfl
      case a1h2 => rfl
      case a1h3 => rfl
      case a1h4 => exact HNc.out
      case a1h5 => exact HO2.out
      case a1h6 => exact hs2
      case a1h7 => exact HLn.out
      intro v9 w9 ho9 hg9
      have HO9 := Lib.hid (show Own w9 w.heap.size v9 (List.replicate (k + 1) (-1)) from by rw [List.replicate_succ']; exact ho9)
      have HB9 := Lib.hid (below_own HB2.out HO2.out hs2 hg9)
      obtain ⟨qa9, qc9, rfl⟩ := HO9.out.shape
      rw [List.length_replicate] at HO9 ⊢
      clear ho9 hg9
      go_wp2_with fail
      go_roundw
      case rel => exact ⟨k + 1, qa9, qc9, by omega, by go_num, rfl, HO9.out, HB9.out⟩
      case measure => simp [intOf]; omega
    · have hke : N = k := by omega
      subst hke
      obtain ⟨G, rfl⟩ := HO.out.addr (by omega)
      obtain ⟨wq, hwq⟩ : ∃ x : World, x = wr := ⟨_, rfl⟩
      rw [← hwq] at HO HB ⊢
      clear hwq
      have hGl := HO.out.lt G rfl
      obtain ⟨S, hS⟩ : ∃ S, S = wq.heap.size := ⟨_, rfl⟩
      have hGS : G < S := by omega
      have hwS : w.heap.size ≤ S := by rw [hS]; exact HB.out.size
      have HSq := Lib.hid (show S ≤ wq.heap.size from by omega)
      clear hS
      go_wp2_with (go_at_call 66; refine (HCl.out _ HB.out).mono ?_; rintro e w2 ⟨rfl, rfl⟩)
      go_loopw [8, 9] (fun t q wr => ∃ (i m : Nat) (out : List Int), i ≤ N ∧ q = .int .i64 i ∧ t = .int .i64 m ∧ FIn N (nearL n C) h lev i m out ∧ Own wr w.heap.size (.slice (some ⟨G, 0, none⟩) N qc) out ∧ Below w.heap.size w wr ∧ S ≤ wr.heap.size) (fun _ q _ => N - (intOf q).toNat)
      case atStart => exact ⟨0, 0, _, Nat.zero_le _, rfl, rfl, FIn.start, HO.out, HB.out, HSq.out⟩
      case round =>
        obtain ⟨i, num, out, hiN, rfl, rfl, hfi, ho, hb, hsz⟩ := hrel
        clear HO HB HSq
        have HFi := Lib.hid hfi
        have HO := Lib.hid ho
        have HB := Lib.hid hb
        have HSz := Lib.hid hsz
        clear hfi ho hb hsz
        by_cases hlt : i < N
        · have d1 : (i : Int) < (N : Int) := by omega
          have ci := HO.out.cellAt i hlt
          have kf := HO.out.frozenAt i
          obtain ⟨y, hy⟩ : ∃ y, y = out.getD i 0 := ⟨_, rfl⟩
          rw [← hy] at ci
          have HY := Lib.hid hy
          clear hy
          by_cases c0 : y ≥ 0
          · go_wp2_with fail
            go_roundw
            case rel => exact ⟨i + 1, num, out, by omega, by go_num, rfl, HFi.out.skip (.inl (by rw [← HY.out]; exact c0)), HO.out, HB.out, HSz.out⟩
            case measure => simp [intOf]; omega
          · have HHi := Lib.hid (HHt.out i wr hlt HB.out)
            obtain ⟨hi', hhi⟩ : ∃ x, x = h i := ⟨_, rfl⟩
            rw [← hhi] at HHi
            have HHe := Lib.hid hhi
            clear hhi
            by_cases c1 : hi' < lev
            · go_wp2_with (go_at_call 55; refine HHi.out.mono ?_; rintro e w3 ⟨rfl, rfl⟩)
              go_roundw
              case rel => exact ⟨i + 1, num, out, by omega, by go_num, rfl, HFi.out.skip (.inr (by rw [← HHe.out]; exact c1)), HO.out.drewN 1, HB.out.trans ((below_drewN (Below.refl wr.heap.size wr) 1).mono HB.out.size), HSz.out⟩
              case measure => simp [intOf]; omega
            · have HFl := Lib.hid (HFi.out.flood hlt (by rw [← HY.out]; omega) (by rw [← HHe.out]; omega) i)
              have hnum := HFi.out.few
              go_upto_region 11 with (go_at_call 55; refine HHi.out.mono ?_; rintro e w3 ⟨rfl, rfl⟩)
              have HO1 := Lib.hid (show Own wr.drew w.heap.size (.slice (some ⟨G, 0, none⟩) N qc) out from HO.out.drewN 1)
              have HB1 := Lib.hid (show Below w.heap.size w wr.drew from HB.out.trans ((below_drewN (Below.refl wr.heap.size wr) 1).mono HB.out.size))
              have HS1 := Lib.hid (show S ≤ wr.drew.heap.size from HSz.out)
              obtain ⟨W1, hW1⟩ : ∃ W1, W1 = wr.drew := ⟨_, rfl⟩
              rw [← hW1] at HO1 HB1 HS1 ⊢
              clear hW1 ci kf HHi
              have ci := HO1.out.cellAt i hlt
              have kf := HO1.out.frozenAt i
              go_upto_region 12 with (fail)
              obtain ⟨W2, hW2⟩ : ∃ W2, W2 = W1.setCell ⟨G, i, none⟩ (.int .i64 (num : Int)) := ⟨_, rfl⟩
              have hO2 := (HO1.out.store i (num : Int)).1
              rw [← hW2] at hO2 ⊢
              have HO2 := Lib.hid hO2
              have HB2 := Lib.hid (show Below w.heap.size w W2 from by rw [hW2]; exact HB1.out.setCell (by simpa using hGl.1) _)
              have hS2 : S ≤ W2.heap.size := by rw [hW2]; have := HS1.out; simpa using this
              have hbn := Below.alloc (Below.refl W2.heap.size W2) (Nat.le_refl _) (.cells #[.int .i64 (i : Int)] 3)
              have HM := Lib.hid (show NMem w S G N qc (out.set i (num : Int)) [(i : Int)] (.slice (some ⟨W2.heap.size, 0, none⟩) 1 1) (W2.alloc (.cells #[.int .i64 (i : Int)] 3)) from ⟨HO2.out.below hbn, QAt.ofOwn (Own.lit1 W2 S (i : Int) hS2) (by simp), HB2.out.trans (hbn.mono HB2.out.size), hGS⟩)
              clear hW2 hO2 hbn HO2 HB2 HO1 HB1 HS1 ci kf HO HB HSz hS2
              go_wp2_with fail
              go_loopw [10, 11] (fun q t wr => ∃ (k c : Nat) (out list : List Int), t = .int .i64 k ∧ FMid N (nearL n C) h lev i num k c [] out list ∧ NMem w S G N qc out list q wr) (fun _ t _ => N - (intOf t).toNat)
              case atStart => exact ⟨0, i, _, _, rfl, HFl.out, HM.out⟩
              case round =>
                obtain ⟨k, c, out, list, rfl, hp, hm⟩ := hrel
                clear HM HFl
                have HP := Lib.hid hp
                have HM := Lib.hid hm
                clear hp
                obtain ⟨qg, qo, qc2, rfl, hqB, hqlt, hqc⟩ := hm.lst.form
                clear hm hqc
                have hcnt := HP.out.cnt
                have hkle := HP.out.kle
                obtain ⟨l, hll⟩ : ∃ l, l = list.length := ⟨_, rfl⟩
                have HLl := Lib.hid hll
                rw [← hll] at hcnt hkle HM ⊢
                have hl49 : l ≤ N := by omega
                clear hll hcnt
                by_cases hk : k < l
                · obtain ⟨a, ha, haN, ha0⟩ := HP.out.mem (list.getD k 0) (by rw [List.getD_eq_getElem?_getD, List.getElem?_eq_getElem (by rw [← HLl.out]; exact hk)]; simp)
                  have HA := Lib.hid ha
                  have hcell := (HM.out.lst.cell k hk).2
                  rw [ha] at hcell
                  clear ha
                  have HNk := Lib.hid (HNr.out a wr haN HM.out.bel)
                  obtain ⟨X, hX⟩ : ∃ X, X = nearL n C a := ⟨_, rfl⟩
                  rw [← hX] at HNk
                  have HXe := Lib.hid hX
                  have HX4 := Lib.hid (show X.length ≤ 4 by rw [hX]; exact nearL_len n C a)
                  have hdk : (k : Int) < (l : Int) := by omega
                  clear hX
                  go_wp2_with fail
                  go_at_call 45
                  refine HNk.out.mono ?_
                  rintro e w7 ⟨aX, cX, rfl, ho, hb7⟩
                  obtain ⟨x, hx⟩ : ∃ x, x = X.length := ⟨_, rfl⟩
                  rw [← hx] at ho HX4 ⊢
                  have HXl := Lib.hid hx
                  have HRX := Lib.hid ho.row
                  have HOX := Lib.hid ho
                  have HM7 := Lib.hid (HM.out.below hb7)
                  have HV7 := Lib.hid (show ∀ kk, (Value.slice (some ⟨qg, qo, none⟩) l qc2).ownBlock = some kk → kk < wr.heap.size from fun kk e => (HM.out.lst.lt kk e).2)
                  have hw2 : G < wr.heap.size := by have := (HM.out.own.lt G rfl).2; omega
                  clear hx ho hb7 HNk hcell
                  obtain ⟨v0, hv0⟩ : ∃ v0, v0 = Value.slice (some ⟨qg, qo, none⟩) l qc2 := ⟨_, rfl⟩
                  rw [← hv0] at HM7 HV7 ⊢
                  obtain ⟨wo, hwo⟩ : ∃ wo : World, wo = wr := ⟨_, rfl⟩
                  rw [← hwo] at HV7 HOX hw2
                  clear hv0 hwo HM hqB hqlt
                  go_wp2_with fail
                  go_loopw [10, 13] (fun q t wr => ∃ (m : Nat) (out list : List Int), m ≤ x ∧ t = .int .i64 m ∧ FMid N (nearL n C) h lev i num (k + 1) a (X.drop m) out list ∧ out.getD a 0 = num ∧ NMem w S G N qc out list q wr ∧ (∀ i, wo.heap.size ≤ i → i < w7.heap.size → wr.heap[i]? = w7.heap[i]?) ∧ w7.heap.size ≤ wr.heap.size ∧ ∀ kk, q.ownBlock = some kk → kk < wo.heap.size ∨ w7.heap.size ≤ kk) (fun _ t _ => x - (intOf t).toNat)
                  case atStart => exact ⟨0, out, list, Nat.zero_le _, rfl, by rw [List.drop_zero, HXe.out]; exact HP.out.enter (by rw [← HLl.out]; exact hk) HA.out, ha0, HM7.out, fun _ _ _ => rfl, Nat.le_refl _, fun kk e => .inl (HV7.out kk e)⟩
                  case round =>
                    obtain ⟨m, out', list', hmx, rfl, hp, ha0', hm, hke, hsz, hvo⟩ := hrel
                    have HP3 := Lib.hid hp
                    have HM3 := Lib.hid hm
                    have HKe := Lib.hid hke
                    have HSz := Lib.hid hsz
                    have HVo := Lib.hid hvo
                    have HA0 := Lib.hid ha0'
                    have hx4 := HX4.out
                    clear HM7 HV7 hp hm hke hsz hvo ha0'
                    have hkl2 := HP3.out.kle
                    obtain ⟨qg2, qo2, qc3, rfl, hqB2, hqlt2, hqc2⟩ := HM3.out.lst.form
                    clear hqc2
                    obtain ⟨l2, hll⟩ : ∃ l2, l2 = list'.length := ⟨_, rfl⟩
                    have HLl2 := Lib.hid hll
                    rw [← hll] at hkl2 HM3 ⊢
                    have hlc : l2 ≤ N := by have := HP3.out.cnt; omega
                    clear hll
                    by_cases hlt2 : m < x
                    · obtain ⟨-, hcx⟩ := HRX.out.cells
                      obtain ⟨gX, oX, rfl, hxm⟩ := hcx m hlt2
                      obtain ⟨gX2, hgX⟩ := HOX.out.addr (by omega)
                      simp only [Option.some.injEq, Addr.mk.injEq, and_true] at hgX
                      obtain ⟨rfl, rfl⟩ := hgX
                      have hgl := HOX.out.lt gX rfl
                      have hmem : X.getD m 0 ∈ nearL n C a := by rw [← HXe.out, List.getD_eq_getElem?_getD, List.getElem?_eq_getElem (by rw [← HXl.out]; exact hlt2)]; simp
                      obtain ⟨j, hj, hjN⟩ := HG.out.inb a haN _ hmem
                      rw [hj] at hxm hmem
                      have HDr := Lib.hid (show X.drop m = (j : Int) :: X.drop (m + 1) by rw [← hj, List.drop_eq_getElem_cons (by rw [← HXl.out]; exact hlt2), List.getD_eq_getElem?_getD, List.getElem?_eq_getElem (by rw [← HXl.out]; exact hlt2)]; rfl)
                      have HMe := Lib.hid hmem
                      rw [← cell_same (HKe.out gX (by omega) hgl.2)] at hxm
                      simp only [Nat.zero_add] at hxm
                      clear hcx hj hmem
                      rw [HDr.out] at HP3
                      have kj := HM3.out.own.cellAt j hjN
                      have kfj := HM3.out.own.frozenAt j
                      obtain ⟨y2, hy⟩ : ∃ y, y = out'.getD j 0 := ⟨_, rfl⟩
                      obtain ⟨hj', hhj⟩ : ∃ hj', hj' = h j := ⟨_, rfl⟩
                      rw [← hy] at kj
                      have HHj2 := Lib.hid (HHt.out j wr hjN HM3.out.bel)
                      rw [← hhj] at HHj2
                      have HY2 := Lib.hid hy
                      have HHj := Lib.hid hhj
                      have d2 : (j : Int) < (N : Int) := by omega
                      have d3 : (m : Int) < (x : Int) := by omega
                      clear hy hhj
                      by_cases c2 : y2 < 0
                      · by_cases c3 : hj' ≥ lev
                        · have HPs := Lib.hid (HP3.out.put haN HA0.out hjN (by rw [← HY2.out]; exact c2) (by rw [← HHj.out]; exact c3) HMe.out)
                          have hja : j ≠ a := fun e => by have h1 := HA0.out; have h2 := HY2.out; subst e; omega
                          have HA1 := Lib.hid (show (out'.set j (num : Int)).getD a 0 = num by rw [set_get (by rw [HP3.out.len]; exact hjN), if_neg hja]; exact HA0.out)
                          go_upto_region 21 with (go_at_call 55; refine HHj2.out.mono ?_; rintro e w8 ⟨rfl, rfl⟩)
                          have HM4 := Lib.hid (HM3.out.below (show Below wr.heap.size wr wr.drew from below_drewN (Below.refl _ _) 1))
                          have hxm3 : wr.drew.cell? ⟨gX, m, none⟩ = some (.int .i64 j) := hxm
                          have HKe4 := Lib.hid (show ∀ i, wo.heap.size ≤ i → i < w7.heap.size → wr.drew.heap[i]? = w7.heap[i]? from fun i h1 h2 => HKe.out i h1 h2)
                          have HSz4 := Lib.hid (show w7.heap.size ≤ wr.drew.heap.size from HSz.out)
                          obtain ⟨W3, hW3⟩ : ∃ W3, W3 = wr.drew := ⟨_, rfl⟩
                          rw [← hW3] at HM4 hxm3 HKe4 HSz4 ⊢
                          clear hW3 kj kfj hxm HHj2
                          have kj := HM4.out.own.cellAt j hjN
                          have kfj := HM4.out.own.frozenAt j
                          go_upto_region 22 with (fail)
                          obtain ⟨W5, hW5⟩ : ∃ W5, W5 = W3.setCell ⟨G, j, none⟩ (.int .i64 (num : Int)) := ⟨_, rfl⟩
                          rw [← hW5]
                          have HM5 := Lib.hid (show NMem w S G N qc (out'.set j (num : Int)) list' (.slice (some ⟨qg2, qo2, none⟩) l2 qc3) W5 from by rw [hW5]; exact HM4.out.store j (num : Int))
                          have HKe5 := Lib.hid (show ∀ i, wo.heap.size ≤ i → i < w7.heap.size → W5.heap[i]? = w7.heap[i]? from fun i h1 h2 => by rw [← HKe4.out i h1 h2, hW5]; exact heap_setCell_other W3 ⟨G, j, none⟩ i _ (by simp; omega))
                          have HSz5 := Lib.hid (show w7.heap.size ≤ W5.heap.size from by rw [hW5]; have := HSz4.out; simpa using this)
                          have hxm5 : W5.cell? ⟨gX, m, none⟩ = some (.int .i64 j) := by rw [hW5]; exact (cell_same (heap_setCell_other W3 ⟨G, j, none⟩ gX _ (by simp; omega)) m).trans hxm3
                          have hbA := Below.alloc (Below.refl W5.heap.size W5) (Nat.le_refl _) (.cells #[.int .i64 (j : Int)] 3)
                          have HM6 := Lib.hid (HM5.out.below hbA)
                          have HbA := Lib.hid hbA
                          have hsA := hbA.size
                          have hB5 := Nat.le_trans (show S ≤ W5.heap.size by have := HM5.out.lst.lt qg2 rfl; omega) hsA
                          have HNc := Lib.hid (show (W5.alloc (.cells #[.int .i64 (j : Int)] 3)).cell? ⟨W5.heap.size, 0, none⟩ = some (.int .i64 (j : Int)) from by rw [cell_of_row _ W5.heap.size 0 _ _ (0, 0) (heap_alloc_new W5 _)]; rfl)
                          have HLn := Lib.hid (show list'.length ≤ 100000 by rw [← HLl2.out]; omega)
                          clear hbA hW5 hxm3 kj kfj
                          go_wp2_with (at_builtin; refine appQ (by rfl) _ _ (by rfl) S (.slice (some ⟨qg2, qo2, none⟩) l2 qc3) list' (j : Int) W5.heap.size 1 ?a2h1 ?a2h2 ?a2h3 ?a2h4 ?a2h5 ?a2h6 ?a2h7)
                          case a2h1 => rfl
                          case a2h2 => rfl
                          case a2h3 => exact HNc.out
                          case a2h4 => exact HM6.out.lst
                          case a2h5 => exact hB5
                          case a2h6 => exact HLn.out
                          intro v8 w8 hq8 hg8 hv8
                          have HM8 := Lib.hid (HM6.out.app hwS hq8 hg8)
                          have HG8 := Lib.hid hg8
                          have hs8 := hg8.size
                          have HV8 := Lib.hid (show ∀ kk, v8.ownBlock = some kk → kk < wo.heap.size ∨ w7.heap.size ≤ kk from fun kk e => by
                            rcases hv8 kk e with q | q
                            · exact HVo.out kk q
                            · have := HSz5.out; omega)
                          clear hq8 hg8 hv8
                          go_wp2_with fail
                          go_roundw
                          case rel =>
                            refine ⟨m + 1, out'.set j (num : Int), list' ++ [(j : Int)], by omega, by go_num, HPs.out, HA1.out, HM8.out, fun i h1 h2 => ?_, ?_, HV8.out⟩
                            · rw [← HKe5.out i h1 h2, ← HbA.out.block i (by have := HSz5.out; omega)]
                              exact HG8.out.block i (by have := HSz5.out; omega) (fun e => by have := HVo.out i e.symm; omega)
                            · have := HSz5.out; omega
                          case measure => simp [intOf]; omega
                        · have HPs := Lib.hid (HP3.out.pass HG.out haN HA0.out hjN HMe.out (by rw [← HHj.out]; omega))
                          go_wp2_with (go_at_call 55; refine HHj2.out.mono ?_; rintro e w8 ⟨rfl, rfl⟩)
                          go_roundw
                          case rel => exact ⟨m + 1, out', list', by omega, by go_num, HPs.out, HA0.out, HM3.out.below (show Below wr.heap.size wr wr.drew from below_drewN (Below.refl _ _) 1), HKe.out, HSz.out, HVo.out⟩
                          case measure => simp [intOf]; omega
                      · have HPs := Lib.hid (HP3.out.pass HG.out haN HA0.out hjN HMe.out (by rw [← HY2.out]; omega))
                        go_wp2_with fail
                        go_roundw
                        case rel => exact ⟨m + 1, out', list', by omega, by go_num, HPs.out, HA0.out, HM3.out, HKe.out, HSz.out, HVo.out⟩
                        case measure => simp [intOf]; omega
                    · have hmx2 : x = m := by omega
                      subst hmx2
                      rw [HXl.out, List.drop_length] at HP3
                      go_wp2_with fail
                      go_roundw
                      case rel => exact ⟨k + 1, a, out', list', by go_num, HP3.out, HM3.out⟩
                      case measure => simp [intOf]; omega
                · have HFo := Lib.hid (HP.out.over HG.out hlt (by rw [← HLl.out]; omega))
                  have hnn : num ≤ 49 := by omega
                  go_wp2_with fail
                  go_roundw
                  case rel => exact ⟨i + 1, num + 1, out, by omega, by go_num, by go_num, HFo.out, HM.out.own, HM.out.bel, by have := HM.out.lst.lt qg rfl; omega⟩
                  case measure => simp [intOf]; omega
        · have hie : N = i := by omega
          subst hie
          go_wp2_with fail
          go_ret2
          exact ⟨_, _, _, out, rfl, HO.out.row, HFi.out.ok HG.out, HB.out⟩

end Go.Proofs.Ytkhhloeemecokaa
