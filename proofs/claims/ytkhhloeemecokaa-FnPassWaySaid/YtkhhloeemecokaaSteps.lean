/- Contract: steps of the program's field. -/
import Derived.Test.YtkhhloeemecokaaPasses
import Derived.Test.YtkhhloeemecokaaPlainSt
import Derived.Test.YtkhhloeemecokaaQueue
namespace Go.Proofs.Ytkhhloeemecokaa
open Go.RowKit
set_option linter.unusedVariables false

/-- The memory of the loop over the queue. -/
structure SMem (w : World) (n C N : Nat) (s : Value) (far qs : List Int) (v : Value) (wr : World) : Prop where
  own : Own wr (w.heap.size + 1) (.slice (some ⟨w.heap.size + 1, 0, none⟩) N N) far
  que : QAt wr (w.heap.size + 2) v qs
  fld : FldAt w.heap.size n C s wr
  bel : Below w.heap.size w wr
theorem SMem.vne {w : World} {n C N : Nat} {s : Value} {far qs : List Int} {v : Value} {wr : World} (p : SMem w n C N s far qs v wr) (k : Nat) (hk : k < w.heap.size + 2) : v.ownBlock ≠ some k := fun e => by
  have := (p.que.lt k e).1
  omega
theorem SMem.below {w : World} {n C N : Nat} {s : Value} {far qs : List Int} {v : Value} {wr w' : World} (p : SMem w n C N s far qs v wr) (hb : Below wr.heap.size wr w') : SMem w n C N s far qs v w' :=
  ⟨p.own.below hb, p.que.below hb, p.fld.below hb, p.bel.trans (hb.mono p.bel.size)⟩
theorem SMem.store {w : World} {n C N : Nat} {s : Value} {far qs : List Int} {v : Value} {wr : World} (p : SMem w n C N s far qs v wr) (k : Nat) (x : Int) : SMem w n C N s (far.set k x) qs v (wr.setCell ⟨w.heap.size + 1, k, none⟩ (.int .i64 x)) := by
  have h1 := p.own.store k x
  exact ⟨h1.1, p.que.kept (fun k' hk => heap_setCell_other wr ⟨w.heap.size + 1, k, none⟩ k' _ (by have := (p.que.lt k' hk).1; simp; omega)), p.fld.grown h1.2 (by simp), p.bel.setCell (by simp) _⟩
theorem SMem.app {w : World} {n C N : Nat} {s : Value} {far qs qs' : List Int} {v v' : Value} {wr w' : World} (p : SMem w n C N s far qs v wr) (hq : QAt w' (w.heap.size + 2) v' qs') (hg : wr.grownBy w' v.ownBlock) : SMem w n C N s far qs' v' w' :=
  ⟨p.own.kept hg (fun k hk => by simp only [Value.ownBlock, Option.some.injEq] at hk; subst hk; exact p.vne _ (by simp)), hq, p.fld.grown hg (p.vne _ (by simp)), p.bel.grown hg p.bel.size (fun k e => by have := (p.que.lt k e).1; omega)⟩

set_option maxRecDepth 4000 in
set_option maxHeartbeats 4000000 in
theorem steps_any (s : Value) (zs : List Int) (n C N a : Nat) (lev : Int) (w : World) (hr : Row w s zs) (hl : zs.length = N) (hN : N = n * C) (h1 : 1 ≤ n) (h2 : n ≤ 7) (h3 : 1 ≤ C) (h4 : C ≤ 7) (ha : a < N) (h : Nat → Int) (hh : h = fun i => zs.getD i 0) (hG : Gr N (nearL n C) h) (hlev : lev ≤ h a) :
    Calls Try.prog 42 #[.agg #[.int .i64 n, .int .i64 C, s], .int .i64 (a : Nat), .int .i64 lev] w (GivesRow (stepsL N (nearL n C) h lev a) w) := by
  have hN49 : N ≤ 49 := by rw [hN]; exact Nat.mul_le_mul h2 h4
  have HEnd := Lib.hid (fun k c far list => @steps_end N (nearL n C) h lev a k c far list)
  have HSt := Lib.hid (BMid.start (N := N) (nb := nearL n C) ha hlev a)
  obtain ⟨sa, cap, rfl⟩ := hr.shape
  rw [hl] at hr ⊢
  have HR := Lib.hid hr
  have HL := Lib.hid hl
  have HN := Lib.hid hN
  have HG := Lib.hid hG
  obtain ⟨-, hc⟩ := hr.cells
  obtain ⟨b, off, rfl, qa⟩ := hc a ha
  have hb := World.block_lt_of_cell? _ _ qa
  have HC := Lib.hid (show ∀ j, j < N → w.cell? ⟨b, off + j, none⟩ = some (.int .i64 (zs.getD j 0)) from fun j hj => by
    obtain ⟨b', o', e, h⟩ := hc j hj
    simp only [Option.some.injEq, Addr.mk.injEq, and_true] at e
    obtain ⟨rfl, rfl⟩ := e
    exact h)
  have HNb := Lib.hid (fun (i : Nat) (wr : World) (hi : i < N) => neighbors_any (.slice (some ⟨b, off, none⟩) N cap) i n C wr h1 h2 h3 h4 (by rw [← hN]; exact hi))
  obtain ⟨P, hP⟩ : ∃ P, P = stepsL N (nearL n C) h lev a := ⟨_, rfl⟩
  rw [← hP] at HEnd ⊢
  have HH := Lib.hid (show ∀ i, zs.getD i 0 = h i from fun i => by rw [hh])
  obtain ⟨i0, hi, hz0, hz1, hz2⟩ := info_parts Try.infoInt
  clear hr hl hN hG hc qa hP hh hlev
  go_enter Try.func42, Try.ntmps42
  go_wp2_with (at_make; refine wpList_make_full _ rfl _ _ 28 rfl (w.heap.size + 1) 3 i0 (.int .i64 0) 1 Try.underlying28 hi hz0 hz1 .i64 .i64 _ _ N rfl rfl rfl rfl (by rw [hz2]; omega) (by unfold maxLen; omega) (by simp) ?_; intro w1 hown hgrow; (have F1 := Lib.hid ((FldAt.new w n C (.slice (some ⟨b, off, none⟩) N cap)).grown hgrow (by simp))); (have B1 := Lib.hid ((Below.alloc (Below.refl w.heap.size w) (Nat.le_refl _) (.cells #[.int .i64 n, .int .i64 C, .slice (some ⟨b, off, none⟩) N cap] 49)).grown hgrow (by simp) (fun k e => by cases e))); (have O1 := Lib.hid (show Own w1 (w.heap.size + 1) (.slice (some ⟨w.heap.size + 1, 0, none⟩) N N) (List.replicate N 0) from Own.made (by simpa using hown))); clear hown hgrow)
  go_loopw [19] (fun i wr => ∃ k : Nat, k ≤ N ∧ i = .int .i64 k ∧ Own wr (w.heap.size + 1) (.slice (some ⟨w.heap.size + 1, 0, none⟩) N N) (List.replicate k (-1) ++ List.replicate (N - k) 0) ∧ FldAt w.heap.size n C (.slice (some ⟨b, off, none⟩) N cap) wr ∧ Below w.heap.size w wr) (fun i _ => N - (intOf i).toNat)
  case atStart => exact ⟨0, Nat.zero_le _, rfl, by simpa using O1.out, F1.out, B1.out⟩
  case round =>
    obtain ⟨k, hk, rfl, ho, hf, hbw⟩ := hrel
    clear O1 F1 B1
    have HO := Lib.hid ho
    have HF := Lib.hid hf
    have HB := Lib.hid hbw
    clear hf hbw
    by_cases hlt : k < N
    · have hfr := ho.frozenAt k
      have hold := ho.cellAt k hlt
      clear ho
      go_wp2
      go_roundw
      case rel => exact ⟨k + 1, by omega, by go_num, by have := (HO.out.store k (-1)).1; rw [neg_step N k hlt] at this; exact this, HF.out.grown (HO.out.store k (-1)).2 (by simp), HB.out.setCell (by simp) _⟩
      case measure => simp [intOf]; omega
    · have hke : N = k := by omega
      subst hke
      have HO2 := Lib.hid (show Own wr (w.heap.size + 1) (.slice (some ⟨w.heap.size + 1, 0, none⟩) N N) (List.replicate N (-1)) from by simpa using ho)
      clear ho HO
      have k0 := HO2.out.cellAt a ha
      have k1 := HO2.out.frozenAt a
      have hlt1 := (HO2.out.lt _ rfl).2
      have d0 : (a : Int) < (N : Int) := by omega
      go_upto_region 8 with (fail)
      obtain ⟨W2, hW2⟩ : ∃ W2, W2 = wr.setCell ⟨w.heap.size + 1, a, none⟩ (.int .i64 0) := ⟨_, rfl⟩
      have hO3 := HO2.out.store a 0
      rw [← hW2] at hO3 ⊢
      have HO3 := Lib.hid hO3.1
      have HF3 := Lib.hid (HF.out.grown hO3.2 (by simp))
      have HB3 := Lib.hid (show Below w.heap.size w W2 from by rw [hW2]; exact HB.out.setCell (by simp) _)
      have hlt2 : w.heap.size + 1 < W2.heap.size := (HO3.out.lt _ rfl).2
      have HQ3 := Lib.hid (QAt.ofOwn (Own.lit1 W2 (w.heap.size + 2) (a : Int) (by omega)) (by simp))
      have hbn := Below.alloc (Below.refl W2.heap.size W2) (Nat.le_refl _) (.cells #[.int .i64 (a : Int)] 3)
      have HM := Lib.hid (show SMem w n C N (.slice (some ⟨b, off, none⟩) N cap) ((List.replicate N (-1)).set a 0) [(a : Int)] (.slice (some ⟨W2.heap.size, 0, none⟩) 1 1) (W2.alloc (.cells #[.int .i64 (a : Int)] 3)) from ⟨HO3.out.below hbn, HQ3.out, HF3.out.below hbn, HB3.out.trans (hbn.mono HB3.out.size)⟩)
      clear hW2 hO3 hbn HO2 HF HB HO3 HF3 HB3 HQ3 k0 k1 hlt1 hlt2
      go_wp2_with fail
      go_loopg [9] (N + 1) (fun gk q wr => ∃ (k c : Nat) (far list : List Int), SB N (nearL n C) h lev a k = (far, list) ∧ BMid N (nearL n C) h lev a k c [] far list ∧ SMem w n C N (.slice (some ⟨b, off, none⟩) N cap) far (list.drop k) q wr ∧ gk + k = N + 1)
      case atStart => exact ⟨0, a, _, _, rfl, HSt.out, HM.out, rfl⟩
      case round =>
        obtain ⟨k, c, far, list, hS, hp, hm, hgk⟩ := hrel
        clear HM HSt
        have HS := Lib.hid hS
        have HP := Lib.hid hp
        have HM := Lib.hid hm
        have HGk := Lib.hid hgk
        clear hS hp hgk
        obtain ⟨g, o, qc, rfl, hgB, hglt, hqc⟩ := hm.que.form
        clear hm
        by_cases hk : k < list.length
        · obtain ⟨i, hi, hiN, hi0⟩ := HP.out.mem (list.getD k 0) (by rw [List.getD_eq_getElem?_getD, List.getElem?_eq_getElem hk]; simp)
          have hdr : list.drop k = (i : Int) :: list.drop (k + 1) := by
            rw [← hi, List.drop_eq_getElem_cons hk, List.getD_eq_getElem?_getD, List.getElem?_eq_getElem hk]; rfl
          obtain ⟨qs, hqs⟩ : ∃ qs, qs = list.drop (k + 1) := ⟨_, rfl⟩
          rw [← hqs] at hdr
          have HQs := Lib.hid hqs
          rw [hdr] at HM hqc ⊢
          obtain ⟨l, hll⟩ : ∃ l, l = qs.length := ⟨_, rfl⟩
          have HLl := Lib.hid hll
          rw [show ((i : Int) :: qs).length = l + 1 by rw [hll]; rfl] at HM hqc ⊢
          have hcell := (HM.out.que.cell 0 (by omega)).2
          have hcell0 : wr.cell? ⟨g, o, none⟩ = some (.int .i64 i) := hcell
          have HI := Lib.hid hi
          have hlN1 := HP.out.cnt
          have hlN2 : l = list.length - (k + 1) := by rw [hll, hqs, List.length_drop]
          have hlN : l + 1 ≤ 49 := by omega
          clear hcell hdr hqs hll hi hlN1 hlN2
          go_upto_region 12 with (fail)
          obtain ⟨o', he, ho'⟩ : ∃ o', (if qc = 1 then some (⟨g, o, none⟩ : Addr) else some ⟨g, o + 1, none⟩) = some ⟨g, o', none⟩ ∧ (o' = o + 1 ∨ (qc = 1 ∧ o' = o)) := by
            by_cases e : qc = 1
            · exact ⟨o, by rw [if_pos e], .inr ⟨e, rfl⟩⟩
            · exact ⟨o + 1, by rw [if_neg e], .inl rfl⟩
          rw [he]
          have HM2 := Lib.hid (show SMem w n C N (.slice (some ⟨b, off, none⟩) N cap) far qs (.slice (some ⟨g, o', none⟩) l (qc - 1)) wr from ⟨HM.out.own, HM.out.que.tail o' ho', HM.out.fld, HM.out.bel⟩)
          clear HM hcell0 he ho'
          obtain ⟨-, f0, f1, f2⟩ := HM2.out.fld.cells
          have HNk := Lib.hid (HNb.out i wr hiN)
          obtain ⟨X, hX⟩ : ∃ X, X = nearL n C i := ⟨_, rfl⟩
          rw [← hX] at HNk
          have HXe := Lib.hid hX
          have HX4 := Lib.hid (show X.length ≤ 4 by rw [hX]; exact nearL_len n C i)
          clear hX
          go_wp2_with fail
          go_at_call 43
          refine HNk.out.mono ?_
          rintro e w7 ⟨aX, cX, rfl, ho, hb7⟩
          obtain ⟨x, hx⟩ : ∃ x, x = X.length := ⟨_, rfl⟩
          rw [← hx] at ho HX4 ⊢
          have HXl := Lib.hid hx
          have HRX := Lib.hid ho.row
          have HOX := Lib.hid ho
          have HM7 := Lib.hid (HM2.out.below hb7)
          have HV7 := Lib.hid (show ∀ kk, (Value.slice (some ⟨g, o', none⟩) l (qc - 1)).ownBlock = some kk → kk < wr.heap.size from fun kk e => (HM2.out.que.lt kk e).2)
          have hw2 : w.heap.size + 2 ≤ wr.heap.size := by omega
          clear hx ho hb7 f0 f1 f2 HM2 HNk
          obtain ⟨v0, hv0⟩ : ∃ v0, v0 = Value.slice (some ⟨g, o', none⟩) l (qc - 1) := ⟨_, rfl⟩
          rw [← hv0] at HM7 HV7 ⊢
          obtain ⟨wo, hwo⟩ : ∃ wo : World, wo = wr := ⟨_, rfl⟩
          rw [← hwo] at HV7 HOX hw2
          clear hv0 hwo hglt hgB hqc
          go_wp2_with fail
          go_loopw [9, 43] (fun q t wr => ∃ (m : Nat) (far' list' : List Int), m ≤ x ∧ t = .int .i64 m ∧ (X.take m).foldl (visitB h lev i) (far, list) = (far', list') ∧ BMid N (nearL n C) h lev a (k + 1) i (X.drop m) far' list' ∧ 0 ≤ far'.getD i 0 ∧ SMem w n C N (.slice (some ⟨b, off, none⟩) N cap) far' (list'.drop (k + 1)) q wr ∧ (∀ i, wo.heap.size ≤ i → i < w7.heap.size → wr.heap[i]? = w7.heap[i]?) ∧ w7.heap.size ≤ wr.heap.size ∧ ∀ kk, q.ownBlock = some kk → kk < wo.heap.size ∨ w7.heap.size ≤ kk) (fun _ t _ => x - (intOf t).toNat)
          case atStart => exact ⟨0, far, list, Nat.zero_le _, rfl, rfl, by rw [List.drop_zero, HXe.out]; exact HP.out.enter hk HI.out, hi0, by rw [← HQs.out]; exact HM7.out, fun _ _ _ => rfl, Nat.le_refl _, fun kk e => .inl (HV7.out kk e)⟩
          case round =>
            obtain ⟨m, far', list', hmx, rfl, hfo, hp, hi0', hm, hke, hsz, hvo⟩ := hrel
            have HFo := Lib.hid hfo
            have HP3 := Lib.hid hp
            have HM3 := Lib.hid hm
            have HKe := Lib.hid hke
            have HSz := Lib.hid hsz
            have HVo := Lib.hid hvo
            have HI0 := Lib.hid hi0'
            have hx4 := HX4.out
            clear HM7 HV7 hfo hp hm hke hsz hvo hi0'
            obtain ⟨g, o, qc, rfl, hgB, hglt, hqc⟩ := HM3.out.que.form
            by_cases hlt : m < x
            · obtain ⟨-, hcx⟩ := HRX.out.cells
              obtain ⟨gX, oX, rfl, hxm⟩ := hcx m hlt
              obtain ⟨gX2, hgX⟩ := HOX.out.addr (by omega)
              simp only [Option.some.injEq, Addr.mk.injEq, and_true] at hgX
              obtain ⟨rfl, rfl⟩ := hgX
              have hgl := HOX.out.lt gX rfl
              have hmem : X.getD m 0 ∈ nearL n C i := by rw [← HXe.out, List.getD_eq_getElem?_getD, List.getElem?_eq_getElem (by rw [← HXl.out]; exact hlt)]; simp
              obtain ⟨j, hj, hjN⟩ := HG.out.inb i hiN _ hmem
              rw [hj] at hxm hmem
              have HDr := Lib.hid (show X.drop m = (j : Int) :: X.drop (m + 1) by rw [← hj, List.drop_eq_getElem_cons (by rw [← HXl.out]; exact hlt), List.getD_eq_getElem?_getD, List.getElem?_eq_getElem (by rw [← HXl.out]; exact hlt)]; rfl)
              have HTk := Lib.hid (show (X.take (m + 1)).foldl (visitB h lev i) (far, list) = visitB h lev i (far', list') (j : Int) by rw [fold_step (by rw [← HXl.out]; exact hlt) hj, HFo.out])
              have HMe := Lib.hid hmem
              rw [← cell_same (HKe.out gX (by omega) hgl.2)] at hxm
              simp only [Nat.zero_add] at hxm
              clear hcx hj hmem
              rw [HDr.out] at HP3
              obtain ⟨-, -, -, f2⟩ := HM3.out.fld.cells
              have kj := HM3.out.own.cellAt j hjN
              have ki := HM3.out.own.cellAt i hiN
              have kf := HM3.out.own.frozenAt j
              have qj := (HM3.out.bel.cell (p := ⟨b, off + j, none⟩) hb).trans (HC.out j hjN)
              rw [HH.out j] at qj
              obtain ⟨y, hy⟩ : ∃ y, y = far'.getD j 0 := ⟨_, rfl⟩
              obtain ⟨z, hz⟩ : ∃ z, z = far'.getD i 0 := ⟨_, rfl⟩
              obtain ⟨hj', hhj⟩ : ∃ hj', hj' = h j := ⟨_, rfl⟩
              have hz0 : 0 ≤ z := by rw [hz]; exact HI0.out
              have hz1 : z < 49 := by
                have h1 := HP3.out.up i hiN
                have h2 := HP3.out.cnt
                rw [hz]
                omega
              rw [← hy] at kj
              rw [← hz] at ki
              rw [← hhj] at qj
              have HY := Lib.hid hy
              have HZ := Lib.hid hz
              have HHj := Lib.hid hhj
              have d1 : (i : Int) < (N : Int) := by omega
              have d2 : (j : Int) < (N : Int) := by omega
              have d3 : (m : Int) < (x : Int) := by omega
              clear hy hz hhj
              by_cases c1 : y < 0
              · by_cases c2 : hj' ≥ lev
                · have HYe := Lib.hid (visit_yes (h := h) (lev := lev) (src := i) (j := j) (far := far') (list := list') (by rw [← HY.out]; exact c1) (by rw [← HHj.out]; exact c2))
                  have HPs := Lib.hid (HP3.out.put hjN (by rw [← HY.out]; exact c1) (by rw [← HHj.out]; exact c2) HMe.out hiN HI0.out)
                  rw [← HZ.out] at HYe HPs
                  have HI1 := Lib.hid (show 0 ≤ (far'.set j (z + 1)).getD i 0 by rw [set_get (by rw [HP3.out.len]; exact hjN)]; have := HI0.out; split <;> omega)
                  have hkle := HP3.out.kle
                  have hcnt := HP3.out.cnt
                  have HLn := Lib.hid (show (list'.drop (k + 1)).length ≤ 100000 by rw [List.length_drop]; omega)
                  have HDa := Lib.hid (show list'.drop (k + 1) ++ [(j : Int)] = (list' ++ [(j : Int)]).drop (k + 1) from (List.drop_append_of_le_length hkle).symm)
                  clear hkle hcnt
                  go_upto_region 17 with (fail)
                  obtain ⟨W3, hW3⟩ : ∃ W3, W3 = wr.setCell ⟨w.heap.size + 1, j, none⟩ (.int .i64 (z + 1)) := ⟨_, rfl⟩
                  rw [← hW3]
                  have HM4 := Lib.hid (show SMem w n C N (.slice (some ⟨b, off, none⟩) N cap) (far'.set j (z + 1)) (list'.drop (k + 1)) (.slice (some ⟨g, o, none⟩) (list'.drop (k + 1)).length qc) W3 from by rw [hW3]; exact HM3.out.store j (z + 1))
                  have HKe4 := Lib.hid (show ∀ i, wo.heap.size ≤ i → i < w7.heap.size → W3.heap[i]? = w7.heap[i]? from fun i h1 h2 => by rw [← HKe.out i h1 h2, hW3]; exact heap_setCell_other wr ⟨w.heap.size + 1, j, none⟩ i _ (by simp; omega))
                  have HSz4 := Lib.hid (show W3.heap.size = wr.heap.size by rw [hW3]; simp)
                  have hbA := Below.alloc (Below.refl W3.heap.size W3) (Nat.le_refl _) (.cells #[.int .i64 (j : Int)] 3)
                  have HM5 := Lib.hid (HM4.out.below hbA)
                  have HbA := Lib.hid hbA
                  have hsA := hbA.size
                  have hB5 := Nat.le_trans (show w.heap.size + 2 ≤ W3.heap.size by have := HSz.out; have := HSz4.out; have := HOX.out.lt gX rfl; omega) hsA
                  have HNc := Lib.hid (show (W3.alloc (.cells #[.int .i64 (j : Int)] 3)).cell? ⟨W3.heap.size, 0, none⟩ = some (.int .i64 (j : Int)) from by rw [cell_of_row _ W3.heap.size 0 _ _ (0, 0) (heap_alloc_new W3 _)]; rfl)
                  obtain ⟨ql, hql⟩ : ∃ ql, ql = (list'.drop (k + 1)).length := ⟨_, rfl⟩
                  rw [← hql] at HM4 HM5 ⊢
                  clear hql hbA hW3 kj ki kf qj f2 hxm hgB hglt hqc
                  go_wp2_with (at_builtin; refine appQ (by rfl) _ _ (by rfl) (w.heap.size + 2) (.slice (some ⟨g, o, none⟩) ql qc) (list'.drop (k + 1)) (j : Int) W3.heap.size 1 ?h1 ?h2 ?h3 ?h4 ?h5 ?h6 ?h7)
                  case h1 => rfl
                  case h2 => rfl
                  case h3 => exact HNc.out
                  case h4 => exact HM5.out.que
                  case h5 => exact hB5
                  case h6 => exact HLn.out
                  intro v8 w8 hq8 hg8 hv8
                  have HM8 := Lib.hid (HM5.out.app hq8 hg8)
                  have HG8 := Lib.hid hg8
                  have HV8 := Lib.hid hv8
                  have hs8 := hg8.size
                  clear hq8 hg8 hv8
                  go_wp2_with fail
                  go_roundw
                  case rel =>
                    refine ⟨m + 1, far'.set j (z + 1), list' ++ [(j : Int)], by omega, by go_num, by rw [HTk.out, HYe.out], HPs.out, HI1.out, by rw [← HDa.out]; exact HM8.out, fun i h1 h2 => ?_, ?_, fun kk e => ?_⟩
                    · rw [← HKe4.out i h1 h2, ← HbA.out.block i (by have := HSz.out; have := HSz4.out; omega)]
                      exact HG8.out.block i (by have := HSz.out; have := HSz4.out; omega) (fun e => by have := HVo.out i e.symm; omega)
                    · have := HSz.out; have := HSz4.out; omega
                    · rcases HV8.out kk e with q | q
                      · exact HVo.out kk q
                      · have := HSz.out; have := HSz4.out; omega
                  case measure => simp [intOf]; omega
                · have hno := visit_no (h := h) (lev := lev) (src := i) (j := j) (far := far') (list := list') (by rw [← HHj.out]; omega)
                  have HNo := Lib.hid hno
                  have HPs := Lib.hid (HP3.out.pass (by rw [← HHj.out]; omega))
                  clear hno
                  go_wp2_with fail
                  go_roundw
                  case rel => exact ⟨m + 1, far', list', by omega, by go_num, by rw [HTk.out, HNo.out], HPs.out, HI0.out, HM3.out, HKe.out, HSz.out, HVo.out⟩
                  case measure => simp [intOf]; omega
              · have hno := visit_no (h := h) (lev := lev) (src := i) (j := j) (far := far') (list := list') (by rw [← HY.out]; omega)
                have HNo := Lib.hid hno
                have HPs := Lib.hid (HP3.out.pass (by rw [← HY.out]; omega))
                clear hno
                go_wp2_with fail
                go_roundw
                case rel => exact ⟨m + 1, far', list', by omega, by go_num, by rw [HTk.out, HNo.out], HPs.out, HI0.out, HM3.out, HKe.out, HSz.out, HVo.out⟩
                case measure => simp [intOf]; omega
            · have hmx2 : x = m := by omega
              subst hmx2
              rw [HXl.out, List.take_length, HXe.out] at HFo
              rw [HXl.out, List.drop_length] at HP3
              go_wp2_with fail
              go_roundg (gk - 1)
              case measure => have := HGk.out; have := HP.out.cnt; omega
              case rel => exact ⟨k + 1, i, far', list', (SB_next HS.out hk HI.out).trans HFo.out, HP3.out, HM3.out, by have := HGk.out; have := HP.out.cnt; omega⟩
        · have hkl : list.length = k := by have := HP.out.kle; omega
          have hq0 : list.drop k = [] := by rw [← hkl]; exact List.drop_length
          have HE := Lib.hid (HEnd.out k c far list HP.out HS.out hkl)
          rw [hq0] at HM hqc ⊢
          clear hkl hq0
          go_wp2_with fail
          go_ret
          refine GivesRow.mk (by rw [← HE.out]; exact HP.out.len.symm) ?_ HM.out.bel
          rw [← HE.out]
          exact HM.out.own.mono (by omega)

end Go.Proofs.Ytkhhloeemecokaa
