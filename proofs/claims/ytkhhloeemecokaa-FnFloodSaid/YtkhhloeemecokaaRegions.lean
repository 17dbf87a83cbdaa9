/- Contract: regions of the program's field. -/
import Derived.Test.YtkhhloeemecokaaForest
import Derived.Test.YtkhhloeemecokaaNbr
import Derived.Test.YtkhhloeemecokaaFld
namespace Go.Proofs.Ytkhhloeemecokaa
open Go.RowKit
set_option linter.unusedVariables false

/-- The memory of regions. -/
structure RMem (w : World) (n C N : Nat) (s : Value) (B Fb U : Nat) (l : List Int) (wr : World) : Prop where
  fld : FldAt w.heap.size n C s wr
  fr : FrAt B Fb U N l wr
  bel : Below w.heap.size w wr
  hB : w.heap.size < B
theorem RMem.ule {w : World} {n C N : Nat} {s : Value} {B Fb U : Nat} {l : List Int} {wr : World} (p : RMem w n C N s B Fb U l wr) : B ≤ U ∧ U < wr.heap.size := p.fr.own.lt U rfl
theorem RMem.below {w : World} {n C N : Nat} {s : Value} {B Fb U : Nat} {l : List Int} {wr w' : World} (p : RMem w n C N s B Fb U l wr) (hb : Below wr.heap.size wr w') : RMem w n C N s B Fb U l w' :=
  ⟨p.fld.below hb, p.fr.below hb, p.bel.trans (hb.mono p.bel.size), p.hB⟩
theorem RMem.grown {w : World} {n C N : Nat} {s : Value} {B Fb U : Nat} {l l' : List Int} {wr w' : World} (p : RMem w n C N s B Fb U l wr) (hf : FrAt B Fb U N l' w') (hg : wr.grownBy w' (some U)) : RMem w n C N s B Fb U l' w' := by
  have h1 := p.ule.1
  have h2 := p.hB
  exact ⟨p.fld.grown hg (by simp; omega), hf, p.bel.grown hg p.bel.size (fun k e => by cases e; omega), h2⟩
/-- A store into a row of a block that is neither the field's nor the forest's. -/
theorem RMem.setOther {w : World} {n C N : Nat} {s : Value} {B Fb U : Nat} {l : List Int} {wr : World} (p : RMem w n C N s B Fb U l wr) {g : Nat} (h1 : w.heap.size < g) (h2 : g ≠ Fb) (h3 : g ≠ U) (i : Nat) (x : Value) : RMem w n C N s B Fb U l (wr.setCell ⟨g, i, none⟩ x) :=
  ⟨p.fld.other (by omega) i x, ⟨(heap_setCell_other wr ⟨g, i, none⟩ Fb x (by simp; omega)).trans p.fr.blk, p.fr.own.setOther (fun k hk => by simp only [Value.ownBlock, Option.some.injEq] at hk; omega) i x, p.fr.ne, p.fr.le⟩, p.bel.setCell (by simp; omega) x, p.hB⟩

/-- What regions gives. -/
def GivesReg (N : Nat) (nb : Nat → List Int) (h : Nat → Int) (lev : Int) (w : World) (e : Ending) (w' : World) : Prop :=
  ∃ a cap cnt num, e = .returned (.tuple #[.int .i64 cnt, .slice a N cap]) ∧ Row w' (.slice a N cap) num ∧ RegOk N nb h lev num ∧ Below w.heap.size w w'
set_option maxRecDepth 4000 in
set_option maxHeartbeats 4000000 in
theorem regions_any (s : Value) (zs : List Int) (n C N : Nat) (lev : Int) (h : Nat → Int) (w : World) (hr : Row w s zs) (hl : zs.length = N) (hN : N = n * C) (h1 : 1 ≤ n) (h2 : n ≤ 7) (h3 : 1 ≤ C) (h4 : C ≤ 7) (hh : h = fun i => zs.getD i 0) (hG : Gr N (nearL n C) h) :
    Calls Try.prog 38 #[.agg #[.int .i64 n, .int .i64 C, s], .int .i64 lev] w (GivesReg N (nearL n C) h lev w) := by
  have hN49 : N ≤ 49 := by rw [hN]; exact Nat.mul_le_mul h2 h4
  have hN1 : 1 ≤ N := by rw [hN]; exact Nat.mul_le_mul h1 h3
  obtain ⟨sa, cap, rfl⟩ := hr.shape
  rw [hl] at hr ⊢
  have HG := Lib.hid hG
  obtain ⟨-, hc⟩ := hr.cells
  obtain ⟨b, off, rfl, q0⟩ := hc 0 (by omega)
  have hb := World.block_lt_of_cell? _ _ q0
  have HC := Lib.hid (show ∀ j, j < N → w.cell? ⟨b, off + j, none⟩ = some (.int .i64 (h j)) from fun j hj => by
    obtain ⟨b', o', e, hcell⟩ := hc j hj
    simp only [Option.some.injEq, Addr.mk.injEq, and_true] at e
    obtain ⟨rfl, rfl⟩ := e
    rw [hh]
    exact hcell)
  have HNb := Lib.hid (fun (i : Nat) (wr : World) (hi : i < N) => neighbors_any (.slice (some ⟨b, off, none⟩) N cap) i n C wr h1 h2 h3 h4 (by rw [← hN]; exact hi))
  have HNf := Lib.hid (fun (wr : World) => newForest_any N wr hN49)
  obtain ⟨i0, hi0, hz0, hz1, hz2⟩ := info_parts Try.infoInt
  clear hr hl hN hG hc q0 hh
  have hbA := Below.alloc (Below.refl w.heap.size w) (Nat.le_refl _) (.cells #[.int .i64 n, .int .i64 C, .slice (some ⟨b, off, none⟩) N cap] 49)
  have HBA := Lib.hid hbA
  have HFA := Lib.hid (FldAt.new w n C (.slice (some ⟨b, off, none⟩) N cap))
  clear hbA
  go_enter Try.func38, Try.ntmps38
  go_wp2_with fail
  go_at_call 62
  refine (HNf.out _).mono ?_
  rintro e w2 ⟨Fb, U, l0, rfl, hf, hroots, hb2⟩
  have HM2 := Lib.hid (show RMem w n C N (.slice (some ⟨b, off, none⟩) N cap) (w.alloc (.cells #[.int .i64 n, .int .i64 C, .slice (some ⟨b, off, none⟩) N cap] 49)).heap.size Fb U l0 w2 from ⟨HFA.out.below hb2, hf, HBA.out.trans (hb2.mono HBA.out.size), by simp⟩)
  obtain ⟨B, hB⟩ : ∃ B, B = (w.alloc (.cells #[.int .i64 n, .int .i64 C, .slice (some ⟨b, off, none⟩) N cap] 49)).heap.size := ⟨_, rfl⟩
  rw [← hB] at HM2
  have HR2 := Lib.hid hroots
  clear hf hroots hb2 hB HBA HFA
  obtain ⟨-, -, -, f2⟩ := HM2.out.fld.cells
  go_wp2_with fail
  clear f2
  go_loopw [23] (fun q wr => ∃ (i : Nat) (l : List Int) (ρ : Nat → Nat), i ≤ N ∧ q = .int .i64 i ∧ RMem w n C N (.slice (some ⟨b, off, none⟩) N cap) B Fb U l wr ∧ HasR N l ρ ∧ SoundR N (nearL n C) h lev ρ ∧ ∀ i', i' < i → ∀ j : Nat, (j : Int) ∈ nearL n C i' → lev ≤ h i' → lev ≤ h j → ρ i' = ρ j) (fun q _ => N - (intOf q).toNat)
  case atStart => exact ⟨0, l0, id, Nat.zero_le _, rfl, HM2.out, HR2.out, SoundR.id N (nearL n C) h lev, fun i' hi' => absurd hi' (by omega)⟩
  case round =>
    obtain ⟨i, l, ρ, hiN, rfl, hm, hrt, hso, hed⟩ := hrel
    clear HM2 HR2
    have HM := Lib.hid hm
    have HRt := Lib.hid hrt
    have HSo := Lib.hid hso
    have HEd := Lib.hid hed
    clear hm hrt hso hed
    by_cases hlt : i < N
    · have d1 : (i : Int) < (N : Int) := by omega
      have qi := (HM.out.bel.cell (p := ⟨b, off + i, none⟩) hb).trans (HC.out i hlt)
      obtain ⟨hi', hhi⟩ : ∃ x, x = h i := ⟨_, rfl⟩
      rw [← hhi] at qi
      have HHi := Lib.hid hhi
      clear hhi
      obtain ⟨-, f0, f1, f2⟩ := HM.out.fld.cells
      have HNk := Lib.hid (HNb.out i wr hlt)
      obtain ⟨X, hX⟩ : ∃ X, X = nearL n C i := ⟨_, rfl⟩
      rw [← hX] at HNk
      have HXe := Lib.hid hX
      have HX4 := Lib.hid (show X.length ≤ 4 by rw [hX]; exact nearL_len n C i)
      clear hX
      go_wp2_with fail
      go_at_call 43
      refine HNk.out.mono ?_
      rintro e w7 ⟨aX, cX, rfl, hox, hb7⟩
      obtain ⟨x, hx⟩ : ∃ x, x = X.length := ⟨_, rfl⟩
      rw [← hx] at hox HX4 ⊢
      have HXl := Lib.hid hx
      have HOX := Lib.hid hox
      have HM7 := Lib.hid (HM.out.below hb7)
      have hUl := HM.out.ule.2
      obtain ⟨S, hS⟩ : ∃ S, S = wr.heap.size := ⟨_, rfl⟩
      rw [← hS] at HOX hUl
      clear hx hox hb7 f0 f1 f2 qi HNk HM hS
      go_wp2_with fail
      go_loopw [32] (fun q wr => ∃ (m : Nat) (l : List Int) (ρ : Nat → Nat), m ≤ x ∧ q = .int .i64 m ∧ RMem w n C N (.slice (some ⟨b, off, none⟩) N cap) B Fb U l wr ∧ HasR N l ρ ∧ SoundR N (nearL n C) h lev ρ ∧ (∀ i', i' < i → ∀ j : Nat, (j : Int) ∈ nearL n C i' → lev ≤ h i' → lev ≤ h j → ρ i' = ρ j) ∧ (∀ q, q < m → ∀ j : Nat, X.getD q 0 = j → lev ≤ h i → lev ≤ h j → ρ i = ρ j) ∧ Own wr S (.slice aX x cX) X) (fun q _ => x - (intOf q).toNat)
      case atStart => exact ⟨0, l, ρ, Nat.zero_le _, rfl, HM7.out, HRt.out, HSo.out, HEd.out, fun q hq => absurd hq (by omega), HOX.out⟩
      case round =>
        obtain ⟨m, l2, ρ2, hmx, rfl, hm, hrt, hso, hed, hed2, hox⟩ := hrel
        clear HM7 HOX
        have HM := Lib.hid hm
        have HRt2 := Lib.hid hrt
        have HSo2 := Lib.hid hso
        have HEd2 := Lib.hid hed
        have HEd3 := Lib.hid hed2
        have HOX := Lib.hid hox
        have hx4 := HX4.out
        clear hm hrt hso hed hed2 hox
        by_cases hlt2 : m < x
        · obtain ⟨-, hcx⟩ := HOX.out.row.cells
          obtain ⟨gX, oX, rfl, hxm⟩ := hcx m hlt2
          have hmem : X.getD m 0 ∈ nearL n C i := by rw [← HXe.out, List.getD_eq_getElem?_getD, List.getElem?_eq_getElem (by rw [← HXl.out]; exact hlt2)]; simp
          obtain ⟨j, hj, hjN⟩ := HG.out.inb i hlt _ hmem
          rw [hj] at hxm hmem
          have HJ := Lib.hid hj
          have HMe := Lib.hid hmem
          have qj := (HM.out.bel.cell (p := ⟨b, off + j, none⟩) hb).trans (HC.out j hjN)
          obtain ⟨hj', hhj⟩ : ∃ x, x = h j := ⟨_, rfl⟩
          rw [← hhj] at qj
          have HHj := Lib.hid hhj
          obtain ⟨-, f0, f1, f2⟩ := HM.out.fld.cells
          have d2 : (j : Int) < (N : Int) := by omega
          have d3 : (m : Int) < (x : Int) := by omega
          clear hcx hj hmem hhj
          by_cases c1 : hi' ≥ lev
          · by_cases c2 : hj' ≥ lev
            · have HJo := Lib.hid (join_any B Fb U N i j l2 ρ2 wr HM.out.fr HRt2.out hlt hjN hN49)
              go_wp2_with fail
              go_at_call 63
              refine HJo.out.mono ?_
              rintro e w8 ⟨l3, rfl, hf3, hh3, hg3⟩
              have HM3 := Lib.hid (HM.out.grown hf3 hg3)
              have HH3 := Lib.hid hh3
              have HO3 := Lib.hid (HOX.out.kept hg3 (fun k hk e => by have := (HOX.out.lt k hk).1; cases e; omega))
              clear hf3 hh3 hg3 HJo
              go_wp2_with fail
              go_roundw
              case rel =>
                refine ⟨m + 1, l3, joinR ρ2 i j, by omega, by go_num, HM3.out, HH3.out, HSo2.out.join HG.out hlt hjN (by rw [← HHi.out]; exact c1) (by rw [← HHj.out]; exact c2) HMe.out, fun i' hi2 j' hj2 l1 l2 => joinR_keep (HEd2.out i' hi2 j' hj2 l1 l2), fun q hq j' hj2 l1 l2 => ?_, HO3.out⟩
                by_cases e : q = m
                · subst e
                  have e2 : j' = j := by have := HJ.out; omega
                  subst e2
                  exact joinR_both ρ2 i j'
                · exact joinR_keep (HEd3.out q (by omega) j' hj2 l1 l2)
              case measure => simp [intOf]; omega
            · go_wp2_with fail
              go_roundw
              case rel =>
                refine ⟨m + 1, l2, ρ2, by omega, by go_num, HM.out, HRt2.out, HSo2.out, HEd2.out, fun q hq j' hj2 l1 l2 => ?_, HOX.out⟩
                by_cases e : q = m
                · subst e
                  have e2 : j' = j := by have := HJ.out; omega
                  subst e2
                  exact absurd l2 (by rw [← HHj.out]; omega)
                · exact HEd3.out q (by omega) j' hj2 l1 l2
              case measure => simp [intOf]; omega
          · go_wp2_with fail
            go_roundw
            case rel =>
              refine ⟨m + 1, l2, ρ2, by omega, by go_num, HM.out, HRt2.out, HSo2.out, HEd2.out, fun q hq j' hj2 l1 l2 => ?_, HOX.out⟩
              exact absurd l1 (by rw [← HHi.out]; omega)
            case measure => simp [intOf]; omega
        · have hmx2 : x = m := by omega
          subst hmx2
          go_wp2_with fail
          go_roundw
          case rel =>
            refine ⟨i + 1, l2, ρ2, by omega, by go_num, HM.out, HRt2.out, HSo2.out, fun i' hi2 j hj l1 l2 => ?_⟩
            by_cases e : i' = i
            · subst e
              rw [← HXe.out] at hj
              obtain ⟨q, q1, q2⟩ := List.mem_iff_getElem.1 hj
              exact HEd3.out q (by rw [HXl.out]; exact q1) j (by rw [List.getD_eq_getElem?_getD, List.getElem?_eq_getElem q1, q2]; rfl) l1 l2
            · exact HEd2.out i' (by omega) j hj l1 l2
          case measure => simp [intOf]; omega
    · have hie : N = i := by omega
      subst hie
      obtain ⟨wq, hwq⟩ : ∃ x : World, x = wr := ⟨_, rfl⟩
      rw [← hwq] at HM ⊢
      clear hwq
      obtain ⟨-, -, -, f2⟩ := HM.out.fld.cells
      have hUl := HM.out.ule
      have hFl : Fb < wq.heap.size := (Array.getElem?_eq_some_iff.1 HM.out.fr.blk).1
      have hwl := HM.out.bel.size
      have hwB := HM.out.hB
      go_wp2_with (at_make; refine wpList_make_full _ rfl _ _ 28 rfl wq.heap.size 3 i0 (.int .i64 0) 1 Try.underlying28 hi0 hz0 hz1 .i64 .i64 _ _ N rfl rfl rfl rfl (by rw [hz2]; omega) (by unfold maxLen; omega) (Nat.le_refl _) ?_; intro w1 hown hgrow; (have hbn := (Below.refl wq.heap.size wq).grown hgrow (Nat.le_refl _) (fun k e => by cases e)); (have O1 := Lib.hid (show Own w1 wq.heap.size (.slice (some ⟨wq.heap.size, 0, none⟩) N N) (List.replicate N 0) from Own.made (by simpa using hown))); (have HM1 := Lib.hid (HM.out.below hbn)); (obtain ⟨-, -, -, f2⟩ := HM1.out.fld.cells); clear hown hgrow hbn)
      clear HM f2
      go_loopw [11, 61] (fun t q ws => ∃ (k cnt : Nat) (num l : List Int), k ≤ N ∧ q = .int .i64 k ∧ t = .int .i64 cnt ∧ NumR N h lev ρ k cnt num ∧ HasR N l ρ ∧ RMem w n C N (.slice (some ⟨b, off, none⟩) N cap) B Fb U l ws ∧ Own ws wq.heap.size (.slice (some ⟨wq.heap.size, 0, none⟩) N N) num) (fun _ q _ => N - (intOf q).toNat)
      case atStart => exact ⟨0, 0, _, l, Nat.zero_le _, rfl, rfl, ⟨by simp, fun i hi => absurd hi (by omega), fun i hi => absurd hi (by omega), fun i j hi => absurd hi (by omega), Nat.le_refl _⟩, HRt.out, HM1.out, O1.out⟩
      case round =>
        obtain ⟨k, cnt, num, l3, hkN, rfl, rfl, hnu, hrt, hm, ho⟩ := hrel
        clear HM1 O1
        have HNu := Lib.hid hnu
        have HRt3 := Lib.hid hrt
        have HM3 := Lib.hid hm
        have HO3 := Lib.hid ho
        clear hnu hrt hm ho
        by_cases hlt : k < N
        · have d1 : (k : Int) < (N : Int) := by omega
          have qk := (HM3.out.bel.cell (p := ⟨b, off + k, none⟩) hb).trans (HC.out k hlt)
          obtain ⟨hk', hhk⟩ : ∃ x, x = h k := ⟨_, rfl⟩
          rw [← hhk] at qk
          have HHk := Lib.hid hhk
          clear hhk
          have HRo := Lib.hid (root_any B Fb U N k l3 ρ _ HM3.out.fr HRt3.out hlt hN49)
          have hcnt := HNu.out.few
          go_wp2_with fail
          go_at_call 64
          refine HRo.out.mono ?_
          rintro e w8 ⟨l4, rfl, hf4, hh4, hg4⟩
          have HM4 := Lib.hid (HM3.out.grown hf4 hg4)
          have HH4 := Lib.hid hh4
          have HO4 := Lib.hid (HO3.out.kept hg4 (fun q hq e => by simp only [Value.ownBlock, Option.some.injEq] at hq; cases e; omega))
          clear hf4 hh4 hg4 HRo HM3 HO3 HRt3 qk
          have hrk := HH4.out.le hlt
          have hid := HH4.out.idem hlt
          obtain ⟨r, hr⟩ : ∃ r, r = ρ k := ⟨_, rfl⟩
          rw [← hr] at hrk hid ⊢
          have HRr := Lib.hid hr
          clear hr
          have k0 := HO4.out.cellAt k hlt
          have kf := HO4.out.frozenAt k
          have hSt := Lib.hid (fun (x : Int) => HO4.out.store k x)
          have hSM := Lib.hid (fun (x : Value) => HM4.out.setOther (g := wq.heap.size) (by omega) (by omega) (by omega) k x)
          by_cases c1 : hk' < lev
          · go_wp2_with fail
            go_roundw
            case rel => exact ⟨k + 1, cnt, num.set k (-1), l4, by omega, by go_num, rfl, HNu.out.sea' hlt (by rw [← HHk.out]; exact c1), HH4.out, hSM.out _, (hSt.out (-1)).1⟩
            case measure => simp [intOf]; omega
          · by_cases c2 : r = k
            · have c2i : (r : Int) = (k : Int) := by omega
              go_wp2_with fail
              go_roundw
              case rel => exact ⟨k + 1, cnt + 1, num.set k (cnt : Int), l4, by omega, by go_num, by go_num, HNu.out.new hlt (by rw [← HHk.out]; omega) (by rw [← HRr.out]; exact c2) (fun i hi => HH4.out.le hi), HH4.out, hSM.out _, (hSt.out (cnt : Int)).1⟩
              case measure => simp [intOf]; omega
            · have c2i : ¬ (r : Int) = (k : Int) := by omega
              have cr := HO4.out.cellAt r (by omega)
              have d4 : (r : Int) < (N : Int) := by omega
              have hland : lev ≤ h r := by
                rcases (HSo.out k hlt).2 with q | q
                · rw [← HRr.out] at q; omega
                · rw [← HRr.out] at q; exact q.ends.2
              obtain ⟨nr, hnr⟩ : ∃ nr, nr = num.getD r 0 := ⟨_, rfl⟩
              rw [← hnr] at cr
              have HNr := Lib.hid hnr
              clear hnr
              go_wp2_with fail
              go_roundw
              case rel => exact ⟨k + 1, cnt, num.set k nr, l4, by omega, by go_num, rfl, by have := HNu.out.old hlt (by rw [← HHk.out]; omega) (by rw [← HRr.out]; omega) (by rw [← HRr.out]; exact hid) (by rw [← HRr.out]; exact hland); rw [← HRr.out, ← HNr.out] at this; exact this, HH4.out, hSM.out _, (hSt.out nr).1⟩
              case measure => simp [intOf]; omega
        · have hke : N = k := by omega
          subst hke
          go_wp2_with fail
          go_ret2
          exact ⟨_, _, cnt, num, rfl, HO3.out.row, HNu.out.done HG.out HSo.out (fun i hi => HEd.out i hi), HM3.out.bel⟩

end Go.Proofs.Ytkhhloeemecokaa
