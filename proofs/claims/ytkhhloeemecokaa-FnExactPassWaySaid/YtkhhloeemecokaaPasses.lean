/- Contract: passes of the program's field. -/
import Derived.Test.YtkhhloeemecokaaTake
import Derived.Test.YtkhhloeemecokaaNbr
import Derived.Test.YtkhhloeemecokaaPlainPV
import Derived.Test.YtkhhloeemecokaaFld
import Derived.Deep.LoopGhost
import Derived.Lib.MinMax
namespace Go.Proofs.Ytkhhloeemecokaa
open Go.RowKit
set_option linter.unusedVariables false

theorem neg_step (N k : Nat) (h : k < N) : (List.replicate k (-1 : Int) ++ List.replicate (N - k) 0).set k (-1) = List.replicate (k + 1) (-1) ++ List.replicate (N - (k + 1)) 0 := by
  rw [List.set_append_right _ _ (by simp), List.length_replicate, Nat.sub_self, show N - k = (N - (k + 1)) + 1 from by omega, List.replicate_succ, List.set_cons_zero, List.replicate_succ', List.append_assoc]
  rfl
theorem Own.keepP {w w' : World} {B1 Bp g n cap : Nat} {r : Option Nat} {zs : List Int} (h : Own w B1 (.slice (some ⟨g, 0, none⟩) n cap) zs) (hk : KeepP w w' Bp r) (h1 : g ≠ Bp) (h2 : r ≠ some g) : Own w' B1 (.slice (some ⟨g, 0, none⟩) n cap) zs := by
  have hlt := (h.lt g rfl).2
  refine ⟨h.1, ?_⟩
  rcases h.2 with ⟨hv, -⟩ | ⟨g', cap', cur, hv, hb, hg, r⟩
  · simp at hv
  · have hv2 := hv
    simp only [Value.slice.injEq, Option.some.injEq, Addr.mk.injEq] at hv
    obtain ⟨⟨rfl, -, -⟩, -, -⟩ := hv
    exact .inr ⟨g, cap', cur, hv2, hb, (hk.2.2.2.2 g hlt h1 h2).trans hg, r⟩
theorem FldAt.keepP {w w' : World} {B R C Bp : Nat} {r : Option Nat} {s : Value} (h : FldAt B R C s w) (hk : KeepP w w' Bp r) (h1 : B ≠ Bp) (h2 : r ≠ some B) : FldAt B R C s w' :=
  (hk.2.2.2.2 B h.cells.1 h1 h2).trans h
theorem frozen_of {w : World} {b i : Nat} {cs : Array Value} {t : TypeId} (h : w.heap[b]? = some (.cells cs t (0, 0))) : w.frozen? ⟨b, i, none⟩ = false := by simp [World.frozen?, h]
theorem cell_same {w w' : World} {b : Nat} (h : w'.heap[b]? = w.heap[b]?) (o : Nat) : w'.cell? ⟨b, o, none⟩ = w.cell? ⟨b, o, none⟩ := by
  simp only [World.cell?, h]
/-- The memory of the loop over the open steps. -/
structure PMem (w : World) (n C N : Nat) (s : Value) (Bp : Nat) (known : List Int) (L : List (Int × Int)) (v : Value) (wr : World) : Prop where
  own : Own wr (w.heap.size + 1) (.slice (some ⟨w.heap.size + 1, 0, none⟩) N N) known
  pile : PileAt Bp (Bp + 1) v L wr
  fld : FldAt w.heap.size n C s wr
  bel : Below w.heap.size w wr
  bp : w.heap.size + 1 < Bp
theorem PMem.vne {w : World} {n C N : Nat} {s : Value} {Bp : Nat} {known : List Int} {L : List (Int × Int)} {v : Value} {wr : World} (p : PMem w n C N s Bp known L v wr) (k : Nat) (hk : k ≤ Bp) : v.ownBlock ≠ some k := fun e => by
  have := (p.pile.2.lt k e).1
  omega
theorem PMem.below {w : World} {n C N : Nat} {s : Value} {Bp : Nat} {known : List Int} {L : List (Int × Int)} {v : Value} {wr w' : World} (p : PMem w n C N s Bp known L v wr) (hb : Below wr.heap.size wr w') : PMem w n C N s Bp known L v w' :=
  ⟨p.own.below hb, p.pile.below hb, p.fld.below hb, p.bel.trans (hb.mono p.bel.size), p.bp⟩
/-- Behind put and take: what they give, and what is kept. -/
theorem PMem.kept {w : World} {n C N : Nat} {s : Value} {Bp : Nat} {known : List Int} {L L' : List (Int × Int)} {v v' : Value} {wr w' : World} (p : PMem w n C N s Bp known L v wr) (hk : KeepP wr w' Bp v.ownBlock)
    (hp : PileAt Bp (Bp + 1) v' L' w') : PMem w n C N s Bp known L' v' w' := by
  have hb := p.bp
  refine ⟨p.own.keepP hk (by omega) (p.vne _ (by omega)), hp, p.fld.keepP hk (by omega) (p.vne _ (by omega)), p.bel.trans (hk.under (by omega) (fun k e => ?_) p.bel.size), hb⟩
  have := (p.pile.2.lt k e).1
  omega
/-- A pass is stored. -/
theorem PMem.store {w : World} {n C N : Nat} {s : Value} {Bp : Nat} {known : List Int} {L : List (Int × Int)} {v : Value} {wr : World} (p : PMem w n C N s Bp known L v wr) (k : Nat) (x : Int) : PMem w n C N s Bp (known.set k x) L v (wr.setCell ⟨w.heap.size + 1, k, none⟩ (.int .i64 x)) := by
  have hb := p.bp
  have h1 := p.own.store k x
  exact ⟨h1.1, ⟨(h1.2.block Bp p.pile.cells.1 (by simp; omega)).trans p.pile.1, p.pile.2.setOther (p.vne _ (by omega)) _ _⟩, p.fld.grown h1.2 (by simp), p.bel.setCell (by simp) _, hb⟩

set_option maxRecDepth 4000 in
set_option maxHeartbeats 4000000 in
theorem passes_any (s : Value) (zs : List Int) (n C N a : Nat) (w : World) (hr : Row w s zs) (hl : zs.length = N) (hN : N = n * C) (h1 : 1 ≤ n) (h2 : n ≤ 7) (h3 : 1 ≤ C) (h4 : C ≤ 7) (ha : a < N) (hG : Gr N (nearL n C) (fun i => zs.getD i 0)) :
    Calls Try.prog 41 #[.agg #[.int .i64 n, .int .i64 C, s], .int .i64 (a : Nat)] w (GivesRow (passL N (nearL n C) (fun i => zs.getD i 0) a) w) := by
  have hN49 : N ≤ 49 := by rw [hN]; exact Nat.mul_le_mul h2 h4
  obtain ⟨sa, cap, rfl⟩ := hr.shape
  rw [hl] at hr ⊢
  have HR := Lib.hid hr
  have HL := Lib.hid hl
  have HN := Lib.hid hN
  have HG := Lib.hid hG
  obtain ⟨-, hc⟩ := hr.cells
  obtain ⟨b, off, rfl, qa⟩ := hc a ha
  have hb := World.block_lt_of_cell? _ _ qa
  have HC := Lib.hid (show ∀ j, j < N → w.cell? ⟨b, off + j, none⟩ = some (.int .i64 (zs.getD j 0)) from fun j hj => by
    obtain ⟨b', o', e, h⟩ := hc j hj
    simp only [Option.some.injEq, Addr.mk.injEq, and_true] at e
    obtain ⟨rfl, rfl⟩ := e
    exact h)
  have HNb := Lib.hid (fun (i : Nat) (wr : World) (hi : i < N) => neighbors_any (.slice (some ⟨b, off, none⟩) N cap) i n C wr h1 h2 h3 h4 (by rw [← hN]; exact hi))
  have HX := Lib.hid (fun (l : List Int) => @passL_eq N (nearL n C) (fun i => zs.getD i 0) a l)
  obtain ⟨P, hP⟩ : ∃ P, P = passL N (nearL n C) (fun i => zs.getD i 0) a := ⟨_, rfl⟩
  rw [← hP] at HX ⊢
  obtain ⟨h, hh⟩ : ∃ h : Nat → Int, h = fun i => zs.getD i 0 := ⟨_, rfl⟩
  rw [← hh] at HX HG
  have HH := Lib.hid (show ∀ i, zs.getD i 0 = h i from fun i => by rw [hh])
  obtain ⟨i0, hi, hz0, hz1, hz2⟩ := info_parts Try.infoInt
  clear hr hl hN hG hc qa hP hh
  go_enter Try.func41, Try.ntmps41
  go_wp2_with (at_make; refine wpList_make_full _ rfl _ _ 28 rfl (w.heap.size + 1) 3 i0 (.int .i64 0) 1 Try.underlying28 hi hz0 hz1 .i64 .i64 _ _ N rfl rfl rfl rfl (by rw [hz2]; omega) (by unfold maxLen; omega) (by simp) ?_; intro w1 hown hgrow; (have F1 := Lib.hid ((FldAt.new w n C (.slice (some ⟨b, off, none⟩) N cap)).grown hgrow (by simp))); (have B1 := Lib.hid ((Below.alloc (Below.refl w.heap.size w) (Nat.le_refl _) (.cells #[.int .i64 n, .int .i64 C, .slice (some ⟨b, off, none⟩) N cap] 49)).grown hgrow (by simp) (fun k e => by cases e))); (have O1 := Lib.hid (show Own w1 (w.heap.size + 1) (.slice (some ⟨w.heap.size + 1, 0, none⟩) N N) (List.replicate N 0) from Own.made (by simpa using hown))); clear hown hgrow)
  go_loopw [17] (fun i wr => ∃ k : Nat, k ≤ N ∧ i = .int .i64 k ∧ Own wr (w.heap.size + 1) (.slice (some ⟨w.heap.size + 1, 0, none⟩) N N) (List.replicate k (-1) ++ List.replicate (N - k) 0) ∧ FldAt w.heap.size n C (.slice (some ⟨b, off, none⟩) N cap) wr ∧ Below w.heap.size w wr) (fun i _ => N - (intOf i).toNat)
  case atStart => exact ⟨0, Nat.zero_le _, rfl, by simpa using O1.out, F1.out, B1.out⟩
  case round =>
    obtain ⟨k, hk, rfl, ho, hf, hbw⟩ := hrel
    clear O1 F1 B1
    have HO := Lib.hid ho
    have HF := Lib.hid hf
    have HB := Lib.hid hbw
    clear hf hbw
    by_cases hlt : k < N
    · have hfr := ho.frozenAt k
      have hold := ho.cellAt k hlt
      clear ho
      go_wp2
      go_roundw
      case rel => exact ⟨k + 1, by omega, by go_num, by have := (HO.out.store k (-1)).1; rw [neg_step N k hlt] at this; exact this, HF.out.grown (HO.out.store k (-1)).2 (by simp), HB.out.setCell (by simp) _⟩
      case measure => simp [intOf]; omega
    · have hke : N = k := by omega
      subst hke
      clear ho

      have zf : ∀ (x : Addr) (w0 : World), (store x (.func (.func 67) #[] #[])).run Try.prog w0 = stored Try.prog w0 x (.func (.func 67) #[] #[]) .plain := fun x w0 => run_store Try.prog w0 x _ _ rfl
      go_upto_region 8 with (fail)
      clear zf
      obtain ⟨W2, hW2⟩ : ∃ W2, W2 = wr.alloc (.cells #[.func (.func 67) #[] #[], .slice none 0 0] 75) := ⟨_, rfl⟩
      rw [← hW2]
      obtain ⟨Bp, hBp⟩ : ∃ Bp, Bp = wr.heap.size := ⟨_, rfl⟩
      have hbn : Below wr.heap.size wr W2 := by rw [hW2]; exact Below.alloc (Below.refl wr.heap.size wr) (Nat.le_refl _) _
      have hPl : PileAt Bp (Bp + 1) (.slice none 0 0) [] W2 := by rw [hBp, hW2]; exact ⟨heap_alloc_new wr _, OwnP.nil _ _⟩
      have hlt0 : w.heap.size + 1 < Bp := by rw [hBp]; exact (HO.out.lt _ rfl).2
      have hszW : Bp + 1 ≤ W2.heap.size := hPl.cells.1
      rw [← hBp]
      have HOw := Lib.hid (show Own W2 (w.heap.size + 1) (.slice (some ⟨w.heap.size + 1, 0, none⟩) N N) (List.replicate N (-1)) from by have := HO.out.below hbn; simpa using this)
      have HFl := Lib.hid (HF.out.below hbn)
      have HBl := Lib.hid (HB.out.trans (hbn.mono HB.out.size))
      have HPl := Lib.hid hPl
      clear hW2 hbn hPl HO HF HB hBp
      have f2 := HFl.out.cells.2.2.2
      have qa := (HBl.out.cell (p := ⟨b, off + a, none⟩) hb).trans (HC.out a ha)
      rw [HH.out a] at qa
      have d0 : (a : Int) < (N : Int) := by omega
      go_wp2_with fail
      go_at_call 68
      refine (put_any Bp (Bp + 1) (.slice none 0 0) [] a (h a) W2 HPl.out (fun i h0 h1 => by simp at h1) hszW (by simp)).mono ?_
      rintro e w3 ⟨v, L, rfl, hp, hh, hpm, hvb, hk⟩
      have hLe : L = [((a : Int), h a)] := List.perm_singleton.1 hpm
      subst hLe
      have HM := Lib.hid (show PMem w n C N (.slice (some ⟨b, off, none⟩) N cap) Bp (List.replicate N (-1)) [((a : Int), h a)] v w3 from ⟨HOw.out.keepP hk (by omega) (by simp [Value.ownBlock]), hp, HFl.out.keepP hk (by omega) (by simp [Value.ownBlock]), HBl.out.trans (hk.under (by omega) (fun k e => by simp [Value.ownBlock] at e) HBl.out.size), hlt0⟩)
      have HHp := Lib.hid hh
      clear hp hh hpm hvb hk HOw HFl HBl HPl hszW qa f2
      go_wp2_with fail
      go_loopg [] (5 * N + 1) (fun gk wr => ∃ (known : List Int) (L : List (Int × Int)) (v : Value) (c : Nat), PMem w n C N (.slice (some ⟨b, off, none⟩) N cap) Bp known L v wr ∧ Heap L ∧ POpen N (nearL n C) h a c [] known L ∧ 5 * unkN known + L.length = gk ∧ gk ≤ 5 * N + 1)
      case atStart => exact ⟨_, _, _, a, HM.out, HHp.out, POpen.start HG.out ha a, by simp [unkN, List.countP_replicate], Nat.le_refl _⟩
      case round =>
        clear HM HHp v w3
        obtain ⟨known, L, v, c, hm, hh, hop, hgk, hgb⟩ := hrel
        have HM := Lib.hid hm
        have HHp := Lib.hid hh
        have HOp := Lib.hid hop
        have HGk := Lib.hid hgk
        clear hgk hh hop
        obtain ⟨pa, pc, rfl⟩ := hm.pile.2.shape
        obtain ⟨l, hl⟩ : ∃ l, l = L.length := ⟨_, rfl⟩
        rw [← hl] at HM HGk hm
        have HLl := Lib.hid hl
        obtain ⟨p0, p1, p2, p3, p4⟩ := hm.pile.cells
        clear hm hl
        by_cases hL : l = 0
        · subst hL
          have HE := Lib.hid (List.length_eq_zero_iff.1 HLl.out.symm)
          go_wp2_with fail
          go_ret
          rw [HE.out] at HOp
          have hfin := HX.out known HOp.out.len (fun b hb => (HOp.out.done HG.out ha hb).2)
          refine GivesRow.mk (by rw [← hfin]; exact HOp.out.len.symm) ?_ HM.out.bel
          rw [← hfin]
          exact HM.out.own.mono (by omega)
        · have hL0 : 0 < l := by omega
          have hL1 : (0 : Int) < (l : Int) := by omega
          have hL2 : 0 < L.length := by rw [← HLl.out]; exact hL0
          obtain ⟨k, ek, hkN, hp0, -⟩ := HOp.out.steps (at2 L 0) (at2_mem hL2)
          obtain ⟨p, ep⟩ : ∃ p, p = (at2 L 0).2 := ⟨_, rfl⟩
          have HT := Lib.hid (take_any Bp (Bp + 1) _ L wr HM.out.pile HHp.out (by omega) hL2 (by have := HGk.out; rw [← HLl.out]; omega))
          have HEk := Lib.hid ek
          have HEp := Lib.hid ep
          rw [← ep] at hp0
          have hp0x := Lib.hid hp0
          clear ep ek hp0
          go_wp2_with fail
          go_at_call 69
          refine HT.out.mono ?_
          rintro e w4 ⟨v2, L2, rfl, hp, hh, hpm, hvb, hk⟩
          rw [HEk.out, ← HEp.out]
          have HM4 := Lib.hid (HM.out.kept hk hp)
          have HHp2 := Lib.hid hh
          have HPm := Lib.hid hpm
          have HV2 := Lib.hid (show ∀ kk, v2.ownBlock = some kk → kk < w4.heap.size from fun kk e => (hp.2.lt kk e).2)
          have hszB := HM4.out.bel.size
          have hBp4 := HM4.out.pile.cells.1
          clear HT HM p0 p1 p2 p3 p4 hp hh hpm hvb hk
          go_upto_region 11 with (fail)
          obtain ⟨W5, hW5⟩ : ∃ W5, W5 = w4.alloc (.cells #[.int .i64 k, .int .i64 p] 71) := ⟨_, rfl⟩
          obtain ⟨hB, hhB⟩ : ∃ hB, hB = w4.heap.size := ⟨_, rfl⟩
          rw [← hW5, ← hhB]
          have hE5 : W5.heap[hB]? = some (.cells #[.int .i64 k, .int .i64 p] 71 (0, 0)) := by rw [hhB, hW5]; exact heap_alloc_new w4 _
          have hb5 : Below w4.heap.size w4 W5 := by rw [hW5]; exact Below.alloc (Below.refl _ _) (Nat.le_refl _) _
          have HM5 := Lib.hid (HM4.out.below hb5)
          rw [← hhB] at HV2 hszB hBp4
          clear hW5 hb5 HM4 hhB
          have g0 : W5.cell? ⟨hB, 0, none⟩ = some (.int .i64 k) := by rw [cell_of_row _ hB 0 _ _ (0, 0) hE5]; rfl
          have g1 : W5.cell? ⟨hB, 1, none⟩ = some (.int .i64 p) := by rw [cell_of_row _ hB 1 _ _ (0, 0) hE5]; rfl
          have HE5 := Lib.hid hE5
          clear hE5
          have k0 := HM5.out.own.cellAt k hkN
          have k1 := HM5.out.own.frozenAt k
          obtain ⟨u, hu⟩ : ∃ u, u = known.getD k 0 := ⟨_, rfl⟩
          rw [← hu] at k0
          have HU := Lib.hid hu
          clear hu
          have d1 : (k : Int) < (N : Int) := by omega
          by_cases hun : u ≥ 0
          · skip
            go_wp2_with fail
            go_roundg (gk - 1)
            case measure => have := HGk.out; omega
            case rel => exact ⟨known, L2, v2, a, HM5.out, HHp2.out, HOp.out.skip HPm.out HEk.out (by rw [← HU.out]; exact hun) a, by have h1 := HPm.out.length_eq; have h2 := HGk.out; have h3 := HLl.out; simp only [List.length_cons] at h1; omega, by omega⟩
          · skip
            obtain ⟨hIP, hopn⟩ := HOp.out.take HG.out ha HPm.out (fun y hy => heap_top HHp.out hy) HEk.out hkN (by rw [← HU.out]; omega)
            rw [← HEp.out] at hopn
            clear hIP
            have HOp2 := Lib.hid hopn
            clear hopn
            go_upto_region 13 with (fail)
            obtain ⟨W6, hW6⟩ : ∃ W6, W6 = W5.setCell ⟨w.heap.size + 1, k, none⟩ (.int .i64 p) := ⟨_, rfl⟩
            rw [← hW6]
            have HM6 := Lib.hid (show PMem w n C N (.slice (some ⟨b, off, none⟩) N cap) Bp (known.set k p) L2 v2 W6 from by rw [hW6]; exact HM5.out.store k p)
            have hE6 : W6.heap[hB]? = some (.cells #[.int .i64 k, .int .i64 p] 71 (0, 0)) := by rw [hW6]; exact (heap_setCell_other W5 ⟨w.heap.size + 1, k, none⟩ hB _ (by have := HM5.out.bp; simp; omega)).trans HE5.out
            clear hW6 HM5 HE5 g0 g1 k0 k1
            have g0 : W6.cell? ⟨hB, 0, none⟩ = some (.int .i64 k) := by rw [cell_of_row _ hB 0 _ _ (0, 0) hE6]; rfl
            have HE6 := Lib.hid hE6
            have hlt6 : hB < W6.heap.size := (Array.getElem?_eq_some_iff.1 hE6).1
            clear hE6
            obtain ⟨-, f0, f1, f2⟩ := HM6.out.fld.cells
            have HNk := Lib.hid (HNb.out k W6 hkN)
            obtain ⟨X, hX⟩ : ∃ X, X = nearL n C k := ⟨_, rfl⟩
            rw [← hX] at HNk
            have HXe := Lib.hid hX
            have HX4 := Lib.hid (show X.length ≤ 4 by rw [hX]; exact nearL_len n C k)
            clear hX
            go_wp2_with fail
            go_at_call 43
            refine HNk.out.mono ?_
            rintro e w7 ⟨aX, cX, rfl, ho, hb7⟩
            obtain ⟨x, hx⟩ : ∃ x, x = X.length := ⟨_, rfl⟩
            rw [← hx] at ho HX4 ⊢
            have HXl := Lib.hid hx
            clear hx
            have HRX := Lib.hid (ho.row)
            have HOX := Lib.hid ho
            have HM7 := Lib.hid (HM6.out.below hb7)
            have HE7 := Lib.hid ((hb7.block hB hlt6).trans HE6.out)
            have hlt7 : hB < w7.heap.size := Nat.lt_of_lt_of_le hlt6 hb7.size
            clear ho hb7 f0 f1 f2 g0 HM6 HE6 HNk
            go_wp2_with fail
            obtain ⟨wo, hwo⟩ : ∃ wo : World, wo = w7 := ⟨_, rfl⟩
            rw [← hwo] at HM7 HRX HOX HE7 hlt7 ⊢
            clear hwo w7
            have hfx := HGk.out
            go_loopw [55] (fun j wr => ∃ (m : Nat) (L : List (Int × Int)) (v : Value), m ≤ x ∧ j = .int .i64 m ∧ PMem w n C N (.slice (some ⟨b, off, none⟩) N cap) Bp (known.set k p) L v wr ∧ Heap L ∧ POpen N (nearL n C) h a k (X.drop m) (known.set k p) L ∧ 5 * unkN (known.set k p) + L.length + 6 ≤ gk + m ∧ (∀ i, hB ≤ i → i < wo.heap.size → wr.heap[i]? = wo.heap[i]?) ∧ wo.heap.size ≤ wr.heap.size ∧ ∀ kk, v.ownBlock = some kk → kk < hB ∨ wo.heap.size ≤ kk) (fun j _ => x - (intOf j).toNat)
            case atStart =>
              refine ⟨0, L2, v2, Nat.zero_le _, rfl, HM7.out, HHp2.out, by rw [List.drop_zero, HXe.out]; exact HOp2.out, ?_, fun _ _ _ => rfl, Nat.le_refl _, fun kk e => .inl (HV2.out kk e)⟩
              have h1 := HPm.out.length_eq
              have h2 := HLl.out
              have h3 := unk_set (l := known) (k := k) (by rw [HOp.out.len]; exact hkN) (by rw [← HU.out]; omega) hp0x.out
              simp only [List.length_cons] at h1
              omega
            case round =>
              clear hfx HHp2 HM7 HPm
              have hx4 := HX4.out
              obtain ⟨m, L3, v3, hmx, rfl, hm, hh, hop, hgm, hke, hsz, hvo⟩ := hrel
              have HM3 := Lib.hid hm
              have HH3 := Lib.hid hh
              have HO3 := Lib.hid hop
              have HGm := Lib.hid hgm
              have HKe := Lib.hid hke
              have HSz := Lib.hid hsz
              have HVo := Lib.hid hvo
              clear hm hh hop hgm hke hsz hvo
              by_cases hlt : m < x
              · skip
                obtain ⟨-, hcx⟩ := HRX.out.cells
                obtain ⟨gX, oX, rfl, hxm⟩ := hcx m hlt
                have hgX := HOX.out.addr (by omega)
                obtain ⟨gX2, hgX⟩ := hgX
                simp only [Option.some.injEq, Addr.mk.injEq, and_true] at hgX
                obtain ⟨rfl, rfl⟩ := hgX
                have hgl := HOX.out.lt gX rfl
                have hmem : X.getD m 0 ∈ nearL n C k := by rw [← HXe.out, List.getD_eq_getElem?_getD, List.getElem?_eq_getElem (by rw [← HXl.out]; exact hlt)]; simp
                obtain ⟨j, hj, hjN⟩ := HG.out.inb k hkN _ hmem
                rw [hj] at hxm hmem
                have HDr := Lib.hid (show X.drop m = (j : Int) :: X.drop (m + 1) by rw [← hj, List.drop_eq_getElem_cons (by rw [← HXl.out]; exact hlt), List.getD_eq_getElem?_getD, List.getElem?_eq_getElem (by rw [← HXl.out]; exact hlt)]; rfl)
                have HMe := Lib.hid hmem
                rw [← cell_same (HKe.out gX (by omega) hgl.2)] at hxm
                have hE := (HKe.out hB (Nat.le_refl _) hlt7).trans HE7.out
                have g1 : wr.cell? ⟨hB, 1, none⟩ = some (.int .i64 p) := by rw [cell_of_row _ hB 1 _ _ (0, 0) hE]; rfl
                simp only [Nat.zero_add] at hxm
                clear hcx hj hmem hE
                have kj := HM3.out.own.cellAt j hjN
                obtain ⟨q, hq⟩ : ∃ q, q = (known.set k p).getD j 0 := ⟨_, rfl⟩
                rw [← hq] at kj
                have HQ := Lib.hid hq
                clear hq
                have d2 : (m : Int) < (x : Int) := by omega
                have d3 : (j : Int) < (N : Int) := by omega
                rw [HDr.out] at HO3
                by_cases hq0 : q < 0
                · skip
                  obtain ⟨-, -, -, f2⟩ := HM3.out.fld.cells
                  have qj := (HM3.out.bel.cell (p := ⟨b, off + j, none⟩) hb).trans (HC.out j hjN)
                  rw [HH.out j] at qj
                  have hszr := HM3.out.bel.size
                  have hBr := HM3.out.pile.cells.1
                  go_upto_region 17 with (fail)
                  refine wp_region_held_drew (S := fun wx => wx.cell? ⟨hB, 1, none⟩ = some (.int .i64 p) ∧ wx.cell? ⟨w.heap.size, 2, none⟩ = some (.slice (some ⟨b, off, none⟩) N cap) ∧ wx.cell? ⟨b, off + j, none⟩ = some (.int .i64 (h j))) (by kernel_rfl) (⟨g1, f2, qj⟩) (fun hHeld => ?_)
                  refine wpAnyH_take (i := 0) (oi := { dst := some 64, op := _, type := _, pos := _, after := _, guard := _ }) (v := ?_) rfl (by kernel_rfl) (by kernel_rfl) (by kernel_rfl) (fun _ _ _ h => h) (Or.inl ⟨by rfl, ?_⟩) (by assumption) ?_
                  case refine_2 => ((intro w hSw; (try dsimp only at hSw); go_simp); try with_reducible rfl)
                  try simp only [Act.put, List.setIfInBounds_toArray, List.set_cons_zero, List.set_cons_succ]
                  refine wpAnyH_take (i := 1) (oi := { dst := some 65, op := _, type := _, pos := _, after := _, guard := _ }) (v := ?_) rfl (by kernel_rfl) (by kernel_rfl) (by kernel_rfl) (fun _ _ _ h => h) (Or.inl ⟨by rfl, ?_⟩) (by assumption) ?_
                  case refine_2 => ((intro w hSw; (try dsimp only at hSw); go_simp); try with_reducible rfl)
                  try simp only [Act.put, List.setIfInBounds_toArray, List.set_cons_zero, List.set_cons_succ]
                  refine wpAnyH_take (i := 2) (oi := { dst := some 66, op := _, type := _, pos := _, after := _, guard := _ }) (v := ?_) rfl (by kernel_rfl) (by kernel_rfl) (by kernel_rfl) (fun _ _ _ h => h) (Or.inl ⟨by rfl, ?_⟩) (by assumption) ?_
                  case refine_2 => ((intro w hSw; (try dsimp only at hSw); go_simp); try with_reducible rfl)
                  try simp only [Act.put, List.setIfInBounds_toArray, List.set_cons_zero, List.set_cons_succ]
                  refine wpAnyH_take (i := 3) (oi := { dst := some 67, op := _, type := _, pos := _, after := _, guard := _ }) (v := ?_) rfl (by kernel_rfl) (by kernel_rfl) (by kernel_rfl) (fun _ _ _ h => h) (Or.inl ⟨by rfl, ?_⟩) (by assumption) ?_
                  case refine_2 => ((intro w hSw; (try dsimp only at hSw); go_simp); try with_reducible rfl)
                  try simp only [Act.put, List.setIfInBounds_toArray, List.set_cons_zero, List.set_cons_succ]
                  refine wpAnyH_take (i := 4) (oi := { dst := some 68, op := _, type := _, pos := _, after := _, guard := _ }) (v := ?_) rfl (by kernel_rfl) (by kernel_rfl) (by kernel_rfl) (fun _ _ _ h => h) (Or.inl ⟨by rfl, ?_⟩) (by assumption) ?_
                  case refine_2 => ((intro w hSw; (try dsimp only at hSw); go_simp); try with_reducible rfl)
                  try simp only [Act.put, List.setIfInBounds_toArray, List.set_cons_zero, List.set_cons_succ]
                  refine wpAnyH_take (i := 5) (oi := { dst := some 69, op := _, type := _, pos := _, after := _, guard := _ }) (v := ?_) rfl (by kernel_rfl) (by kernel_rfl) (by kernel_rfl) (fun _ _ _ h => h) (Or.inl ⟨by rfl, ?_⟩) (by assumption) ?_
                  case refine_2 => ((intro w hSw; (try dsimp only at hSw); go_simp); try with_reducible rfl)
                  try simp only [Act.put, List.setIfInBounds_toArray, List.set_cons_zero, List.set_cons_succ]
                  refine wpAnyH_take (i := 6) (oi := { dst := some 70, op := _, type := _, pos := _, after := _, guard := _ }) (v := ?_) rfl (by kernel_rfl) (by kernel_rfl) (by kernel_rfl) (fun _ _ _ h => h) (Or.inl ⟨by rfl, ?_⟩) (by assumption) ?_
                  case refine_2 => ((intro w hSw; (try dsimp only at hSw); go_simp); try with_reducible rfl)
                  try simp only [Act.put, List.setIfInBounds_toArray, List.set_cons_zero, List.set_cons_succ]
                  refine wpAnyH_take (i := 7) (oi := { dst := some 71, op := _, type := _, pos := _, after := _, guard := _ }) (v := ?_) rfl (by kernel_rfl) (by kernel_rfl) (by kernel_rfl) (fun _ _ _ h => h) (Or.inl ⟨by rfl, ?_⟩) (by assumption) ?_
                  case refine_2 => ((intro w hSw; (try dsimp only at hSw); go_simp); try with_reducible rfl)
                  try simp only [Act.put, List.setIfInBounds_toArray, List.set_cons_zero, List.set_cons_succ]
                  refine wpAnyH_take (i := 8) (oi := { dst := some 72, op := _, type := _, pos := _, after := _, guard := _ }) (v := ?_) rfl (by kernel_rfl) (by kernel_rfl) (by kernel_rfl) (fun _ _ _ h => h) (Or.inl ⟨by rfl, ?_⟩) (by assumption) ?_
                  case refine_2 => ((intro w hSw; (try dsimp only at hSw); go_simp); try with_reducible rfl)
                  try simp only [Act.put, List.setIfInBounds_toArray, List.set_cons_zero, List.set_cons_succ]
                  refine wpAnyH_take (i := 9) (oi := { dst := some 73, op := _, type := _, pos := _, after := _, guard := _ }) (v := ?_) rfl (by kernel_rfl) (by kernel_rfl) (by kernel_rfl) (fun _ _ _ h => h) (Or.inl ⟨by rfl, ?_⟩) (by assumption) ?_
                  case refine_2 => ((intro w hSw; (try dsimp only at hSw); go_simp); try with_reducible rfl)
                  try simp only [Act.put, List.setIfInBounds_toArray, List.set_cons_zero, List.set_cons_succ]
                  refine wpAnyH_ready (rs := [10]) (by kernel_rfl) (by simp) ?_
                  refine AllReadyH.cons (o := { dst := some 74, op := _, type := _, pos := _, after := _, guard := _ }) rfl (fun K hK => ?_) AllReadyH.nil
                  go_simp
                  go_at_call 68
                  have HMd := Lib.hid (HM3.out.below (show Below wr.heap.size wr wr.drew from below_drewN (Below.refl _ _) 1))
                  refine (put_any Bp (Bp + 1) v3 L3 j (min p (h j)) wr.drew HMd.out.pile HH3.out (show Bp + 1 ≤ wr.heap.size by omega) (by have := HGm.out; omega)).mono ?_
                  rintro e w8 ⟨v4, L4, rfl, hp, hh, hpm, hvb, hk⟩
                  have HM8 := Lib.hid (HMd.out.kept hk hp)
                  have HH8 := Lib.hid hh
                  have HP8 := Lib.hid hpm
                  have HV8 := Lib.hid (show ∀ k, v4.ownBlock = some k → v3.ownBlock = some k ∨ wr.heap.size ≤ k from hvb)
                  have HK8 := Lib.hid (show KeepP wr w8 Bp v3.ownBlock from hk)
                  clear hp hh hpm hvb hk HMd
                  have t1 : w8.cell? ⟨hB, 1, none⟩ = some (.int .i64 p) := (cell_same (HK8.out.2.2.2.2 hB (by have := HSz.out; omega) (by omega) (fun e => by have := HVo.out hB e; omega)) 1).trans g1
                  obtain ⟨-, -, -, t2⟩ := HM8.out.fld.cells
                  have t3 := (HM8.out.bel.cell (p := ⟨b, off + j, none⟩) hb).trans (HC.out j hjN)
                  rw [HH.out j] at t3
                  clear g1 f2 qj
                  refine hK.out _ _ (⟨t1, t2, t3⟩) (fun hHeld => ?_)
                  clear hK K
                  try simp only [Act.put, List.setIfInBounds_toArray, List.set_cons_zero, List.set_cons_succ]
                  refine wpAnyH_done (by kernel_rfl) ?_ _
                  clear hHeld
                  go_wp2_with fail
                  go_roundw
                  case rel =>
                    have hkd : (known.set k p).getD k 0 = p := by rw [List.getD_eq_getElem?_getD, List.getElem?_set_self (by rw [HOp.out.len]; exact hkN)]; rfl
                    refine ⟨m + 1, L4, v4, by omega, by go_num, HM8.out, HH8.out, HO3.out.put HG.out hkN (by rw [hkd]; exact hp0x.out) HMe.out (by rw [hkd]; exact HP8.out), ?_, fun i h1 h2 => ?_, ?_, fun kk e => ?_⟩
                    · have h1 := HP8.out.length_eq
                      have h2 := HGm.out
                      simp only [List.length_cons] at h1
                      omega
                    · rw [← HKe.out i h1 h2]
                      exact HK8.out.2.2.2.2 i (by have := HSz.out; omega) (by omega) (fun e => by have := HVo.out i e; omega)
                    · exact Nat.le_trans HSz.out HK8.out.2.2.2.1
                    · rcases HV8.out kk e with e | e
                      · exact HVo.out kk e
                      · have := HSz.out; omega
                  case measure => simp [intOf]; omega
                · skip
                  go_wp2_with fail
                  go_roundw
                  case rel => exact ⟨m + 1, L3, v3, by omega, by go_num, HM3.out, HH3.out, HO3.out.pass (by rw [← HQ.out]; omega), by have := HGm.out; omega, HKe.out, HSz.out, HVo.out⟩
                  case measure => simp [intOf]; omega
              · have hmx2 : m = x := by omega
                subst hmx2
                rw [HXl.out, List.drop_length] at HO3
                go_wp2_with fail
                go_roundg (5 * unkN (known.set k p) + L3.length)
                case measure => have := HGm.out; have := HX4.out; omega
                case rel => exact ⟨_, L3, v3, k, HM3.out, HH3.out, HO3.out, rfl, by have := HGm.out; have := HX4.out; omega⟩

end Go.Proofs.Ytkhhloeemecokaa
