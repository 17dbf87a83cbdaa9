/- Contracts of the draws of grids: l91Rough, l91Grid. -/
import Derived.Test.YtkhhloeemecokaaGDraw0
import Derived.Deep.RegionHeld3
namespace Go.Proofs.Ytkhhloeemecokaa
open Go.RowKit
set_option linter.unusedVariables false

/-- What a drawn grid is. -/
def GivesRough (w0 : World) (a : Option Addr) (m cap R : Nat) (q rows : Nat) (w : World) (e : Ending) (w' : World) : Prop :=
  ∃ g ad cp, e = .returned (.slice ad rows cp) ∧ g.length = rows ∧ (∀ i, i < g.length → 1 ≤ (g.getD i []).length ∧ (g.getD i []).length ≤ 6) ∧ MOwn w' w.heap.size (.slice ad rows cp) g ∧ Drawn w0 a m cap R w (q + 60) w'
theorem rough_set {g : List (List Int)} {i : Nat} {z : List Int} {n : Nat} (h : ∀ j, j < g.length → 1 ≤ (g.getD j []).length ∧ (g.getD j []).length ≤ n) (hz : 1 ≤ z.length) (hz2 : z.length ≤ n) : ∀ j, j < (g.set i z).length → 1 ≤ ((g.set i z).getD j []).length ∧ ((g.set i z).getD j []).length ≤ n := by
  intro j hj
  rw [List.length_set] at hj
  by_cases e : i = j
  · subst e
    rw [show (g.set i z).getD i [] = z by simp [List.getD_eq_getElem?_getD, hj]]
    exact ⟨hz, hz2⟩
  · rw [show (g.set i z).getD j [] = g.getD j [] by simp [List.getD_eq_getElem?_getD, e]]
    exact h j hj
theorem Own.apart {w w' : World} {B D H n c : Nat} {v : Value} {zs hs : List Int} (h : Own w B (.slice (some ⟨H, 0, none⟩) n c) hs) (hu : Own w D v zs) (hg : w.grownBy w' v.ownBlock) (hH : H < D) : Own w' B (.slice (some ⟨H, 0, none⟩) n c) hs :=
  h.kept hg (fun k hk e => by
    simp only [Value.ownBlock, Option.some.injEq] at hk
    have := (hu.lt k e).1
    omega)
theorem Own.lit8 (w : World) (B : Nat) (x0 x1 x2 x3 x4 x5 x6 x7 : Int) (hB : B ≤ w.heap.size) : Own (w.alloc (.cells #[.int .i64 x0, .int .i64 x1, .int .i64 x2, .int .i64 x3, .int .i64 x4, .int .i64 x5, .int .i64 x6, .int .i64 x7] 3)) B (.slice (some ⟨w.heap.size, 0, none⟩) 8 8) [x0, x1, x2, x3, x4, x5, x6, x7] :=
  World.ownsRow_lit (e := 3) (size := 1) w #[.int .i64 x0, .int .i64 x1, .int .i64 x2, .int .i64 x3, .int .i64 x4, .int .i64 x5, .int .i64 x6, .int .i64 x7] 8 hB (by decide) rfl
theorem Own.lit3 (w : World) (B : Nat) (x0 x1 x2 : Int) (hB : B ≤ w.heap.size) : Own (w.alloc (.cells #[.int .i64 x0, .int .i64 x1, .int .i64 x2] 3)) B (.slice (some ⟨w.heap.size, 0, none⟩) 3 3) [x0, x1, x2] :=
  World.ownsRow_lit (e := 3) (size := 1) w #[.int .i64 x0, .int .i64 x1, .int .i64 x2] 3 hB (by decide) rfl

set_option maxHeartbeats 4000000 in
theorem rough_any (w0 : World) (a : Option Addr) (m cap R q : Nat) (rows cols : Nat) (w1 w : World) (hb : Bytes w0 a m) (hm : m ≤ 2000) (hr : Drawn w0 a m cap R w1 q w) (hq : q ≤ 10000) (n1 : 1 ≤ rows) (n2 : rows ≤ 5) (n3 : 1 ≤ cols) (n4 : cols ≤ 5) :
    Calls Try.prog 77 #[.pointer (some ⟨R, 0, none⟩), .int .i64 rows, .int .i64 cols] w (GivesRough w0 a m cap R q rows w) := by
  have HD0 := Lib.hid (show Drawn w0 a m cap R w q w from by obtain ⟨h0, ⟨q', h1, h2⟩, h3⟩ := hr; exact (Drawn.refl h2).more h1)
  have HB := Lib.hid hb
  clear hr hb
  go_enter Try.func77, Try.ntmps77
  have HD1 := Lib.hid (HD0.out.alloc (.cells #[.int .i64 1, .int .i64 2, .int .i64 3, .int .i64 4, .int .i64 6, .int .i64 9, .int .i64 5, .int .i64 2] 3))
  have HO1 := Lib.hid (Own.lit8 w w.heap.size 1 2 3 4 6 9 5 2 (Nat.le_refl _))
  go_wp2_with fail
  refine (pickD w0 a m cap R q 4 w _ HB.out hm HD1.out (by omega) (by omega) (by omega)).mono ?_
  rintro e w2 ⟨c, hc, rfl, hd⟩
  have HD2 := Lib.hid (HD1.out.trans hd)
  have HO2 := Lib.hid (HO1.out.over HD1.out hd)
  have hH := hd.size
  clear hd HD1 HO1
  by_cases c0 : c = 0
  · subst c0
    have b0 : (((0 : Nat) : Int) == 0) = true := by simp
    have HHt := Lib.hid (Own.lit8 w2 w.heap.size 0 10 25 40 55 70 99 12 HD2.out.size)
    have HDr := Lib.hid (HD2.out.alloc (.cells #[.int .i64 0, .int .i64 10, .int .i64 25, .int .i64 40, .int .i64 55, .int .i64 70, .int .i64 99, .int .i64 12] 3))
    have hHl : w2.heap.size < (w2.alloc (.cells #[.int .i64 0, .int .i64 10, .int .i64 25, .int .i64 40, .int .i64 55, .int .i64 70, .int .i64 99, .int .i64 12] 3)).heap.size := by simp
    clear HO2 HD2 hH
    have HO0 := Lib.hid (OutM.nil (w2.alloc (.cells #[.int .i64 0, .int .i64 10, .int .i64 25, .int .i64 40, .int .i64 55, .int .i64 70, .int .i64 99, .int .i64 12] 3)) w.heap.size HDr.out.size)
    have HDo := Lib.hid (HDr.out.alloc (.cells #[] 28))
    have HHo := Lib.hid (HHt.out.alloc (.cells #[] 28))
    have HO0 := Lib.hid (HO0.out.lift (D' := ((w2.alloc (.cells #[.int .i64 0, .int .i64 10, .int .i64 25, .int .i64 40, .int .i64 55, .int .i64 70, .int .i64 99, .int .i64 12] 3)).alloc (.cells #[] 28)).heap.size) (by simp) (Nat.le_refl _))
    have hHo : w2.heap.size < ((w2.alloc (.cells #[.int .i64 0, .int .i64 10, .int .i64 25, .int .i64 40, .int .i64 55, .int .i64 70, .int .i64 99, .int .i64 12] 3)).alloc (.cells #[] 28)).heap.size := by simp at hHl ⊢ <;> omega
    clear HHt HDr hHl
    go_wp2
    go_loopw [8, 9] (fun s i wr => ∃ (k : Nat) (g : List (List Int)), k ≤ rows ∧ i = .int .i64 k ∧ g.length = k ∧ (∀ j, j < g.length → 1 ≤ (g.getD j []).length ∧ (g.getD j []).length ≤ 5) ∧ OutM wr w.heap.size wr.heap.size s g ∧ Own wr w.heap.size (.slice (some ⟨w2.heap.size, 0, none⟩) 8 8) [0, 10, 25, 40, 55, 70, 99, 12] ∧ w2.heap.size < wr.heap.size ∧ Drawn w0 a m cap R w (q + 1 + 5 * k) wr) (fun _ i _ => rows - (intOf i).toNat)
    case atStart => exact ⟨0, [], Nat.zero_le _, rfl, rfl, fun j hj => by simp at hj, by have h := HO0.out; rw [show (w2.alloc (.cells #[.int .i64 0, .int .i64 10, .int .i64 25, .int .i64 40, .int .i64 55, .int .i64 70, .int .i64 99, .int .i64 12] 3)).heap.size = w2.heap.size + 1 by simp] at h; exact h, HHo.out, hHo, HDo.out⟩
    case round =>
      clear HO0 HDo HHo hHo HD0
      obtain ⟨k, g, hk, rfl, hgl, hgr, hM, hHt, hHl, hD⟩ := hrel
      have HM := Lib.hid hM
      have HHt := Lib.hid hHt
      have HD := Lib.hid hD
      have HGl := Lib.hid hgl
      have HGr := Lib.hid hgr
      clear hM hHt hD hgl hgr
      obtain ⟨ao, co, rfl⟩ := HM.out.shape
      rw [HGl.out] at HM ⊢
      by_cases hlt : k < rows
      · have HI0 := Lib.hid (Own.emptyLit wr wr.heap.size (Nat.le_refl _))
        have HM1 := Lib.hid (HM.out.below (Below.alloc (Below.refl wr.heap.size wr) (Nat.le_refl _) (.cells #[] 3)))
        have HH1 := Lib.hid (HHt.out.alloc (.cells #[] 3))
        have HD1 := Lib.hid (HD.out.alloc (.cells #[] 3))
        have hsz0 := HD.out.size
        obtain ⟨D, hDe⟩ : ∃ D, D = wr.heap.size := ⟨_, rfl⟩
        have HDe := Lib.hid hDe
        have hHD : w2.heap.size < D := by rw [hDe]; exact hHl
        rw [← hDe] at hsz0
        have hDl : D ≤ (wr.alloc (.cells #[] 3)).heap.size := by rw [hDe]; simp
        clear hDe hHl HM HHt HD
        go_wp2
        go_loopw [10, 11] (fun s i ws => ∃ (k2 : Nat) (z : List Int), k2 ≤ cols ∧ i = .int .i64 k2 ∧ z.length = k2 ∧ Own ws D s z ∧ OutM ws w.heap.size D (.slice ao k co) g ∧ Own ws w.heap.size (.slice (some ⟨w2.heap.size, 0, none⟩) 8 8) [0, 10, 25, 40, 55, 70, 99, 12] ∧ D ≤ ws.heap.size ∧ Drawn w0 a m cap R w (q + 1 + 5 * k + k2) ws) (fun _ i _ => cols - (intOf i).toNat)
        case atStart => exact ⟨0, [], Nat.zero_le _, rfl, rfl, by rw [HDe.out]; exact HI0.out, by rw [HDe.out]; exact HM1.out, HH1.out, hDl, HD1.out⟩
        case round =>
          clear HI0 HM1 HH1 HD1 hDl
          obtain ⟨k2, z, hk2, rfl, hzl, hz, hM, hHt, hDs, hD⟩ := hrel
          have HZ := Lib.hid hz
          have HM := Lib.hid hM
          have HHt := Lib.hid hHt
          have HD := Lib.hid hD
          have HZl := Lib.hid hzl
          have hlen : z.length ≤ 1099511627776 := by omega
          clear hz hM hHt hD hzl
          by_cases hlt2 : k2 < cols
          · go_wp2_with fail
            refine (pickD w0 a m cap R (q + 1 + 5 * k + k2) 8 w _ HB.out hm HD.out (by omega) (by omega) (by omega)).mono ?_
            rintro e w6 ⟨d, hdd, rfl, hd6⟩
            have HD6 := Lib.hid (HD.out.trans hd6)
            have HZ6 := Lib.hid (HZ.out.over HD.out hd6)
            have HM6 := Lib.hid (HM.out.over HD.out hd6)
            have HH6 := Lib.hid (HHt.out.over HD.out hd6)
            have hDs6 := Nat.le_trans hDs hd6.size
            clear hd6 HZ HM HHt HD hDs
            have x1 := HH6.out.cellAt d (by omega)
            obtain ⟨x, hx⟩ : ∃ x, x = ([0, 10, 25, 40, 55, 70, 99, 12] : List Int).getD d 0 := ⟨_, rfl⟩
            rw [← hx] at x1
            clear hx
            have i1 : (0 : Int) ≤ (d : Int) := by omega
            have i2 : (d : Int) < 8 := by omega
            go_wp2_with (at_builtin; refine append1 (by rfl) _ _ (by rfl) (D) _ (z) (x) (by rfl) (by rfl) (HZ6.out) (hDs6) (hlen) ?_; intro v' w7 ho7 hg7; (have HO7 := Lib.hid ho7); (have HG7 := Lib.hid hg7); clear ho7 hg7)
            go_roundw
            case rel => exact ⟨k2 + 1, z ++ [x], by omega, by go_num, by have := HZl.out; simp; omega, HO7.out, HM6.out.grown HZ6.out HG7.out, HH6.out.apart HZ6.out HG7.out hHD, Nat.le_trans hDs6 HG7.out.size, HD6.out.own (HZ6.out.mono hsz0) HG7.out⟩
            case measure => simp [intOf]; omega
          · have hke : k2 = cols := by omega
            obtain ⟨ai, ci, rfl⟩ := HZ.out.shape
            have hsz2 := HD.out.size
            have hTl : g.length ≤ 1000000 := by have := HGl.out; omega
            have hB2 : w.heap.size ≤ wr.heap.size := hsz2
            go_wp2_with (at_builtin; refine appendM (by rfl) _ _ (by rfl) w.heap.size D _ g _ z (by rfl) (by rfl) HM.out HZ.out hB2 hTl ?_; intro v' w7 ho7 hg7; (have HO7 := Lib.hid ho7); (have HG7 := Lib.hid hg7); clear ho7 hg7)
            go_roundw
            case rel =>
              refine ⟨k + 1, g ++ [z], by omega, by go_num, by rw [List.length_append, HGl.out]; rfl, fun j hj => ?_, HO7.out.lift HG7.out.size (Nat.le_refl _), HHt.out.outM HM.out HG7.out, by have := HG7.out.size; omega, (HD.out.outM HM.out HG7.out).more (by omega)⟩
              rw [List.length_append] at hj
              simp only [List.length_cons, List.length_nil] at hj
              by_cases e : j < g.length
              · rw [show (g ++ [z]).getD j [] = g.getD j [] by simp [List.getD_eq_getElem?_getD, List.getElem?_append, e]]
                exact HGr.out j e
              · obtain rfl : j = g.length := by omega
                rw [show (g ++ [z]).getD g.length [] = z by simp [List.getD_eq_getElem?_getD]]
                have := HZl.out
                omega
            case measure => simp [intOf]; omega
      · have hke : k = rows := by omega
        have HGl2 := Lib.hid (show g.length = rows from HGl.out.trans hke)
        clear HGl
        obtain rfl := hke
        go_wp2_with fail
        refine (pickD w0 a m cap R (q + 1 + 5 * k) 60 w _ HB.out hm HD.out (by omega) (by omega) (by omega)).mono ?_
        rintro e w6 ⟨d, hdd, rfl, hd6⟩
        have HD6 := Lib.hid (HD.out.trans hd6)
        have HM6 := Lib.hid ((HM.out.over HD.out hd6).lift hd6.size (Nat.le_refl _))
        clear hd6 HD HM HHt hHl
        have hg0 : 0 < g.length := by have := HGl2.out; omega
        have HR0 := Lib.hid (HGr.out 0 hg0)
        by_cases d0 : d = 0
        · subst d0
          have b1 : (((0 : Nat) : Int) == 0) = true := by simp
          obtain ⟨O, cpo, G, cG, hv, s0, s1, s2, hOG, hBG, hGlt, hOw, hset⟩ := HM6.out.reset hg0 (by have := HR0.out; omega)
          simp only [Value.slice.injEq] at hv
          obtain ⟨rfl, -, rfl⟩ := hv
          obtain ⟨l0, hl0⟩ : ∃ l0, l0 = (g.getD 0 []).length := ⟨_, rfl⟩
          have hl1 : 1 ≤ l0 := by have := HR0.out; omega
          have hl2 : 0 < l0 := by omega
          have hk1 : 0 < k := by omega
          rw [← hl0] at s0
          have HL0 := Lib.hid hl0
          have HS0 := Lib.hid s0
          clear hl0 s1 s2 hBG hGlt hOw hset
          go_wp2 -- the region
          refine wp_region_held_drew (S := fun wx => wx.cell? ⟨O, 0, none⟩ = some (.slice (some ⟨G, 0, none⟩) l0 cG)) (by kernel_rfl) (s0) (fun hHeld => ?_)
          refine wpAnyH_take (i := 0) (oi := { dst := some 45, op := _, type := _, pos := _, after := _, guard := _ }) (v := ?_) rfl (by kernel_rfl) (by kernel_rfl) (by kernel_rfl) (fun _ _ _ h => h) (Or.inl ⟨by rfl, ?_⟩) (by assumption) ?_
          case refine_2 => ((intro w hSw; (try dsimp only at hSw); go_simp); try with_reducible rfl)
          try simp only [Act.put, List.setIfInBounds_toArray, List.set_cons_zero, List.set_cons_succ]
          refine wpAnyH_take (i := 1) (oi := { dst := some 46, op := _, type := _, pos := _, after := _, guard := _ }) (v := ?_) rfl (by kernel_rfl) (by kernel_rfl) (by kernel_rfl) (fun _ _ _ h => h) (Or.inl ⟨by rfl, ?_⟩) (by assumption) ?_
          case refine_2 => ((intro w hSw; (try dsimp only at hSw); go_simp); try with_reducible rfl)
          try simp only [Act.put, List.setIfInBounds_toArray, List.set_cons_zero, List.set_cons_succ]
          refine wpAnyH_take (i := 2) (oi := { dst := some 47, op := _, type := _, pos := _, after := _, guard := _ }) (v := ?_) rfl (by kernel_rfl) (by kernel_rfl) (by kernel_rfl) (fun _ _ _ h => h) (Or.inl ⟨by rfl, ?_⟩) (by assumption) ?_
          case refine_2 => ((intro w hSw; (try dsimp only at hSw); go_simp); try with_reducible rfl)
          try simp only [Act.put, List.setIfInBounds_toArray, List.set_cons_zero, List.set_cons_succ]
          refine wpAnyH_take (i := 4) (oi := { dst := some 49, op := _, type := _, pos := _, after := _, guard := _ }) (v := ?_) rfl (by kernel_rfl) (by kernel_rfl) (by kernel_rfl) (fun _ _ _ h => h) (Or.inl ⟨by rfl, ?_⟩) (by assumption) ?_
          case refine_2 => ((intro w hSw; (try dsimp only at hSw); go_simp); try with_reducible rfl)
          try simp only [Act.put, List.setIfInBounds_toArray, List.set_cons_zero, List.set_cons_succ]
          have hb7 := below_drewN (Below.alloc (Below.refl w6.heap.size w6) (Nat.le_refl _) (.cells #[.int .i64 (-1), .int .i64 100, .int .i64 99] 3)) 1
          have HD7 := Lib.hid (HD6.out.below hb7)
          have HL7 := Lib.hid (Own.lit3 w6 w.heap.size (-1) 100 99 HD6.out.size)
          have HM7 := Lib.hid (HM6.out.below hb7)
          have s7 := (hb7.cell (p := ⟨O, 0, none⟩) (HM6.out.owns O rfl).2).trans s0
          clear hb7
          have HDd := Lib.hid (HD6.out.below (below_drewN (Below.refl w6.heap.size w6) 1))
          have HMd := Lib.hid (HM6.out.drewN 1)
          have sd : (w6.drewN 1).cell? ⟨O, 0, none⟩ = some (.slice (some ⟨G, 0, none⟩) l0 cG) := s0
          refine wpAnyH_ready (rs := [3, 5]) (by kernel_rfl) (by simp) ?_
          refine AllReadyH.cons (o := { dst := some 48, op := _, type := _, pos := _, after := _, guard := _ }) rfl (fun K hK => ?_) (AllReadyH.cons (o := { dst := some 50, op := _, type := _, pos := _, after := _, guard := _ }) rfl (fun K hK => ?_) AllReadyH.nil)
          · skip
            go_simp
            refine hK.out _ _ (s7) (fun hHeld => ?_)
            clear hK K
            try simp only [Act.put, List.setIfInBounds_toArray, List.set_cons_zero, List.set_cons_succ]
            refine wpAnyH_ready (rs := [5]) (by kernel_rfl) (by simp) ?_
            refine AllReadyH.cons (o := { dst := some 50, op := _, type := _, pos := _, after := _, guard := _ }) rfl (fun K hK => ?_) AllReadyH.nil
            go_simp
            go_at_call 58
            refine (pickD w0 a m cap R (q + 1 + 5 * k + 1) 3 w _ HB.out hm HD7.out (by omega) (by omega) (by omega)).mono ?_
            rintro e w8 ⟨d2, hdd2, rfl, hd8⟩
            have HDx := Lib.hid (HD7.out.trans hd8)
            have HLx := Lib.hid ((HL7.out.drewN 1).over HD7.out hd8)
            have HMx := Lib.hid (HM7.out.over HD7.out hd8)
            have sx := (HM7.out.cell_over HD7.out hd8 0).trans s7
            clear hd8
            refine hK.out _ _ (sx) (fun hHeld => ?_)
            clear hK K
            try simp only [Act.put, List.setIfInBounds_toArray, List.set_cons_zero, List.set_cons_succ]
            obtain ⟨O2, cpo2, G2, cG2, hv2, t0, t1, t2, hOG2, hBG2, hGlt2, hOw2, hset2⟩ := HMx.out.reset hg0 (by have := HR0.out; omega)
            simp only [Value.slice.injEq, Option.some.injEq, Addr.mk.injEq, and_true] at hv2
            obtain ⟨rfl, -, rfl⟩ := hv2
            rw [sx] at t0
            simp only [Option.some.injEq, Value.slice.injEq, Addr.mk.injEq, and_true] at t0
            obtain ⟨rfl, -, rfl⟩ := t0
            have HSet := Lib.hid hset2
            have HOw := Lib.hid (show Own w8 w.heap.size _ (g.getD 0 []) from hOw2)
            have t3 : (0 : Int) ≤ (d2 : Int) := by omega
            have t4 : (d2 : Int) < 3 := by omega
            have t5 := HLx.out.cellAt d2 (by omega)
            obtain ⟨x, hx⟩ : ∃ x, x = ([-1, 100, 99] : List Int).getD d2 0 := ⟨_, rfl⟩
            rw [← hx] at t5
            obtain ⟨y, hy⟩ : ∃ y, y = (g.getD 0 []).getD 0 0 := ⟨_, rfl⟩
            rw [← hy] at t1
            clear hx hy hset2 hBG2 hOw2 hGlt2
            refine wpAnyH_take (i := 6) (oi := { dst := some 51, op := _, type := _, pos := _, after := _, guard := _ }) (v := ?_) rfl (by kernel_rfl) (by kernel_rfl) (by kernel_rfl) (fun _ _ _ h => h) (Or.inl ⟨by rfl, ?_⟩) (by assumption) ?_
            case refine_2 => ((intro w hSw; (try dsimp only at hSw); go_simp); try with_reducible rfl)
            try simp only [Act.put, List.setIfInBounds_toArray, List.set_cons_zero, List.set_cons_succ]
            refine wpAnyH_ready (rs := [7]) (by kernel_rfl) (by simp) ?_
            refine AllReadyH.cons (o := { dst := some 52, op := _, type := _, pos := _, after := _, guard := _ }) rfl (fun K hK => ?_) AllReadyH.nil
            go_simp
            refine hK.out _ _ (sx) (fun hHeld => ?_)
            clear hK K
            try simp only [Act.put, List.setIfInBounds_toArray, List.set_cons_zero, List.set_cons_succ]
            refine wpAnyH_take (i := 8) (oi := { dst := some 53, op := _, type := _, pos := _, after := _, guard := _ }) (v := ?_) rfl (by kernel_rfl) (by kernel_rfl) (by kernel_rfl) (fun _ _ _ h => h) (Or.inl ⟨by rfl, ?_⟩) (by assumption) ?_
            case refine_2 => ((intro w hSw; (try dsimp only at hSw); go_simp); try with_reducible rfl)
            try simp only [Act.put, List.setIfInBounds_toArray, List.set_cons_zero, List.set_cons_succ]
            refine wpAnyH_ready (rs := [9]) (by kernel_rfl) (by simp) ?_
            refine AllReadyH.cons (o := { dst := none, op := _, type := _, pos := _, after := _, guard := _ }) rfl (fun K hK => ?_) AllReadyH.nil
            go_simp
            refine hK.out _ _ ((by rw [← sx]; simp only [World.cell?, heap_setCell_other w8 ⟨G, 0, none⟩ O (.int .i64 x) hOG])) (fun hHeld => ?_)
            clear hK K
            try simp only [Act.put, List.setIfInBounds_toArray, List.set_cons_zero, List.set_cons_succ]
            refine wpAnyH_done (by kernel_rfl) ?_ _
            clear hHeld
            go_wp2
            go_ret
            have hst := HOw.out.store 0 x
            exact ⟨g.set 0 ((g.getD 0 []).set 0 x), _, _, rfl, by rw [List.length_set]; exact HGl2.out, rough_set (fun j hj => by have := HGr.out j hj; omega) (by rw [List.length_set]; have := HR0.out; omega) (by rw [List.length_set]; have := HR0.out; omega), HSet.out x, (HDx.out.own HOw.out hst.2).more (by omega)⟩
          · skip
            go_simp
            go_at_call 58
            refine (pickD w0 a m cap R (q + 1 + 5 * k + 1) 3 w _ HB.out hm HDd.out (by omega) (by omega) (by omega)).mono ?_
            rintro e w8 ⟨d2, hdd2, rfl, hd8⟩
            have HD8 := Lib.hid (HDd.out.trans hd8)
            have HM8 := Lib.hid (HMd.out.over HDd.out hd8)
            have s8 := (HMd.out.cell_over HDd.out hd8 0).trans sd
            clear hd8
            refine hK.out _ _ (s8) (fun hHeld => ?_)
            clear hK K
            try simp only [Act.put, List.setIfInBounds_toArray, List.set_cons_zero, List.set_cons_succ]
            have hb9 := Below.alloc (Below.refl w8.heap.size w8) (Nat.le_refl _) (.cells #[.int .i64 (-1), .int .i64 100, .int .i64 99] 3)
            have HDx := Lib.hid (HD8.out.below hb9)
            have HLx := Lib.hid (Own.lit3 w8 w.heap.size (-1) 100 99 HD8.out.size)
            have HMx := Lib.hid (HM8.out.below hb9)
            have s9 := (hb9.cell (p := ⟨O, 0, none⟩) (HM8.out.owns O rfl).2).trans s8
            have sx := s9
            clear hb9
            refine wpAnyH_ready (rs := [3]) (by kernel_rfl) (by simp) ?_
            refine AllReadyH.cons (o := { dst := some 48, op := _, type := _, pos := _, after := _, guard := _ }) rfl (fun K hK => ?_) AllReadyH.nil
            go_simp
            refine hK.out _ _ (sx) (fun hHeld => ?_)
            clear hK K
            try simp only [Act.put, List.setIfInBounds_toArray, List.set_cons_zero, List.set_cons_succ]
            obtain ⟨O2, cpo2, G2, cG2, hv2, t0, t1, t2, hOG2, hBG2, hGlt2, hOw2, hset2⟩ := HMx.out.reset hg0 (by have := HR0.out; omega)
            simp only [Value.slice.injEq, Option.some.injEq, Addr.mk.injEq, and_true] at hv2
            obtain ⟨rfl, -, rfl⟩ := hv2
            rw [sx] at t0
            simp only [Option.some.injEq, Value.slice.injEq, Addr.mk.injEq, and_true] at t0
            obtain ⟨rfl, -, rfl⟩ := t0
            have HSet := Lib.hid hset2
            have HOw := Lib.hid (show Own (w8.alloc (.cells #[.int .i64 (-1), .int .i64 100, .int .i64 99] 3)) w.heap.size _ (g.getD 0 []) from hOw2)
            have t3 : (0 : Int) ≤ (d2 : Int) := by omega
            have t4 : (d2 : Int) < 3 := by omega
            have t5 := HLx.out.cellAt d2 (by omega)
            obtain ⟨x, hx⟩ : ∃ x, x = ([-1, 100, 99] : List Int).getD d2 0 := ⟨_, rfl⟩
            rw [← hx] at t5
            obtain ⟨y, hy⟩ : ∃ y, y = (g.getD 0 []).getD 0 0 := ⟨_, rfl⟩
            rw [← hy] at t1
            clear hx hy hset2 hBG2 hOw2 hGlt2
            refine wpAnyH_take (i := 6) (oi := { dst := some 51, op := _, type := _, pos := _, after := _, guard := _ }) (v := ?_) rfl (by kernel_rfl) (by kernel_rfl) (by kernel_rfl) (fun _ _ _ h => h) (Or.inl ⟨by rfl, ?_⟩) (by assumption) ?_
            case refine_2 => ((intro w hSw; (try dsimp only at hSw); go_simp); try with_reducible rfl)
            try simp only [Act.put, List.setIfInBounds_toArray, List.set_cons_zero, List.set_cons_succ]
            refine wpAnyH_ready (rs := [7]) (by kernel_rfl) (by simp) ?_
            refine AllReadyH.cons (o := { dst := some 52, op := _, type := _, pos := _, after := _, guard := _ }) rfl (fun K hK => ?_) AllReadyH.nil
            go_simp
            refine hK.out _ _ (sx) (fun hHeld => ?_)
            clear hK K
            try simp only [Act.put, List.setIfInBounds_toArray, List.set_cons_zero, List.set_cons_succ]
            refine wpAnyH_take (i := 8) (oi := { dst := some 53, op := _, type := _, pos := _, after := _, guard := _ }) (v := ?_) rfl (by kernel_rfl) (by kernel_rfl) (by kernel_rfl) (fun _ _ _ h => h) (Or.inl ⟨by rfl, ?_⟩) (by assumption) ?_
            case refine_2 => ((intro w hSw; (try dsimp only at hSw); go_simp); try with_reducible rfl)
            try simp only [Act.put, List.setIfInBounds_toArray, List.set_cons_zero, List.set_cons_succ]
            refine wpAnyH_ready (rs := [9]) (by kernel_rfl) (by simp) ?_
            refine AllReadyH.cons (o := { dst := none, op := _, type := _, pos := _, after := _, guard := _ }) rfl (fun K hK => ?_) AllReadyH.nil
            go_simp
            refine hK.out _ _ ((by rw [← sx]; simp only [World.cell?, heap_setCell_other (w8.alloc (.cells #[.int .i64 (-1), .int .i64 100, .int .i64 99] 3)) ⟨G, 0, none⟩ O (.int .i64 x) hOG])) (fun hHeld => ?_)
            clear hK K
            try simp only [Act.put, List.setIfInBounds_toArray, List.set_cons_zero, List.set_cons_succ]
            refine wpAnyH_done (by kernel_rfl) ?_ _
            clear hHeld
            go_wp2
            go_ret
            have hst := HOw.out.store 0 x
            exact ⟨g.set 0 ((g.getD 0 []).set 0 x), _, _, rfl, by rw [List.length_set]; exact HGl2.out, rough_set (fun j hj => by have := HGr.out j hj; omega) (by rw [List.length_set]; have := HR0.out; omega) (by rw [List.length_set]; have := HR0.out; omega), HSet.out x, (HDx.out.own HOw.out hst.2).more (by omega)⟩
        · have b1 : ((d : Int) == 0) = false := by simp; omega
          by_cases d1 : d = 1
          · subst d1
            have e1 : (((1 : Nat) : Int) == 0) = false := by simp
            have e2 : (((1 : Nat) : Int) == 1) = true := by simp
            obtain ⟨O, cpo, u, hv, s0, hu, hBO, hset⟩ := HM6.out.relast hg0
            simp only [Value.slice.injEq] at hv
            obtain ⟨rfl, -, rfl⟩ := hv
            rw [HGl2.out] at s0 hu hset
            have HRl := Lib.hid (HGr.out (k - 1) (by have := HGl2.out; omega))
            have HU := Lib.hid hu
            obtain ⟨z, hz⟩ : ∃ z, z = g.getD (k - 1) [] := ⟨_, rfl⟩
            rw [← hz] at HU HRl
            obtain ⟨au, cu, rfl⟩ := HU.out.shape
            have HSet := Lib.hid hset
            have hlen : z.length ≤ 1099511627776 := by have := HRl.out; omega
            have hsz6 := HD6.out.size
            have j1 : (0 : Int) ≤ (k : Int) - 1 := by omega
            have j2 : (k : Int) - 1 < (k : Int) := by omega
            have j3 : ((k : Int) - 1).toNat = k - 1 := by omega
            clear hu hset hz
            go_wp2_with (at_builtin; refine append1 (by rfl) _ _ (by rfl) (w.heap.size) _ (z) (3) (by rfl) (by rfl) (HU.out) (hsz6) (hlen) ?_; intro v' w7 ho7 hg7; (have HO7 := Lib.hid ho7); (have HG7 := Lib.hid hg7); (obtain ⟨q1, q2, q3⟩ := HSet.out w7 v' (z ++ [3]) hg7 ho7); (have HQ := Lib.hid q3); (obtain ⟨a7, c7, rfl⟩ := ho7.shape); clear ho7 hg7 q3)
            go_ret
            exact ⟨g.set (k - 1) (z ++ [3]), _, _, rfl, by rw [List.length_set]; exact HGl2.out, rough_set (fun j hj => by have := HGr.out j hj; omega) (by simp) (by have := HRl.out; simp; omega), by have h := HQ.out; rw [List.length_append] at h; exact h, ((HD6.out.own HU.out HG7.out).setO hBO (HM6.out.ne_rd HD6.out) _ _).more (by omega)⟩
          · have b2 : ((d : Int) == 1) = false := by simp; omega
            go_wp2
            go_ret
            exact ⟨g, ao, co, rfl, HGl2.out, fun j hj => by have := HGr.out j hj; omega, HM6.out.mown, HD6.out.more (by omega)⟩
  · have b0 : ((c : Int) == 0) = false := by simp; omega
    have HHt := HO2
    have HDr := HD2
    have hHl : w.heap.size < w2.heap.size := (HO2.out.lt w.heap.size rfl).2
    clear HO2 HD2 hH
    have HO0 := Lib.hid (OutM.nil (w2) w.heap.size HDr.out.size)
    have HDo := Lib.hid (HDr.out.alloc (.cells #[] 28))
    have HHo := Lib.hid (HHt.out.alloc (.cells #[] 28))
    have HO0 := Lib.hid (HO0.out.lift (D' := ((w2).alloc (.cells #[] 28)).heap.size) (by simp) (Nat.le_refl _))
    have hHo : w.heap.size < ((w2).alloc (.cells #[] 28)).heap.size := by simp at hHl ⊢ <;> omega
    clear HHt HDr hHl
    go_wp2
    go_loopw [8, 9] (fun s i wr => ∃ (k : Nat) (g : List (List Int)), k ≤ rows ∧ i = .int .i64 k ∧ g.length = k ∧ (∀ j, j < g.length → 1 ≤ (g.getD j []).length ∧ (g.getD j []).length ≤ 5) ∧ OutM wr w.heap.size wr.heap.size s g ∧ Own wr w.heap.size (.slice (some ⟨w.heap.size, 0, none⟩) 8 8) [1, 2, 3, 4, 6, 9, 5, 2] ∧ w.heap.size < wr.heap.size ∧ Drawn w0 a m cap R w (q + 1 + 5 * k) wr) (fun _ i _ => rows - (intOf i).toNat)
    case atStart => exact ⟨0, [], Nat.zero_le _, rfl, rfl, fun j hj => by simp at hj, by have h := HO0.out;  exact h, HHo.out, hHo, HDo.out⟩
    case round =>
      clear HO0 HDo HHo hHo HD0
      obtain ⟨k, g, hk, rfl, hgl, hgr, hM, hHt, hHl, hD⟩ := hrel
      have HM := Lib.hid hM
      have HHt := Lib.hid hHt
      have HD := Lib.hid hD
      have HGl := Lib.hid hgl
      have HGr := Lib.hid hgr
      clear hM hHt hD hgl hgr
      obtain ⟨ao, co, rfl⟩ := HM.out.shape
      rw [HGl.out] at HM ⊢
      by_cases hlt : k < rows
      · have HI0 := Lib.hid (Own.emptyLit wr wr.heap.size (Nat.le_refl _))
        have HM1 := Lib.hid (HM.out.below (Below.alloc (Below.refl wr.heap.size wr) (Nat.le_refl _) (.cells #[] 3)))
        have HH1 := Lib.hid (HHt.out.alloc (.cells #[] 3))
        have HD1 := Lib.hid (HD.out.alloc (.cells #[] 3))
        have hsz0 := HD.out.size
        obtain ⟨D, hDe⟩ : ∃ D, D = wr.heap.size := ⟨_, rfl⟩
        have HDe := Lib.hid hDe
        have hHD : w.heap.size < D := by rw [hDe]; exact hHl
        rw [← hDe] at hsz0
        have hDl : D ≤ (wr.alloc (.cells #[] 3)).heap.size := by rw [hDe]; simp
        clear hDe hHl HM HHt HD
        go_wp2
        go_loopw [10, 11] (fun s i ws => ∃ (k2 : Nat) (z : List Int), k2 ≤ cols ∧ i = .int .i64 k2 ∧ z.length = k2 ∧ Own ws D s z ∧ OutM ws w.heap.size D (.slice ao k co) g ∧ Own ws w.heap.size (.slice (some ⟨w.heap.size, 0, none⟩) 8 8) [1, 2, 3, 4, 6, 9, 5, 2] ∧ D ≤ ws.heap.size ∧ Drawn w0 a m cap R w (q + 1 + 5 * k + k2) ws) (fun _ i _ => cols - (intOf i).toNat)
        case atStart => exact ⟨0, [], Nat.zero_le _, rfl, rfl, by rw [HDe.out]; exact HI0.out, by rw [HDe.out]; exact HM1.out, HH1.out, hDl, HD1.out⟩
        case round =>
          clear HI0 HM1 HH1 HD1 hDl
          obtain ⟨k2, z, hk2, rfl, hzl, hz, hM, hHt, hDs, hD⟩ := hrel
          have HZ := Lib.hid hz
          have HM := Lib.hid hM
          have HHt := Lib.hid hHt
          have HD := Lib.hid hD
          have HZl := Lib.hid hzl
          have hlen : z.length ≤ 1099511627776 := by omega
          clear hz hM hHt hD hzl
          by_cases hlt2 : k2 < cols
          · go_wp2_with fail
            refine (pickD w0 a m cap R (q + 1 + 5 * k + k2) 8 w _ HB.out hm HD.out (by omega) (by omega) (by omega)).mono ?_
            rintro e w6 ⟨d, hdd, rfl, hd6⟩
            have HD6 := Lib.hid (HD.out.trans hd6)
            have HZ6 := Lib.hid (HZ.out.over HD.out hd6)
            have HM6 := Lib.hid (HM.out.over HD.out hd6)
            have HH6 := Lib.hid (HHt.out.over HD.out hd6)
            have hDs6 := Nat.le_trans hDs hd6.size
            clear hd6 HZ HM HHt HD hDs
            have x1 := HH6.out.cellAt d (by omega)
            obtain ⟨x, hx⟩ : ∃ x, x = ([1, 2, 3, 4, 6, 9, 5, 2] : List Int).getD d 0 := ⟨_, rfl⟩
            rw [← hx] at x1
            clear hx
            have i1 : (0 : Int) ≤ (d : Int) := by omega
            have i2 : (d : Int) < 8 := by omega
            go_wp2_with (at_builtin; refine append1 (by rfl) _ _ (by rfl) (D) _ (z) (x) (by rfl) (by rfl) (HZ6.out) (hDs6) (hlen) ?_; intro v' w7 ho7 hg7; (have HO7 := Lib.hid ho7); (have HG7 := Lib.hid hg7); clear ho7 hg7)
            go_roundw
            case rel => exact ⟨k2 + 1, z ++ [x], by omega, by go_num, by have := HZl.out; simp; omega, HO7.out, HM6.out.grown HZ6.out HG7.out, HH6.out.apart HZ6.out HG7.out hHD, Nat.le_trans hDs6 HG7.out.size, HD6.out.own (HZ6.out.mono hsz0) HG7.out⟩
            case measure => simp [intOf]; omega
          · have hke : k2 = cols := by omega
            obtain ⟨ai, ci, rfl⟩ := HZ.out.shape
            have hsz2 := HD.out.size
            have hTl : g.length ≤ 1000000 := by have := HGl.out; omega
            have hB2 : w.heap.size ≤ wr.heap.size := hsz2
            go_wp2_with (at_builtin; refine appendM (by rfl) _ _ (by rfl) w.heap.size D _ g _ z (by rfl) (by rfl) HM.out HZ.out hB2 hTl ?_; intro v' w7 ho7 hg7; (have HO7 := Lib.hid ho7); (have HG7 := Lib.hid hg7); clear ho7 hg7)
            go_roundw
            case rel =>
              refine ⟨k + 1, g ++ [z], by omega, by go_num, by rw [List.length_append, HGl.out]; rfl, fun j hj => ?_, HO7.out.lift HG7.out.size (Nat.le_refl _), HHt.out.outM HM.out HG7.out, by have := HG7.out.size; omega, (HD.out.outM HM.out HG7.out).more (by omega)⟩
              rw [List.length_append] at hj
              simp only [List.length_cons, List.length_nil] at hj
              by_cases e : j < g.length
              · rw [show (g ++ [z]).getD j [] = g.getD j [] by simp [List.getD_eq_getElem?_getD, List.getElem?_append, e]]
                exact HGr.out j e
              · obtain rfl : j = g.length := by omega
                rw [show (g ++ [z]).getD g.length [] = z by simp [List.getD_eq_getElem?_getD]]
                have := HZl.out
                omega
            case measure => simp [intOf]; omega
      · have hke : k = rows := by omega
        have HGl2 := Lib.hid (show g.length = rows from HGl.out.trans hke)
        clear HGl
        obtain rfl := hke
        go_wp2_with fail
        refine (pickD w0 a m cap R (q + 1 + 5 * k) 60 w _ HB.out hm HD.out (by omega) (by omega) (by omega)).mono ?_
        rintro e w6 ⟨d, hdd, rfl, hd6⟩
        have HD6 := Lib.hid (HD.out.trans hd6)
        have HM6 := Lib.hid ((HM.out.over HD.out hd6).lift hd6.size (Nat.le_refl _))
        clear hd6 HD HM HHt hHl
        have hg0 : 0 < g.length := by have := HGl2.out; omega
        have HR0 := Lib.hid (HGr.out 0 hg0)
        by_cases d0 : d = 0
        · subst d0
          have b1 : (((0 : Nat) : Int) == 0) = true := by simp
          obtain ⟨O, cpo, G, cG, hv, s0, s1, s2, hOG, hBG, hGlt, hOw, hset⟩ := HM6.out.reset hg0 (by have := HR0.out; omega)
          simp only [Value.slice.injEq] at hv
          obtain ⟨rfl, -, rfl⟩ := hv
          obtain ⟨l0, hl0⟩ : ∃ l0, l0 = (g.getD 0 []).length := ⟨_, rfl⟩
          have hl1 : 1 ≤ l0 := by have := HR0.out; omega
          have hl2 : 0 < l0 := by omega
          have hk1 : 0 < k := by omega
          rw [← hl0] at s0
          have HL0 := Lib.hid hl0
          have HS0 := Lib.hid s0
          clear hl0 s1 s2 hBG hGlt hOw hset
          go_wp2 -- the region
          refine wp_region_held_drew (S := fun wx => wx.cell? ⟨O, 0, none⟩ = some (.slice (some ⟨G, 0, none⟩) l0 cG)) (by kernel_rfl) (s0) (fun hHeld => ?_)
          refine wpAnyH_take (i := 0) (oi := { dst := some 45, op := _, type := _, pos := _, after := _, guard := _ }) (v := ?_) rfl (by kernel_rfl) (by kernel_rfl) (by kernel_rfl) (fun _ _ _ h => h) (Or.inl ⟨by rfl, ?_⟩) (by assumption) ?_
          case refine_2 => ((intro w hSw; (try dsimp only at hSw); go_simp); try with_reducible rfl)
          try simp only [Act.put, List.setIfInBounds_toArray, List.set_cons_zero, List.set_cons_succ]
          refine wpAnyH_take (i := 1) (oi := { dst := some 46, op := _, type := _, pos := _, after := _, guard := _ }) (v := ?_) rfl (by kernel_rfl) (by kernel_rfl) (by kernel_rfl) (fun _ _ _ h => h) (Or.inl ⟨by rfl, ?_⟩) (by assumption) ?_
          case refine_2 => ((intro w hSw; (try dsimp only at hSw); go_simp); try with_reducible rfl)
          try simp only [Act.put, List.setIfInBounds_toArray, List.set_cons_zero, List.set_cons_succ]
          refine wpAnyH_take (i := 2) (oi := { dst := some 47, op := _, type := _, pos := _, after := _, guard := _ }) (v := ?_) rfl (by kernel_rfl) (by kernel_rfl) (by kernel_rfl) (fun _ _ _ h => h) (Or.inl ⟨by rfl, ?_⟩) (by assumption) ?_
          case refine_2 => ((intro w hSw; (try dsimp only at hSw); go_simp); try with_reducible rfl)
          try simp only [Act.put, List.setIfInBounds_toArray, List.set_cons_zero, List.set_cons_succ]
          refine wpAnyH_take (i := 4) (oi := { dst := some 49, op := _, type := _, pos := _, after := _, guard := _ }) (v := ?_) rfl (by kernel_rfl) (by kernel_rfl) (by kernel_rfl) (fun _ _ _ h => h) (Or.inl ⟨by rfl, ?_⟩) (by assumption) ?_
          case refine_2 => ((intro w hSw; (try dsimp only at hSw); go_simp); try with_reducible rfl)
          try simp only [Act.put, List.setIfInBounds_toArray, List.set_cons_zero, List.set_cons_succ]
          have hb7 := below_drewN (Below.alloc (Below.refl w6.heap.size w6) (Nat.le_refl _) (.cells #[.int .i64 (-1), .int .i64 100, .int .i64 99] 3)) 1
          have HD7 := Lib.hid (HD6.out.below hb7)
          have HL7 := Lib.hid (Own.lit3 w6 w.heap.size (-1) 100 99 HD6.out.size)
          have HM7 := Lib.hid (HM6.out.below hb7)
          have s7 := (hb7.cell (p := ⟨O, 0, none⟩) (HM6.out.owns O rfl).2).trans s0
          clear hb7
          have HDd := Lib.hid (HD6.out.below (below_drewN (Below.refl w6.heap.size w6) 1))
          have HMd := Lib.hid (HM6.out.drewN 1)
          have sd : (w6.drewN 1).cell? ⟨O, 0, none⟩ = some (.slice (some ⟨G, 0, none⟩) l0 cG) := s0
          refine wpAnyH_ready (rs := [3, 5]) (by kernel_rfl) (by simp) ?_
          refine AllReadyH.cons (o := { dst := some 48, op := _, type := _, pos := _, after := _, guard := _ }) rfl (fun K hK => ?_) (AllReadyH.cons (o := { dst := some 50, op := _, type := _, pos := _, after := _, guard := _ }) rfl (fun K hK => ?_) AllReadyH.nil)
          · skip
            go_simp
            refine hK.out _ _ (s7) (fun hHeld => ?_)
            clear hK K
            try simp only [Act.put, List.setIfInBounds_toArray, List.set_cons_zero, List.set_cons_succ]
            refine wpAnyH_ready (rs := [5]) (by kernel_rfl) (by simp) ?_
            refine AllReadyH.cons (o := { dst := some 50, op := _, type := _, pos := _, after := _, guard := _ }) rfl (fun K hK => ?_) AllReadyH.nil
            go_simp
            go_at_call 58
            refine (pickD w0 a m cap R (q + 1 + 5 * k + 1) 3 w _ HB.out hm HD7.out (by omega) (by omega) (by omega)).mono ?_
            rintro e w8 ⟨d2, hdd2, rfl, hd8⟩
            have HDx := Lib.hid (HD7.out.trans hd8)
            have HLx := Lib.hid ((HL7.out.drewN 1).over HD7.out hd8)
            have HMx := Lib.hid (HM7.out.over HD7.out hd8)
            have sx := (HM7.out.cell_over HD7.out hd8 0).trans s7
            clear hd8
            refine hK.out _ _ (sx) (fun hHeld => ?_)
            clear hK K
            try simp only [Act.put, List.setIfInBounds_toArray, List.set_cons_zero, List.set_cons_succ]
            obtain ⟨O2, cpo2, G2, cG2, hv2, t0, t1, t2, hOG2, hBG2, hGlt2, hOw2, hset2⟩ := HMx.out.reset hg0 (by have := HR0.out; omega)
            simp only [Value.slice.injEq, Option.some.injEq, Addr.mk.injEq, and_true] at hv2
            obtain ⟨rfl, -, rfl⟩ := hv2
            rw [sx] at t0
            simp only [Option.some.injEq, Value.slice.injEq, Addr.mk.injEq, and_true] at t0
            obtain ⟨rfl, -, rfl⟩ := t0
            have HSet := Lib.hid hset2
            have HOw := Lib.hid (show Own w8 w.heap.size _ (g.getD 0 []) from hOw2)
            have t3 : (0 : Int) ≤ (d2 : Int) := by omega
            have t4 : (d2 : Int) < 3 := by omega
            have t5 := HLx.out.cellAt d2 (by omega)
            obtain ⟨x, hx⟩ : ∃ x, x = ([-1, 100, 99] : List Int).getD d2 0 := ⟨_, rfl⟩
            rw [← hx] at t5
            obtain ⟨y, hy⟩ : ∃ y, y = (g.getD 0 []).getD 0 0 := ⟨_, rfl⟩
            rw [← hy] at t1
            clear hx hy hset2 hBG2 hOw2 hGlt2
            refine wpAnyH_take (i := 6) (oi := { dst := some 51, op := _, type := _, pos := _, after := _, guard := _ }) (v := ?_) rfl (by kernel_rfl) (by kernel_rfl) (by kernel_rfl) (fun _ _ _ h => h) (Or.inl ⟨by rfl, ?_⟩) (by assumption) ?_
            case refine_2 => ((intro w hSw; (try dsimp only at hSw); go_simp); try with_reducible rfl)
            try simp only [Act.put, List.setIfInBounds_toArray, List.set_cons_zero, List.set_cons_succ]
            refine wpAnyH_ready (rs := [7]) (by kernel_rfl) (by simp) ?_
            refine AllReadyH.cons (o := { dst := some 52, op := _, type := _, pos := _, after := _, guard := _ }) rfl (fun K hK => ?_) AllReadyH.nil
            go_simp
            refine hK.out _ _ (sx) (fun hHeld => ?_)
            clear hK K
            try simp only [Act.put, List.setIfInBounds_toArray, List.set_cons_zero, List.set_cons_succ]
            refine wpAnyH_take (i := 8) (oi := { dst := some 53, op := _, type := _, pos := _, after := _, guard := _ }) (v := ?_) rfl (by kernel_rfl) (by kernel_rfl) (by kernel_rfl) (fun _ _ _ h => h) (Or.inl ⟨by rfl, ?_⟩) (by assumption) ?_
            case refine_2 => ((intro w hSw; (try dsimp only at hSw); go_simp); try with_reducible rfl)
            try simp only [Act.put, List.setIfInBounds_toArray, List.set_cons_zero, List.set_cons_succ]
            refine wpAnyH_ready (rs := [9]) (by kernel_rfl) (by simp) ?_
            refine AllReadyH.cons (o := { dst := none, op := _, type := _, pos := _, after := _, guard := _ }) rfl (fun K hK => ?_) AllReadyH.nil
            go_simp
            refine hK.out _ _ ((by rw [← sx]; simp only [World.cell?, heap_setCell_other w8 ⟨G, 0, none⟩ O (.int .i64 x) hOG])) (fun hHeld => ?_)
            clear hK K
            try simp only [Act.put, List.setIfInBounds_toArray, List.set_cons_zero, List.set_cons_succ]
            refine wpAnyH_done (by kernel_rfl) ?_ _
            clear hHeld
            go_wp2
            go_ret
            have hst := HOw.out.store 0 x
            exact ⟨g.set 0 ((g.getD 0 []).set 0 x), _, _, rfl, by rw [List.length_set]; exact HGl2.out, rough_set (fun j hj => by have := HGr.out j hj; omega) (by rw [List.length_set]; have := HR0.out; omega) (by rw [List.length_set]; have := HR0.out; omega), HSet.out x, (HDx.out.own HOw.out hst.2).more (by omega)⟩
          · skip
            go_simp
            go_at_call 58
            refine (pickD w0 a m cap R (q + 1 + 5 * k + 1) 3 w _ HB.out hm HDd.out (by omega) (by omega) (by omega)).mono ?_
            rintro e w8 ⟨d2, hdd2, rfl, hd8⟩
            have HD8 := Lib.hid (HDd.out.trans hd8)
            have HM8 := Lib.hid (HMd.out.over HDd.out hd8)
            have s8 := (HMd.out.cell_over HDd.out hd8 0).trans sd
            clear hd8
            refine hK.out _ _ (s8) (fun hHeld => ?_)
            clear hK K
            try simp only [Act.put, List.setIfInBounds_toArray, List.set_cons_zero, List.set_cons_succ]
            have hb9 := Below.alloc (Below.refl w8.heap.size w8) (Nat.le_refl _) (.cells #[.int .i64 (-1), .int .i64 100, .int .i64 99] 3)
            have HDx := Lib.hid (HD8.out.below hb9)
            have HLx := Lib.hid (Own.lit3 w8 w.heap.size (-1) 100 99 HD8.out.size)
            have HMx := Lib.hid (HM8.out.below hb9)
            have s9 := (hb9.cell (p := ⟨O, 0, none⟩) (HM8.out.owns O rfl).2).trans s8
            have sx := s9
            clear hb9
            refine wpAnyH_ready (rs := [3]) (by kernel_rfl) (by simp) ?_
            refine AllReadyH.cons (o := { dst := some 48, op := _, type := _, pos := _, after := _, guard := _ }) rfl (fun K hK => ?_) AllReadyH.nil
            go_simp
            refine hK.out _ _ (sx) (fun hHeld => ?_)
            clear hK K
            try simp only [Act.put, List.setIfInBounds_toArray, List.set_cons_zero, List.set_cons_succ]
            obtain ⟨O2, cpo2, G2, cG2, hv2, t0, t1, t2, hOG2, hBG2, hGlt2, hOw2, hset2⟩ := HMx.out.reset hg0 (by have := HR0.out; omega)
            simp only [Value.slice.injEq, Option.some.injEq, Addr.mk.injEq, and_true] at hv2
            obtain ⟨rfl, -, rfl⟩ := hv2
            rw [sx] at t0
            simp only [Option.some.injEq, Value.slice.injEq, Addr.mk.injEq, and_true] at t0
            obtain ⟨rfl, -, rfl⟩ := t0
            have HSet := Lib.hid hset2
            have HOw := Lib.hid (show Own (w8.alloc (.cells #[.int .i64 (-1), .int .i64 100, .int .i64 99] 3)) w.heap.size _ (g.getD 0 []) from hOw2)
            have t3 : (0 : Int) ≤ (d2 : Int) := by omega
            have t4 : (d2 : Int) < 3 := by omega
            have t5 := HLx.out.cellAt d2 (by omega)
            obtain ⟨x, hx⟩ : ∃ x, x = ([-1, 100, 99] : List Int).getD d2 0 := ⟨_, rfl⟩
            rw [← hx] at t5
            obtain ⟨y, hy⟩ : ∃ y, y = (g.getD 0 []).getD 0 0 := ⟨_, rfl⟩
            rw [← hy] at t1
            clear hx hy hset2 hBG2 hOw2 hGlt2
            refine wpAnyH_take (i := 6) (oi := { dst := some 51, op := _, type := _, pos := _, after := _, guard := _ }) (v := ?_) rfl (by kernel_rfl) (by kernel_rfl) (by kernel_rfl) (fun _ _ _ h => h) (Or.inl ⟨by rfl, ?_⟩) (by assumption) ?_
            case refine_2 => ((intro w hSw; (try dsimp only at hSw); go_simp); try with_reducible rfl)
            try simp only [Act.put, List.setIfInBounds_toArray, List.set_cons_zero, List.set_cons_succ]
            refine wpAnyH_ready (rs := [7]) (by kernel_rfl) (by simp) ?_
            refine AllReadyH.cons (o := { dst := some 52, op := _, type := _, pos := _, after := _, guard := _ }) rfl (fun K hK => ?_) AllReadyH.nil
            go_simp
            refine hK.out _ _ (sx) (fun hHeld => ?_)
            clear hK K
            try simp only [Act.put, List.setIfInBounds_toArray, List.set_cons_zero, List.set_cons_succ]
            refine wpAnyH_take (i := 8) (oi := { dst := some 53, op := _, type := _, pos := _, after := _, guard := _ }) (v := ?_) rfl (by kernel_rfl) (by kernel_rfl) (by kernel_rfl) (fun _ _ _ h => h) (Or.inl ⟨by rfl, ?_⟩) (by assumption) ?_
            case refine_2 => ((intro w hSw; (try dsimp only at hSw); go_simp); try with_reducible rfl)
            try simp only [Act.put, List.setIfInBounds_toArray, List.set_cons_zero, List.set_cons_succ]
            refine wpAnyH_ready (rs := [9]) (by kernel_rfl) (by simp) ?_
            refine AllReadyH.cons (o := { dst := none, op := _, type := _, pos := _, after := _, guard := _ }) rfl (fun K hK => ?_) AllReadyH.nil
            go_simp
            refine hK.out _ _ ((by rw [← sx]; simp only [World.cell?, heap_setCell_other (w8.alloc (.cells #[.int .i64 (-1), .int .i64 100, .int .i64 99] 3)) ⟨G, 0, none⟩ O (.int .i64 x) hOG])) (fun hHeld => ?_)
            clear hK K
            try simp only [Act.put, List.setIfInBounds_toArray, List.set_cons_zero, List.set_cons_succ]
            refine wpAnyH_done (by kernel_rfl) ?_ _
            clear hHeld
            go_wp2
            go_ret
            have hst := HOw.out.store 0 x
            exact ⟨g.set 0 ((g.getD 0 []).set 0 x), _, _, rfl, by rw [List.length_set]; exact HGl2.out, rough_set (fun j hj => by have := HGr.out j hj; omega) (by rw [List.length_set]; have := HR0.out; omega) (by rw [List.length_set]; have := HR0.out; omega), HSet.out x, (HDx.out.own HOw.out hst.2).more (by omega)⟩
        · have b1 : ((d : Int) == 0) = false := by simp; omega
          by_cases d1 : d = 1
          · subst d1
            have e1 : (((1 : Nat) : Int) == 0) = false := by simp
            have e2 : (((1 : Nat) : Int) == 1) = true := by simp
            obtain ⟨O, cpo, u, hv, s0, hu, hBO, hset⟩ := HM6.out.relast hg0
            simp only [Value.slice.injEq] at hv
            obtain ⟨rfl, -, rfl⟩ := hv
            rw [HGl2.out] at s0 hu hset
            have HRl := Lib.hid (HGr.out (k - 1) (by have := HGl2.out; omega))
            have HU := Lib.hid hu
            obtain ⟨z, hz⟩ : ∃ z, z = g.getD (k - 1) [] := ⟨_, rfl⟩
            rw [← hz] at HU HRl
            obtain ⟨au, cu, rfl⟩ := HU.out.shape
            have HSet := Lib.hid hset
            have hlen : z.length ≤ 1099511627776 := by have := HRl.out; omega
            have hsz6 := HD6.out.size
            have j1 : (0 : Int) ≤ (k : Int) - 1 := by omega
            have j2 : (k : Int) - 1 < (k : Int) := by omega
            have j3 : ((k : Int) - 1).toNat = k - 1 := by omega
            clear hu hset hz
            go_wp2_with (at_builtin; refine append1 (by rfl) _ _ (by rfl) (w.heap.size) _ (z) (3) (by rfl) (by rfl) (HU.out) (hsz6) (hlen) ?_; intro v' w7 ho7 hg7; (have HO7 := Lib.hid ho7); (have HG7 := Lib.hid hg7); (obtain ⟨q1, q2, q3⟩ := HSet.out w7 v' (z ++ [3]) hg7 ho7); (have HQ := Lib.hid q3); (obtain ⟨a7, c7, rfl⟩ := ho7.shape); clear ho7 hg7 q3)
            go_ret
            exact ⟨g.set (k - 1) (z ++ [3]), _, _, rfl, by rw [List.length_set]; exact HGl2.out, rough_set (fun j hj => by have := HGr.out j hj; omega) (by simp) (by have := HRl.out; simp; omega), by have h := HQ.out; rw [List.length_append] at h; exact h, ((HD6.out.own HU.out HG7.out).setO hBO (HM6.out.ne_rd HD6.out) _ _).more (by omega)⟩
          · have b2 : ((d : Int) == 1) = false := by simp; omega
            go_wp2
            go_ret
            exact ⟨g, ao, co, rfl, HGl2.out, fun j hj => by have := HGr.out j hj; omega, HM6.out.mown, HD6.out.more (by omega)⟩

end Go.Proofs.Ytkhhloeemecokaa
