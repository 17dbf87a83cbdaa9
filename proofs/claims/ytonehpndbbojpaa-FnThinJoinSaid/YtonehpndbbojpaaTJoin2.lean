/- Contract: ThinJoin of the program. -/
import Derived.Test.YtonehpndbbojpaaTJoin
namespace Go.Proofs.Ytonehpndbbojpaa
open Go.RowKit

theorem join_nodup {D : List (Nat × Int)} {g h : Nat} {x y : Int} (hn : ((D ++ [(g, x)]).map Prod.fst).Nodup) (hh : ∀ k ∈ (D ++ [(g, x)]).map Prod.fst, k < h) : ((D ++ [(g, x)] ++ [(h, y)]).map Prod.fst).Nodup := by
  rw [List.map_append, List.nodup_append]
  refine ⟨hn, by simp, ?_⟩
  intro k hk k' hk'
  simp at hk'
  have := hh k hk
  omega

set_option maxHeartbeats 1000000 in
theorem itjoin_no (v1 v2 v3 v4 : Value) (p a q b : List Int) (w : World) (hr1 : Row w v1 p) (hn1 : p.length ≤ 1099511627776) (hr2 : Row w v2 a) (hn2 : a.length ≤ 1099511627776) (hr3 : Row w v3 q) (hn3 : q.length ≤ 1099511627776) (hr4 : Row w v4 b) (hn4 : b.length ≤ 1099511627776)
    (hno : tjoinB p a q b = false) :
    Calls Try.prog 31 #[v1, v2, v3, v4] w (GivesRowB [] false w) := by
  have V1 := Lib.hid (calls_below (ithinv_any v1 v2 p a w hr1 hn1 hr2 hn2))
  have V2 := Lib.hid (fun wr (hb : Below w.heap.size w wr) => calls_below (ithinv_any v3 v4 q b wr (hr3.below hb) hn3 (hr4.below hb) hn4))
  cases h1 : thinB p a
  · rw [h1] at V1
    clear h1 hno
    go_enter Try.func31, Try.ntmps31
    go_wp2_with fail
    refine V1.out.mono ?_
    rintro e w1 ⟨rfl, hb1⟩
    have HB1 := Lib.hid hb1
    clear hb1
    go_wp2
    go_ret2
    exact GivesRowB.of (Own.nil _ _) HB1.out
  · cases h2 : thinB q b
    · rw [h1] at V1
      rw [h2] at V2
      clear h1 h2 hno
      go_enter Try.func31, Try.ntmps31
      go_wp2_with fail
      refine V1.out.mono ?_
      rintro e w1 ⟨rfl, hb1⟩
      have HB1 := Lib.hid hb1
      clear hb1
      go_wp2_with fail
      refine (V2.out _ HB1.out).mono ?_
      rintro e w2 ⟨rfl, hb2⟩
      have HB2 := Lib.hid (HB1.out.trans (hb2.mono HB1.out.size))
      clear hb2
      go_wp2
      go_ret2
      exact GivesRowB.of (Own.nil _ _) HB2.out
    · have t1 := thinB_iff.1 h1
      have t2 := thinB_iff.1 h2
      have l1 := valid_len t1.1
      have l3 := valid_len t2.1
      have HNo := Lib.hid (show ¬ ((p.length : Int) + q.length - 1 ≤ 20 ∧ p.getD (p.length - 1) 0 = q.getD 0 0) from fun h => by
        have := (@tjoinB_iff p a q b).2 ⟨h1, h2, h⟩
        rw [hno] at this; cases this)
      rw [h1] at V1
      rw [h2] at V2
      obtain ⟨a1, c1, rfl⟩ := hr1.shape
      obtain ⟨a3, c3, rfl⟩ := hr3.shape
      obtain ⟨-, C1⟩ := hr1.cells
      obtain ⟨-, C3⟩ := hr3.cells
      obtain ⟨b1, o1, rfl, k1⟩ := C1 (p.length - 1) (by omega)
      obtain ⟨b3, o3, rfl, k3⟩ := C3 0 (by omega)
      obtain ⟨n1, hN1⟩ : ∃ n, n = p.length := ⟨_, rfl⟩
      obtain ⟨n3, hN3⟩ : ∃ n, n = q.length := ⟨_, rfl⟩
      rw [← hN1] at l1 k1 V1 HNo ⊢
      rw [← hN3] at l3 V2 HNo ⊢
      clear C1 C3 hr1 hr2 hr3 hr4 t1 t2 h1 h2 hN1 hN3 hno hn1 hn2 hn3 hn4
      obtain ⟨l1a, l1b⟩ := l1
      obtain ⟨l3a, l3b⟩ := l3
      obtain ⟨x, hX⟩ : ∃ x, x = p.getD (n1 - 1) 0 := ⟨_, rfl⟩
      obtain ⟨y, hY⟩ : ∃ y, y = q.getD 0 0 := ⟨_, rfl⟩
      rw [← hX] at k1 HNo
      rw [← hY] at k3 HNo
      rw [Nat.add_zero] at k3
      clear hX hY
      have K1 := Lib.hid k1
      have K3 := Lib.hid k3
      clear k1 k3
      go_enter Try.func31, Try.ntmps31
      go_wp2_with fail
      refine V1.out.mono ?_
      rintro e w1 ⟨rfl, hb1⟩
      have HB1 := Lib.hid hb1
      clear hb1
      go_wp2_with fail
      refine (V2.out _ HB1.out).mono ?_
      rintro e w2 ⟨rfl, hb2⟩
      have HB2 := Lib.hid (HB1.out.trans (hb2.mono HB1.out.size))
      have k1 := (HB2.out.cell (World.block_lt_of_cell? w _ K1.out)).trans K1.out
      have k3 := (HB2.out.cell (World.block_lt_of_cell? w _ K3.out)).trans K3.out
      clear hb2
      have q1 : IntKind.i64.wrap ((n1 : Int) - 1 + n3) = (n1 : Int) - 1 + n3 := IntWalk.i64_in _ (by omega)
      have q4 : ((n1 : Int) - 1).toNat = n1 - 1 := by omega
      have q5 : (0 : Int) ≤ (n1 : Int) - 1 := by omega
      have q6 : (n1 : Int) - 1 < (n1 : Int) := by omega
      have q7 : (0 : Int) < (n3 : Int) := by omega
      have q8 : 0 < n3 := by omega
      by_cases hsum : 20 < (n1 : Int) - 1 + n3
      · go_wp2
        go_quiet (fail)
        clear q1 q4
        go_wp2
        go_ret2
        exact GivesRowB.of (Own.nil _ _) (below_drewN HB2.out _)
      · have hd : decide (20 < (n1 : Int) - 1 + n3) = false := by simpa using hsum
        have hb : (x != y) = true := by
          have := HNo.out
          simp only [bne_iff_ne, ne_eq]
          intro e
          exact this ⟨by omega, e⟩
        go_wp2
        go_quiet (fail)
        clear q1 q4
        go_wp2
        go_ret2
        exact GivesRowB.of (Own.nil _ _) (below_drewN HB2.out _)

set_option maxHeartbeats 1000000 in
theorem itjoin_yes (v1 v2 v3 v4 : Value) (p a q b : List Int) (w : World) (hr1 : Row w v1 p) (hn1 : p.length ≤ 1099511627776) (hr2 : Row w v2 a) (hn2 : a.length ≤ 1099511627776) (hr3 : Row w v3 q) (hn3 : q.length ≤ 1099511627776) (hr4 : Row w v4 b) (hn4 : b.length ≤ 1099511627776)
    (hyes : tjoinB p a q b = true) :
    Calls Try.prog 31 #[v1, v2, v3, v4] w (GivesRowB (a ++ (b.drop 1).map (fun x => x + ((p.length : Int) - 1))) true w) := by
  obtain ⟨h1, h2, hsum, hxy⟩ := tjoinB_iff.1 hyes
  have V1 := Lib.hid (calls_below (ithinv_any v1 v2 p a w hr1 hn1 hr2 hn2))
  have V2 := Lib.hid (fun wr (hb : Below w.heap.size w wr) => calls_below (ithinv_any v3 v4 q b wr (hr3.below hb) hn3 (hr4.below hb) hn4))
  have SA := Lib.hid (fun wr (hb : Below w.heap.size w wr) => strung_any v2 a wr (hr2.below hb) hn2)
  have SB := Lib.hid (fun wr (hb : Below w.heap.size w wr) => strung_any v4 b wr (hr4.below hb) hn4)
  rw [h1] at V1
  rw [h2] at V2
  have t1 := thinB_iff.1 h1
  have t2 := thinB_iff.1 h2
  have l1 := valid_len t1.1
  have l3 := valid_len t2.1
  have l2 := t1.2.1
  have l4 := t2.2.1
  have l2' := t1.len
  have l4' := t2.len
  have HBd := Lib.hid (fun m hm => t2.bd m hm)
  obtain ⟨a1, c1, rfl⟩ := hr1.shape
  obtain ⟨a3, c3, rfl⟩ := hr3.shape
  obtain ⟨-, C1⟩ := hr1.cells
  obtain ⟨-, C3⟩ := hr3.cells
  obtain ⟨b1, o1, rfl, k1⟩ := C1 (p.length - 1) (by omega)
  obtain ⟨b3, o3, rfl, k3⟩ := C3 0 (by omega)
  obtain ⟨n1, hN1⟩ : ∃ n, n = p.length := ⟨_, rfl⟩
  obtain ⟨n3, hN3⟩ : ∃ n, n = q.length := ⟨_, rfl⟩
  rw [← hN1] at l1 k1 V1 l2' hsum hxy ⊢
  rw [← hN3] at l3 V2 l4' hsum HBd ⊢
  clear C1 C3 hr1 hr2 hr3 hr4 t1 t2 h1 h2 hN1 hN3 hyes hn1 hn2 hn3 hn4
  obtain ⟨l1a, l1b⟩ := l1
  obtain ⟨l3a, l3b⟩ := l3
  rw [← hxy] at k3
  clear hxy
  obtain ⟨x, hX⟩ : ∃ x, x = p.getD (n1 - 1) 0 := ⟨_, rfl⟩
  rw [← hX] at k1 k3
  rw [Nat.add_zero] at k3
  clear hX
  have K1 := Lib.hid k1
  have K3 := Lib.hid k3
  clear k1 k3
  go_enter Try.func31, Try.ntmps31
  go_wp2_with fail
  refine V1.out.mono ?_
  rintro e w1 ⟨rfl, hb1⟩
  have HB1 := Lib.hid hb1
  clear hb1
  go_wp2_with fail
  refine (V2.out _ HB1.out).mono ?_
  rintro e w2 ⟨rfl, hb2⟩
  have HB2 := Lib.hid (HB1.out.trans (hb2.mono HB1.out.size))
  have k1 := (HB2.out.cell (World.block_lt_of_cell? w _ K1.out)).trans K1.out
  have k3 := (HB2.out.cell (World.block_lt_of_cell? w _ K3.out)).trans K3.out
  clear hb2
  have q1 : IntKind.i64.wrap ((n1 : Int) - 1 + n3) = (n1 : Int) - 1 + n3 := IntWalk.i64_in _ (by omega)
  have q4 : ((n1 : Int) - 1).toNat = n1 - 1 := by omega
  have q5 : (0 : Int) ≤ (n1 : Int) - 1 := by omega
  have q6 : (n1 : Int) - 1 < (n1 : Int) := by omega
  have q7 : (0 : Int) < (n3 : Int) := by omega
  have q8 : 0 < n3 := by omega
  have hd : decide (20 < (n1 : Int) - 1 + n3) = false := by simp; omega
  have hb : (x != x) = false := by simp
  go_wp2
  go_quiet (fail)
  obtain ⟨W, hW⟩ : ∃ W, W = w2.drewN nq := ⟨_, rfl⟩
  have HBW := Lib.hid (show Below w.heap.size w W by rw [hW]; exact below_drewN HB2.out _)
  rw [← hW]
  clear hW hd q1 q4 hb k1 k3 HB1 HB2 K1 K3 V1 V2
  go_wp2_with fail
  refine (SA.out _ HBW.out).mono ?_
  rintro e w3 ⟨ks, t0, rfl, hks, hnd, hch, hb3⟩
  have HKs := Lib.hid hks
  have HNd := Lib.hid hnd
  have HB3 := Lib.hid (HBW.out.trans (hb3.mono HBW.out.size))
  have HCh := Lib.hid (hch.mono HBW.out.size)
  clear hks hnd hch hb3 HBW SA
  have hlk : ks.length = a.length := by rw [← HKs.out]; simp
  have HLk := Lib.hid hlk
  clear hlk
  go_wp2_with fail
  go_loopg [12] ks.length (fun gk s wr => ∃ (m : Nat) (t : Option Addr), m < ks.length ∧ gk = ks.length - m ∧ s = .pointer t ∧ Chain w3 w.heap.size (ks.drop m) (.pointer t) ∧ wr = w3)
  case atStart => exact ⟨0, t0, by have := HLk.out; omega, by omega, rfl, HCh.out, rfl⟩
  case round =>
    obtain ⟨m, t, hm, hgk, rfl, hch, rfl⟩ := hrel
    obtain ⟨g, x0, hdx, htx⟩ := drop_ex ks m hm
    rw [hdx] at hch
    obtain ⟨e1, e2, t', hkn, h7⟩ := hch
    simp only [Value.pointer.injEq] at e1
    subst e1
    have d1 := hkn.cell1
    have HKn := Lib.hid hkn
    have HG := Lib.hid hgk
    clear hkn hgk
    by_cases hlast : m + 1 < ks.length
    · obtain ⟨g', x', hdx', -⟩ := drop_ex ks (m + 1) hlast
      have H7 := Lib.hid h7
      rw [hdx'] at h7
      have e3 := h7.1
      simp only [Value.pointer.injEq] at e3
      subst e3
      clear h7 hdx hdx' htx
      go_wp2
      go_roundg (ks.length - (m + 1))
      case measure => rw [HG.out]; omega
      case rel => exact ⟨m + 1, _, hlast, rfl, rfl, H7.out, rfl⟩
    · have hme : ks.length = m + 1 := by omega
      have hdz : ks.drop (m + 1) = [] := List.drop_of_length_le (by omega)
      rw [hdz] at h7 hdx
      clear hdz
      have e3 : t' = none := by simpa [Chain] using h7
      subst e3
      have hks : ks = ks.take m ++ [(g, x0)] := by rw [← hdx, List.take_append_drop]
      have H0 := Lib.hid (show Chain wr w.heap.size (ks.take m ++ [(g, x0)]) (.pointer t0) by rw [← hks]; exact HCh.out)
      have Hn := Lib.hid (show ((ks.take m ++ [(g, x0)]).map Prod.fst).Nodup by rw [← hks]; exact HNd.out)
      have Hs := Lib.hid (show (ks.take m ++ [(g, x0)]).map Prod.snd = a by rw [← hks]; exact HKs.out)
      obtain ⟨D, hD⟩ : ∃ D, D = ks.take m := ⟨_, rfl⟩
      rw [← hD] at H0 Hn Hs
      clear hks hD hdx htx hme hlast h7 HCh HNd HKs HLk
      have HSB := Lib.hid (SB.out _ HB3.out)
      go_wp2_with fail
      refine HSB.out.mono ?_
      rintro e w4 ⟨kb, tb, rfl, hkb, -, hcb, hb4⟩
      have HB4 := Lib.hid (HB3.out.trans (hb4.mono HB3.out.size))
      have H04 := Lib.hid (H0.out.below hb4)
      have hlt4 := hb4.size
      obtain ⟨b0, rb, rfl⟩ : ∃ b0 rb, kb = b0 :: rb := by
        cases kb with
        | nil => rw [← hkb] at l4; simp at l4
        | cons b0 rb => exact ⟨b0, rb, rfl⟩
      obtain ⟨g0, y0⟩ := b0
      obtain ⟨f1, f2, tr, f3, f4⟩ := hcb
      simp only [Value.pointer.injEq] at f1
      subst f1
      have f5 := f3.cell1
      have HCb := Lib.hid f4
      have HKb := Lib.hid hkb
      have HGlt := Lib.hid (H0.out.lt)
      clear hb4 hkb f3 f4 HSB SB
      go_wp2
      obtain ⟨wo, rfl⟩ : ∃ wo : World, wo = wr := ⟨_, rfl⟩
      obtain ⟨H2, hH2⟩ : ∃ H, H = wo.heap.size := ⟨_, rfl⟩
      obtain ⟨H3, hH3⟩ : ∃ H, H = w4.heap.size := ⟨_, rfl⟩
      have HG1 := Lib.hid (show ∀ h ∈ (D ++ [(g, x0)]).map Prod.fst, h < H2 ∨ H3 ≤ h from fun h hh => by rw [hH2]; exact .inl (HGlt.out h hh).2)
      have HG2 := Lib.hid (show ∀ h ∈ rb.map Prod.fst, H2 ≤ h ∧ h < H3 from fun h hh => by rw [hH2, hH3]; exact HCb.out.lt h hh)
      have HG3 := Lib.hid (show H3 ≤ w4.heap.size by omega)
      have HCb' := Lib.hid (HCb.out.mono HB3.out.size)
      have HKb' := Lib.hid (show b.drop 1 = rb.map Prod.snd by rw [← HKb.out]; rfl)
      clear hH2 hH3 HGlt HCb HKb HKn d1 f5 f2 H0 HB3 HG hlt4
      go_loopg [12, 13] rb.length (fun gk s k wr => ∃ (D : List (Nat × Int)) (g : Nat) (x : Int) (rs : List (Nat × Int)) (t : Option Addr) (c : Nat), gk = rs.length ∧ s = .pointer (some ⟨g, 0, none⟩) ∧ k = .pointer t ∧ Chain wr w.heap.size (D ++ [(g, x)]) (.pointer t0) ∧ ((D ++ [(g, x)]).map Prod.fst).Nodup ∧ (∀ h ∈ (D ++ [(g, x)]).map Prod.fst, h < H2 ∨ H3 ≤ h) ∧ Chain wr w.heap.size rs (.pointer t) ∧ (∀ h ∈ rs.map Prod.fst, H2 ≤ h ∧ h < H3) ∧ 1 ≤ c ∧ b.drop c = rs.map Prod.snd ∧ (D ++ [(g, x)]).map Prod.snd = a ++ ((b.take c).drop 1).map (fun x => x + ((n1 : Int) - 1)) ∧ Below w.heap.size w wr ∧ H3 ≤ wr.heap.size)
      case atStart => exact ⟨D, g, x0, rb, tr, 1, rfl, rfl, rfl, H04.out, Hn.out, HG1.out, HCb'.out, HG2.out, Nat.le_refl _, HKb'.out, by rw [Hs.out]; simp, HB4.out, HG3.out⟩
      case round =>
        clear H04 HCb' HB4 HG1 HG2 HG3 HKb' Hn Hs
        obtain ⟨D, g, x0, rs, t, c, hgk, rfl, rfl, hch, hnd, hg1, hcr, hg2, hc1, hdb, hsn, hbb, hH⟩ := hrel
        have HCh := Lib.hid hch
        have HNd := Lib.hid hnd
        have HG1 := Lib.hid hg1
        have HG2 := Lib.hid hg2
        have HSn := Lib.hid hsn
        have HBe := Lib.hid hbb
        have HGk := Lib.hid hgk
        clear hg1 hg2 hsn hbb hgk
        have hsz := HBe.out.size
        cases rs with
        | nil =>
          have et : t = none := by simpa [Chain] using hcr
          subst et
          have hle : b.length ≤ c := by
            have := congrArg List.length hdb
            simp at this; omega
          have hlen : (D ++ [(g, x0)]).length ≤ 1099511627776 := by
            have := congrArg List.length HSn.out
            simp at this
            simp; omega
          have PT := Lib.hid (points_any _ _ _ _ hch hlen)
          have HR := Lib.hid (show (D ++ [(g, x0)]).map Prod.snd = a ++ (b.drop 1).map (fun x => x + ((n1 : Int) - 1)) by rw [HSn.out, List.take_of_length_le hle])
          obtain ⟨Z, hZ⟩ : ∃ Z, Z = (D ++ [(g, x0)]).map Prod.snd := ⟨_, rfl⟩
          rw [← hZ] at PT HR
          clear hch hnd hcr hdb hle hlen hZ
          go_wp2_with (go_at_call 61; refine PT.out.mono ?_; rintro e w5 ⟨a5, cap5, rfl, ho5, hb5⟩)
          go_ret2
          rw [← HR.out]
          exact GivesRowB.of (ho5.mono hsz) (HBe.out.trans (hb5.mono hsz))
        | cons k' r' =>
          obtain ⟨g', x'⟩ := k'
          obtain ⟨f1, f2, t', f3, f4⟩ := hcr
          simp only [Value.pointer.injEq] at f1
          subst f1
          obtain ⟨u0, hk0, hcn⟩ := hch.at
          have eu : u0 = none := by simpa [Chain] using hcn
          subst eu
          simp only [List.map_cons] at hdb
          obtain ⟨i1, i2, i3, i4⟩ := drop_cons_at hdb
          have hbd := HBd.out c i1
          rw [i2] at hbd
          obtain ⟨bd0, bd1⟩ := hbd
          have hg' := HG2.out g' (by simp)
          have hgg := HG1.out g (by simp)
          have hne : g' ≠ g := by omega
          have hne2 : g ≠ wr.heap.size := by have := hk0.lt; omega
          have hBg := (HCh.out.lt g (by simp)).1
          have JS := Lib.hid (join_step b (fun x => x + ((n1 : Int) - 1)) c hc1 i1)
          rw [i2] at JS
          -- the new world
          have hnew := KnotAt.new wr ((n1 : Int) - 1 + x') none
          have hba := Below.alloc (Below.refl wr.heap.size wr) (Nat.le_refl _) (.cells #[.int .i64 ((n1 : Int) - 1 + x'), .pointer none] 55)
          have hk1 := hk0.below hba
          have f3' := f3.below hba
          have hst := hk1.store (some ⟨wr.heap.size, 0, none⟩)
          have hgr := grown_setCell (wr.alloc (.cells #[.int .i64 ((n1 : Int) - 1 + x'), .pointer none] 55)) g 1 (.pointer (some ⟨wr.heap.size, 0, none⟩))
          have f3'' := f3'.kept hgr (fun e => hne (by simpa using e.symm))
          have HF1 := Lib.hid (Chain.splice (r' := [(wr.heap.size, (n1 : Int) - 1 + x')]) (u' := some ⟨wr.heap.size, 0, none⟩) ⟨rfl, by omega, none, hnew, rfl⟩ (by simp; omega) (HCh.out.below hba) (fun hmem => by
            have := HNd.out
            rw [List.map_append, List.nodup_append] at this
            exact this.2.2 g hmem g (by simp) rfl))
          have HF2 := Lib.hid ((f4.below hba).kept hgr (fun h hh e => by
            have h1 := HG2.out h (by simp at hh ⊢; exact .inr hh)
            simp only [Option.some.injEq] at e
            omega))
          have HFB := Lib.hid ((Below.alloc HBe.out hsz (.cells #[.int .i64 ((n1 : Int) - 1 + x'), .pointer none] 55)).setCell (p := ⟨g, 1, none⟩) hBg (.pointer (some ⟨wr.heap.size, 0, none⟩)))
          have s0 := f3.cell0
          have s1 := hk1.cell1
          have s2 := hk1.frozen 1
          have s3 := hst.cell1
          have s4 := f3''.cell1
          have HD := Lib.hid i3
          clear hnew hba hk1 f3' hst hgr f3'' hk0 f3 f4 hch hnd hcn hdb i1 i2 i3 i4
          go_wp2
          go_roundg r'.length
          case measure => rw [HGk.out]; simp
          case rel =>
            refine ⟨D ++ [(g, x0)], wr.heap.size, (n1 : Int) - 1 + x', r', t', c + 1, rfl, rfl, rfl, ?_, ?_, ?_, HF2.out, ?_, by omega, HD.out, ?_, HFB.out, by simp; omega⟩
            · have := HF1.out
              rw [show D ++ [(g, x0)] ++ [(wr.heap.size, (n1 : Int) - 1 + x')] = D ++ (g, x0) :: [(wr.heap.size, (n1 : Int) - 1 + x')] by simp]
              exact this
            · exact join_nodup HNd.out (fun k hk => (HCh.out.lt k hk).2)
            · intro h hh
              rw [List.map_append, List.mem_append] at hh
              rcases hh with hh | hh
              · exact HG1.out h hh
              · simp at hh; omega
            · intro h hh
              exact HG2.out h (by simp at hh ⊢; exact .inr hh)
            · rw [List.map_append, HSn.out, JS.out, ← List.append_assoc]
              simp
              omega

theorem itjoin_any (v1 v2 v3 v4 : Value) (p a q b : List Int) (w : World) (hr1 : Row w v1 p) (hn1 : p.length ≤ 1099511627776) (hr2 : Row w v2 a) (hn2 : a.length ≤ 1099511627776) (hr3 : Row w v3 q) (hn3 : q.length ≤ 1099511627776) (hr4 : Row w v4 b) (hn4 : b.length ≤ 1099511627776) :
    Calls Try.prog 31 #[v1, v2, v3, v4] w (GivesRowB (tjoinL p a q b) (tjoinB p a q b) w) := by
  cases h : tjoinB p a q b
  · rw [tjoinL_no h]; exact itjoin_no v1 v2 v3 v4 p a q b w hr1 hn1 hr2 hn2 hr3 hn3 hr4 hn4 h
  · rw [tjoinL_yes h]; exact itjoin_yes v1 v2 v3 v4 p a q b w hr1 hn1 hr2 hn2 hr3 hn3 hr4 hn4 h

end Go.Proofs.Ytonehpndbbojpaa
