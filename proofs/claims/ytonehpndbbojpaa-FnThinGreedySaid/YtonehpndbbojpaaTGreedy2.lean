/- Contract: ThinGreedy of the program. -/
import Derived.Test.YtonehpndbbojpaaTGreedy
import Derived.Test.YtonehpndbbojpaaTJoin2
namespace Go.Proofs.Ytonehpndbbojpaa
open Go.RowKit

set_option maxHeartbeats 1000000 in
theorem itgreedy_any (v : Value) (p : List Int) (e : Int) (w : World) (hr : Row w v p) (hn : p.length ≤ 1099511627776) :
    Calls Try.prog 45 #[v, .int .i64 e] w (GivesRowB (tgreedyL p e) (fewB p e) w) := by
  have HV := Lib.hid (ivalid_any v p w hr hn)
  cases hv : validB p
  · have HB := Lib.hid (few_no1 (e := e) hv)
    rw [tgreedyL_no HB.out, HB.out]
    rw [hv] at HV
    clear hv
    go_enter Try.func45, Try.ntmps45
    go_wp2_with (go_at_call 52; refine HV.out.mono ?_; rintro e w' ⟨rfl, rfl⟩)
    go_ret2
    exact GivesRowB.nil w false
  · cases he : errB e
    · have HB := Lib.hid (few_no2 (p := p) he)
      rw [tgreedyL_no HB.out, HB.out]
      rw [hv] at HV
      clear hv
      go_enter Try.func45, Try.ntmps45
      go_wp2_with (first | (go_at_call 52; refine HV.out.mono ?_; rintro e w' ⟨rfl, rfl⟩) | (go_at_call 58; refine (iserr_any _ _).mono ?_; rintro e w' ⟨rfl, rfl⟩))
      go_ret2
      exact GivesRowB.nil w false
    · have he0 := (errB_bd he).1
      have hl := valid_len hv
      have HB := Lib.hid (few_yes hv he)
      rw [tgreedyL_yes HB.out, HB.out]
      have HG := Lib.hid (fun (i k : Nat) (wr : World) (hik : i ≤ k) (hk : k < p.length) (hb : Below w.heap.size w wr) => calls_below (span_any v p i k wr (hr.below hb) hv hik hk))
      have HNx := Lib.hid (fun i hi => @greL_step p e he0 i hi)
      have HHd := Lib.hid (fun i => greL_head p e i)
      have HLst := Lib.hid (fun i => @greL_last p e i)
      have HGl := Lib.hid (greL_len (p := p) he0 _ 0 rfl)
      rw [hv] at HV
      obtain ⟨a, cap, rfl⟩ := hr.shape
      obtain ⟨n, hN⟩ : ∃ n, n = p.length := ⟨_, rfl⟩
      rw [← hN] at hn hl HV HG HNx HLst HGl ⊢
      obtain ⟨l1, l2⟩ := hl
      clear hr hv hN
      go_enter Try.func45, Try.ntmps45
      go_wp2_with (first | (go_at_call 52; refine HV.out.mono ?_; rintro e w' ⟨rfl, rfl⟩) | (go_at_call 58; refine (iserr_any _ _).mono ?_; rintro e w' ⟨rfl, rfl⟩))
      go_loopg [7] n (fun gk s wr => ∃ (D : List (Nat × Int)) (g i : Nat), i < n ∧ gk = n - i ∧ s = .pointer (some ⟨g, 0, none⟩) ∧ Chain wr w.heap.size (D ++ [(g, (i : Int))]) (.pointer (some ⟨w.heap.size, 0, none⟩)) ∧ ((D ++ [(g, (i : Int))]).map Prod.fst).Nodup ∧ (D ++ [(g, (i : Int))]).map Prod.snd ++ (greL p e i).tail = greL p e 0 ∧ Below w.heap.size w wr)
      case atStart =>
        obtain ⟨t, ht⟩ := HHd.out 0
        exact ⟨[], w.heap.size, 0, by omega, by omega, rfl, Chain.cons (ks := []) rfl (Nat.le_refl _) 0, by simp, by rw [ht]; rfl, Below.alloc (Below.refl _ _) (Nat.le_refl _) _⟩
      case round =>
        obtain ⟨D, g, i, hin, hgk, rfl, hch, hnd, hsn, hbb⟩ := hrel
        have HCh := Lib.hid hch
        have HNd := Lib.hid hnd
        have HSn := Lib.hid hsn
        have HBe := Lib.hid hbb
        have HGk := Lib.hid hgk
        have hsz := HBe.out.size
        obtain ⟨u0, hk0, hcn⟩ := hch.at
        have eu : u0 = none := by simpa [Chain] using hcn
        subst eu
        have s0 := hk0.cell0
        have HK0 := Lib.hid hk0
        clear hgk hch hnd hsn hbb hcn hk0
        by_cases hlt : i + 1 < n
        · obtain ⟨kk, hk1, hk2, hkok, hkno, -, hk4⟩ := HNx.out i hlt
          have HOk := Lib.hid hkok
          have HNo := Lib.hid hkno
          have HK4 := Lib.hid hk4
          clear hkok hkno hk4
          have hlt' : (i : Int) < (n : Int) - 1 := by omega
          go_wp2
          obtain ⟨wo, rfl⟩ : ∃ wo : World, wo = wr := ⟨_, rfl⟩
          obtain ⟨gko, rfl⟩ : ∃ x : Nat, x = gk := ⟨_, rfl⟩
          go_loopg [8] n (fun gk s wr => ∃ k : Nat, kk ≤ k ∧ k < n ∧ gk = k + 1 ∧ s = .int .i64 k ∧ Below wo.heap.size wo wr)
          case atStart => exact ⟨n - 1, by omega, by omega, by omega, by rw [show ((n - 1 : Nat) : Int) = (n : Int) - 1 by omega], Below.refl _ _⟩
          case round =>
            obtain ⟨k, hkk, hkn, hgk2, rfl, hb⟩ := hrel
            have HBi := Lib.hid hb
            have HGk2 := Lib.hid hgk2
            clear hb hgk2
            have HBw := Lib.hid (HBe.out.trans (HBi.out.mono hsz))
            have hsi := HBi.out.size
            have c0 := (HK0.out.below HBi.out).cell0
            have G := Lib.hid (HG.out i k _ (by omega) hkn HBw.out)
            have NB := Lib.hid (show okB p e i k = decide (spanV p i k ≤ e) from rfl)
            have HOk' := Lib.hid (show k = kk → spanV p i k ≤ e from fun h => by have := HOk.out; rw [← h, NB.out] at this; simpa using this)
            have HNo' := Lib.hid (show kk < k → ¬ spanV p i k ≤ e from fun h => by have := HNo.out k h hkn; rw [NB.out] at this; simpa using this)
            obtain ⟨E, hE⟩ : ∃ E, E = spanV p i k := ⟨_, rfl⟩
            rw [← hE] at G HOk' HNo'
            clear hE NB
            by_cases hke : kk < k
            · have hle := HNo'.out hke
              go_wp2_with (go_at_call 57; refine G.out.mono ?_; rintro x w5 ⟨rfl, hb5⟩)
              go_roundg k
              case measure => have := HGk2.out; omega
              case rel => exact ⟨k - 1, by omega, by omega, by omega, by rw [show ((k - 1 : Nat) : Int) = (k : Int) - 1 by omega], HBi.out.trans (hb5.mono hsi)⟩
            · have hke2 : k = kk := by omega
              have hle := HOk'.out hke2
              subst hke2
              have HBg := Lib.hid ((HCh.out.lt g (by simp)).1)
              have hBg := HBg.out
              go_wp2_with (go_at_call 57; refine G.out.mono ?_; rintro x w5 ⟨rfl, hb5⟩; (have HBo := Lib.hid (HBi.out.trans (hb5.mono hsi))); (have k1 := (HK0.out.below HBo.out)); (have hk5 := k1.lt); (have f1 := k1.frozen 1); (have f2 := k1.cell1); clear hb5; (have HK1 := Lib.hid k1); clear k1)
              go_roundg (n - k)
              case measure => have := HGk.out; omega
              case rel =>
                have hs5 := HBo.out.size
                have hba := Below.alloc (Below.refl w5.heap.size w5) (Nat.le_refl _) (.cells #[.int .i64 (k : Int), .pointer none] 55)
                have hF := Chain.splice (B := w.heap.size) (r' := [(w5.heap.size, (k : Int))]) (u' := some ⟨w5.heap.size, 0, none⟩) ⟨rfl, by omega, none, KnotAt.new w5 (k : Int) none, rfl⟩ (by simp; omega) ((HCh.out.below HBo.out).below hba) (fun hmem => by
                  have := HNd.out
                  rw [List.map_append, List.nodup_append] at this
                  exact this.2.2 g hmem g (by simp) rfl)
                rw [World.setCell_alloc_past _ _ _ _ hk5] at hF
                refine ⟨D ++ [(g, (i : Int))], w5.heap.size, k, hkn, rfl, rfl, ?_, ?_, ?_, ?_⟩
                · rw [show D ++ [(g, (i : Int))] ++ [(w5.heap.size, (k : Int))] = D ++ (g, (i : Int)) :: [(w5.heap.size, (k : Int))] by simp]
                  exact hF
                · exact join_nodup HNd.out (fun x hx => Nat.lt_of_lt_of_le (HCh.out.lt x hx).2 hs5)
                · obtain ⟨t, ht⟩ := HHd.out k
                  rw [← HSn.out, HK4.out, ht]
                  simp
                · exact Below.alloc ((HBe.out.trans (HBo.out.mono hsz)).setCell (p := ⟨g, 1, none⟩) hBg _) (by simp; omega) _
        · have HE2 := Lib.hid (show (D ++ [(g, (i : Int))]).map Prod.snd = greL p e 0 by rw [← HSn.out, HLst.out i hlt]; simp)
          have hlen : (D ++ [(g, (i : Int))]).length ≤ 1099511627776 := by
            have h1 := congrArg List.length HE2.out
            have h2 := HGl.out
            rw [List.length_map] at h1
            omega
          have PT := Lib.hid (points_any _ _ _ _ HCh.out hlen)
          rw [HE2.out] at PT
          have hge : ¬ (i : Int) < (n : Int) - 1 := by omega
          clear hlen
          obtain ⟨Z, hZ⟩ : ∃ Z, Z = greL p e 0 := ⟨_, rfl⟩
          rw [← hZ] at PT
          have HZ := Lib.hid hZ
          clear hZ
          go_wp2_with (go_at_call 61; refine PT.out.mono ?_; rintro x w5 ⟨a5, cap5, rfl, ho5, hb5⟩)
          go_ret2
          rw [← HZ.out]
          exact GivesRowB.of (ho5.mono hsz) (HBe.out.trans (hb5.mono hsz))

end Go.Proofs.Ytonehpndbbojpaa
