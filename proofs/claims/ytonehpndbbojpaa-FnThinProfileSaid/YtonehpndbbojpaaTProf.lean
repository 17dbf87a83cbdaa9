/- Contracts: ThinProfile of the program and of the reference. -/
import Derived.Test.YtonehpndbbojpaaTErr
namespace Go.Proofs.Ytonehpndbbojpaa
open Go.RowKit

noncomputable def tprofL (p l : List Int) : List Int := if thinB p l then l.map (fun x => p.getD x.toNat 0) else []
theorem tprofL_yes {p l : List Int} (h : thinB p l = true) : tprofL p l = l.map (fun x => p.getD x.toNat 0) := by simp [tprofL, h]
theorem tprofL_no {p l : List Int} (h : thinB p l = false) : tprofL p l = [] := by simp [tprofL, h]
theorem tprofL_len (p l : List Int) (h : l.length ≤ 1048576) : (tprofL p l).length ≤ 1048576 := by unfold tprofL; split <;> simp [h]
theorem take_map_step (l : List Int) (f : Int → Int) (m : Nat) (h : m < l.length) : (l.take (m + 1)).map f = (l.take m).map f ++ [f (l.getD m 0)] := by
  rw [List.take_succ_eq_append_getElem h, List.map_append]; simp [h]

set_option maxHeartbeats 400000 in
theorem itprof_any (v u : Value) (p l : List Int) (w : World) (hr : Row w v p) (hn : p.length ≤ 1099511627776) (hs : Row w u l) (hm : l.length ≤ 1099511627776) :
    Calls Try.prog 24 #[v, u] w (GivesRowB (tprofL p l) (thinB p l) w) := by
  have HV := Lib.hid (calls_below (ithinv_any v u p l w hr hn hs hm))
  cases hv : thinB p l
  · have HB := Lib.hid (tprofL_no hv)
    rw [hv] at HV
    clear hv
    go_enter Try.func24, Try.ntmps24
    go_wp2_with (go_at_call 18; refine HV.out.mono ?_; rintro e w' ⟨rfl, hb⟩)
    go_ret2
    rw [HB.out]
    exact GivesRowB.of (Own.nil _ _) hb
  · have HB := Lib.hid (tprofL_yes hv)
    rw [hv] at HV
    have hT := thinB_iff.1 hv
    have HT := Lib.hid hT
    have HSt := Lib.hid (fun wr (hb : Below w.heap.size w wr) => strung_any u l wr (hs.below hb) hm)
    obtain ⟨a, cap, rfl⟩ := hr.shape
    obtain ⟨-, hc⟩ := hr.cells
    have HNt := Lib.hid (fun (m : Nat) (h : m < l.length) => hT.nat h)
    obtain ⟨n, hN⟩ : ∃ n, n = p.length := ⟨_, rfl⟩
    rw [← hN] at hn hc HV HNt ⊢
    have HC := Lib.hid hc
    clear hr hs hv hT hc hN
    go_enter Try.func24, Try.ntmps24
    go_wp2_with (first | (go_at_call 18; refine HV.out.mono ?_; rintro e w1 ⟨rfl, hb⟩; (have HB1 := Lib.hid hb); (have HS1 := hb.size); clear hb) | (go_at_call 56; refine (HSt.out _ (Below.alloc HB1.out HS1 _)).mono ?_; rintro e w2 ⟨ks, t0, rfl, hks, -, hch, hb2⟩; (have HKs := Lib.hid hks); (have HCh := Lib.hid hch); (have HB2 := Lib.hid hb2); clear hks hch hb2))
    have HOw := Lib.hid (show Own w2 w.heap.size (.slice (some ⟨w1.heap.size, 0, none⟩) 0 0) [] from (Own.emptyLit w1 _ HS1).below HB2.out)
    have HBw := Lib.hid (show Below w.heap.size w w2 from (Below.alloc HB1.out HS1 _).trans (HB2.out.mono (by simp; omega)))
    have HCw := Lib.hid (HCh.out.mono (show w.heap.size ≤ _ by simp; omega))
    clear HB2 HCh
    go_loopg [6, 7] l.length (fun gk out k wr => ∃ (m : Nat) (t : Option Addr) (r : List (Nat × Int)), m ≤ l.length ∧ l.drop m = r.map Prod.snd ∧ gk = r.length ∧ k = .pointer t ∧ Chain wr w.heap.size r (.pointer t) ∧ Own wr w.heap.size out ((l.take m).map (fun x => p.getD x.toNat 0)) ∧ Below w.heap.size w wr)
    case atStart => exact ⟨0, t0, ks, Nat.zero_le _, by rw [HKs.out]; rfl, by rw [← HKs.out]; simp, rfl, HCw.out, HOw.out, HBw.out⟩
    case round =>
      clear HOw HBw HCw HKs HSt HV HB1
      obtain ⟨m, t, r, hml, hd, hgk, rfl, hch, ho, hb⟩ := hrel
      have hsz := hb.size
      have HO := Lib.hid ho; clear ho
      have HBe := Lib.hid hb; clear hb
      cases r with
      | nil =>
        have hle : l.length ≤ m := by
          have := congrArg List.length hd
          simp at this; omega
        have HL := Lib.hid (show (l.take m).map (fun x => p.getD x.toNat 0) = tprofL p l by rw [HB.out, List.take_of_length_le hle])
        have ht : t = none := by simpa [Chain] using hch
        subst ht
        clear hd hgk hch hle
        go_wp2
        go_ret2
        rw [← HL.out]
        exact GivesRowB.of HO.out HBe.out
      | cons k' r' =>
        obtain ⟨g, x⟩ := k'
        obtain ⟨h1, h2, t', hk, h7⟩ := hch
        simp only [Value.pointer.injEq] at h1
        subst h1
        simp only [List.map_cons] at hd
        obtain ⟨e1, e2, e3, e4⟩ := drop_cons_at hd
        obtain ⟨i, hi, hip⟩ := HNt.out m e1
        have HTk := Lib.hid (take_map_step l (fun x => p.getD x.toNat 0) m e1)
        rw [e2] at hi HTk
        subst hi
        obtain ⟨b, off, rfl, hc0⟩ := HC.out i hip
        have hcp := (HBe.out.cell (World.block_lt_of_cell? w _ hc0)).trans hc0
        obtain ⟨y, hY⟩ : ∃ y, y = p.getD i 0 := ⟨_, rfl⟩
        rw [Int.toNat_natCast] at HTk
        rw [← hY] at hcp HTk
        have k0 := hk.cell0
        have HKn := Lib.hid hk
        have H7 := Lib.hid h7
        have HD := Lib.hid e3
        have HG := Lib.hid hgk
        have hlen : ((l.take m).map (fun x => p.getD x.toNat 0)).length ≤ 1099511627776 := by simp; omega
        obtain ⟨L, hL⟩ : ∃ L, L = (l.take m).map (fun x => p.getD x.toNat 0) := ⟨_, rfl⟩
        rw [← hL] at HO HTk hlen
        clear hd hgk e2 e3 e4 hc0 hY hL hk h7
        go_wp2_with (at_builtin; refine append1 (by rfl) _ _ (by rfl) (w.heap.size) _ (L) (y) (by rfl) (by rfl) (HO.out) (hsz) (hlen) ?_; intro v' w3 ho3 hg3; (have k1 := (HKn.out.kept hg3 (HKn.out.not_own HO.out)).cell1))
        go_roundg r'.length
        case measure => rw [HG.out]; simp
        case rel => exact ⟨m + 1, t', r', by omega, HD.out, rfl, rfl, Chain.own HO.out hg3 H7.out, by rw [HTk.out]; exact ho3, below_own HBe.out HO.out hsz hg3⟩

set_option maxHeartbeats 400000 in
theorem stprof_any (v u : Value) (p l : List Int) (w : World) (hr : Row w v p) (hn : p.length ≤ 1099511627776) (hs : Row w u l) (hm : l.length ≤ 1099511627776) :
    Calls Try.prog 25 #[v, u] w (GivesRowB (tprofL p l) (thinB p l) w) := by
  have HV := Lib.hid (fun wr (hb : Below w.heap.size w wr) => calls_below (sthinv_any v u p l wr (hr.below hb) hn (hs.below hb) hm))
  have HNt := Lib.hid (fun (hT : thinB p l = true) (m : Nat) (h : m < l.length) => (thinB_iff.1 hT).nat h)
  have HY := Lib.hid (@tprofL_yes p l)
  have HNo := Lib.hid (@tprofL_no p l)
  obtain ⟨a, cap, rfl⟩ := hr.shape
  obtain ⟨-, hc⟩ := hr.cells
  obtain ⟨a2, cap2, rfl⟩ := hs.shape
  obtain ⟨-, hc2⟩ := hs.cells
  have HTk := Lib.hid (fun m h => take_map_step l (fun x => p.getD x.toNat 0) m h)
  have HTa := Lib.hid (show l.take l.length = l by simp)
  obtain ⟨n, hN⟩ : ∃ n, n = p.length := ⟨_, rfl⟩
  obtain ⟨n2, hN2⟩ : ∃ n, n = l.length := ⟨_, rfl⟩
  obtain ⟨B, hB⟩ : ∃ B, B = thinB p l := ⟨_, rfl⟩
  rw [← hB] at HV HNt HY HNo ⊢
  rw [← hN2] at hm hc2 HV HNt HTk HTa ⊢
  rw [← hN] at hn hc HV HNt ⊢
  have HC := Lib.hid hc
  have HC2 := Lib.hid hc2
  clear hr hs hc hc2 hN hN2 hB
  go_enter Try.func25, Try.ntmps25
  go_wp2
  go_loopw [6, 7] (fun out k wr => ∃ m : Nat, m ≤ n2 ∧ (B = true ∨ m = 0) ∧ k = .int .i64 m ∧ Own wr w.heap.size out ((l.take m).map (fun x => p.getD x.toNat 0)) ∧ Below w.heap.size w wr) (fun _ k _ => n2 - (intOf k).toNat)
  case atStart => exact ⟨0, Nat.zero_le _, .inr rfl, rfl, Own.emptyLit w _ (Nat.le_refl _), Below.alloc (Below.refl _ _) (Nat.le_refl _) _⟩
  case round =>
    obtain ⟨m, hml, hbm, rfl, ho, hb⟩ := hrel
    have hsz := hb.size
    have HO := Lib.hid ho; clear ho
    have HBe := Lib.hid hb; clear hb
    have HBM := Lib.hid hbm; clear hbm
    have V1 := Lib.hid (HV.out _ HBe.out)
    by_cases hlt : m < n2
    · cases B
      · have hm0 : m = 0 := HBM.out.resolve_left (by simp)
        subst hm0
        go_wp2_with fail
        refine V1.out.mono ?_
        rintro e w2 ⟨rfl, hb2⟩
        have HB2 := Lib.hid (HBe.out.trans (hb2.mono hsz))
        have HO2 := Lib.hid (HO.out.below hb2)
        clear hb2
        go_wp2_with fail
        refine (HV.out _ HB2.out).mono ?_
        rintro e w3 ⟨rfl, hb3⟩
        go_wp2
        go_ret2
        rw [HNo.out (by trivial)]
        exact GivesRowB.of (HO2.out.below hb3) (HB2.out.trans (hb3.mono HB2.out.size))
      · obtain ⟨i, hi, hip⟩ := HNt.out rfl m hlt
        obtain ⟨b, off, rfl, hc0⟩ := HC.out i hip
        obtain ⟨b2, off2, rfl, hc1⟩ := HC2.out m hlt
        have T := Lib.hid (HTk.out m hlt)
        rw [hi] at hc1
        rw [hi, Int.toNat_natCast] at T
        obtain ⟨y, hY⟩ : ∃ y, y = p.getD i 0 := ⟨_, rfl⟩
        rw [← hY] at hc0 T
        have hlen : ((l.take m).map (fun x => p.getD x.toNat 0)).length ≤ 1099511627776 := by simp; omega
        obtain ⟨L, hL⟩ : ∃ L, L = (l.take m).map (fun x => p.getD x.toNat 0) := ⟨_, rfl⟩
        rw [← hL] at HO T hlen
        clear hi hY hL
        have C0 := Lib.hid hc0
        have C1 := Lib.hid hc1
        clear hc0 hc1
        go_wp2_with fail
        refine V1.out.mono ?_
        rintro e w2 ⟨rfl, hb2⟩
        have HB2 := Lib.hid (HBe.out.trans (hb2.mono hsz))
        have HO2 := Lib.hid (HO.out.below hb2)
        have k0 := (HB2.out.cell (World.block_lt_of_cell? w _ C0.out)).trans C0.out
        have k1 := (HB2.out.cell (World.block_lt_of_cell? w _ C1.out)).trans C1.out
        have hsz2 := HB2.out.size
        clear hb2
        go_wp2_with (at_builtin; refine append1 (by rfl) _ _ (by rfl) (w.heap.size) _ (L) (y) (by rfl) (by rfl) (HO2.out) (hsz2) (hlen) ?_; intro v' w3 ho3 hg3)
        go_roundw
        case rel => exact ⟨m + 1, by omega, .inl (by trivial), by go_num, by rw [T.out]; exact ho3, below_own HB2.out HO2.out hsz2 hg3⟩
        case measure => simp [intOf]; omega
    · have hme : m = n2 := by omega
      subst hme
      go_wp2_with fail
      refine V1.out.mono ?_
      rintro e w2 ⟨rfl, hb2⟩
      go_wp2
      go_ret2
      have e1 : (l.take m).map (fun x => p.getD x.toNat 0) = tprofL p l := by
        rw [HTa.out]
        cases B
        · have hm0 : m = 0 := HBM.out.resolve_left (by simp)
          subst hm0
          have := HTa.out
          rw [List.take_zero] at this
          rw [HNo.out (by trivial), ← this]; rfl
        · rw [HY.out (by trivial)]
      refine GivesRowB.of ?_ (HBe.out.trans (hb2.mono hsz))
      rw [← e1]
      exact HO.out.below hb2

end Go.Proofs.Ytonehpndbbojpaa
