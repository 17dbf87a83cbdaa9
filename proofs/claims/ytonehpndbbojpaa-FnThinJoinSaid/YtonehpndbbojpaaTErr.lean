/- Contracts: ThinError, ThinKeeps of the program and of the reference. -/
import Derived.Test.YtonehpndbbojpaaThinV
import Derived.Test.YtonehpndbbojpaaSpan
import Derived.Test.YtonehpndbbojpaaKnot
namespace Go.Proofs.Ytonehpndbbojpaa
open Go.RowKit

theorem drop_cons_at {l : List Int} {m : Nat} {x : Int} {t : List Int} (h : l.drop m = x :: t) : m < l.length ∧ l.getD m 0 = x ∧ l.drop (m + 1) = t ∧ l.length = m + 1 + t.length := by
  have hm : m < l.length := by
    rcases Nat.lt_or_ge m l.length with h1 | h1
    · exact h1
    · rw [List.drop_of_length_le h1] at h; cases h
  rw [List.drop_eq_getElem_cons hm] at h
  simp only [List.cons.injEq] at h
  refine ⟨hm, by simp [hm, h.1], h.2, ?_⟩
  have := congrArg List.length h.2
  rw [List.length_drop] at this
  omega

theorem Thin.nat {p l : List Int} (h : Thin p l) {m : Nat} (hm : m < l.length) : ∃ i : Nat, l.getD m 0 = i ∧ i < p.length := by
  have b := h.bd m hm
  exact ⟨(l.getD m 0).toNat, by omega, by omega⟩
theorem Thin.step {p l : List Int} (h : Thin p l) {m : Nat} (hm : m + 1 < l.length) : l.getD m 0 < l.getD (m + 1) 0 := by
  have := h.2.2.2.2 (m + 1) (by omega) hm
  simpa using this

set_option maxHeartbeats 400000 in
theorem iterr_any (v u : Value) (p l : List Int) (w : World) (hr : Row w v p) (hn : p.length ≤ 1099511627776) (hs : Row w u l) (hm : l.length ≤ 1099511627776) :
    Calls Try.prog 21 #[v, u] w fun e w' => e = .returned (.int .i64 (thinE p l)) ∧ Below w.heap.size w w' := by
  have HV := Lib.hid (calls_below (ithinv_any v u p l w hr hn hs hm))
  cases hv : thinB p l
  · have HB := Lib.hid (thinE_no hv)
    rw [hv] at HV
    clear hv
    go_enter Try.func21, Try.ntmps21
    go_wp2_with (go_at_call 18; refine HV.out.mono ?_; rintro e w' ⟨rfl, hb⟩)
    go_ret
    exact ⟨ret_int HB.out.symm, hb⟩
  · have HB := Lib.hid (thinE_yes hv)
    rw [hv] at HV
    have hT := thinB_iff.1 hv
    have HT := Lib.hid hT
    have hvp := hT.1
    have HSt := Lib.hid (fun wr (hb : Below w.heap.size w wr) => strung_any u l wr (hs.below hb) hm)
    have HG := Lib.hid (fun (i k : Nat) (wr : World) (hik : i ≤ k) (hk : k < p.length) (hb : Below w.heap.size w wr) => span_any v p i k wr (hr.below hb) hvp hik hk)
    have HR := Lib.hid (fun m => thinR_bd hvp l m)
    have HE := Lib.hid (fun i k => spanV_bd hvp i k)
    have HS := Lib.hid (fun m => thinR_succ p l (m + 1) (by omega))
    have h0 := hT.2.1
    clear hr hs hv hT hvp
    go_enter Try.func21, Try.ntmps21
    go_wp2_with (first | (go_at_call 18; refine HV.out.mono ?_; rintro e w1 ⟨rfl, hb⟩; (have HB1 := Lib.hid hb); clear hb) | (go_at_call 56; refine (HSt.out _ HB1.out).mono ?_; rintro e w2 ⟨ks, t0, rfl, hks, -, hch, hb2⟩; (have HKs := Lib.hid hks); (have HCh := Lib.hid hch); (have HB2 := Lib.hid (HB1.out.trans (hb2.mono HB1.out.size))); (have HS1 := HB1.out.size); clear hks hch hb2))
    go_loopg [5, 6] l.length (fun gk s k wr => ∃ (m g : Nat) (x : Int) (r : List (Nat × Int)), l.drop m = x :: r.map Prod.snd ∧ gk = r.length + 1 ∧ k = .pointer (some ⟨g, 0, none⟩) ∧ Chain wr w.heap.size ((g, x) :: r) (.pointer (some ⟨g, 0, none⟩)) ∧ s = .int .i64 (thinR p l (m + 1)) ∧ Below w.heap.size w wr)
    case atStart =>
      have hk := HKs.out
      have hc := HCh.out
      cases ks with
      | nil => rw [← hk] at h0; simp at h0
      | cons k r =>
        obtain ⟨g, x⟩ := k
        have e := hc.1
        rw [e]
        rw [e] at hc
        refine ⟨0, g, x, r, by rw [← hk]; rfl, by rw [← hk]; simp, rfl, hc.mono HS1, rfl, HB2.out⟩
    case round =>
      clear HB1 HB2 HKs HCh HSt HV
      obtain ⟨m, g, x, r, hd, hgk, rfl, hch, rfl, hb⟩ := hrel
      have HBe := Lib.hid hb; clear hb
      have hsz := HBe.out.size
      obtain ⟨e1, e2, e3, e4⟩ := drop_cons_at hd
      obtain ⟨-, c2, t, ck, c7⟩ := hch
      have c4 := ck.cell0
      have c6 := ck.cell1
      clear ck
      obtain ⟨i, hi, hip⟩ := HT.out.nat e1
      rw [e2] at hi
      subst hi
      obtain ⟨r0, r1⟩ := HR.out (m + 1)
      cases r with
      | nil =>
        have HL := Lib.hid (show thinE p l = thinR p l (m + 1) by rw [HB.out, e4]; rfl)
        obtain ⟨R, hR⟩ : ∃ R, R = thinR p l (m + 1) := ⟨_, rfl⟩
        rw [← hR] at HL r0 r1 ⊢
        have ht : t = none := by simpa [Chain] using c7
        subst ht
        clear hd hgk e1 e2 e3 e4 hR c7 c4
        go_wp2
        go_ret
        exact ⟨ret_int HL.out.symm, HBe.out⟩
      | cons k' r' =>
        obtain ⟨g', x'⟩ := k'
        obtain ⟨d1, d2, t', dk, d7⟩ := c7
        have DK := Lib.hid dk
        have d4 := dk.cell0
        clear dk
        simp only [Value.pointer.injEq] at d1
        subst d1
        simp only [List.map_cons] at e3
        obtain ⟨f1, f2, f3, f4⟩ := drop_cons_at e3
        obtain ⟨j, hj, hjp⟩ := HT.out.nat f1
        have hij := HT.out.step f1
        rw [e2, f2] at hij
        rw [f2] at hj
        subst hj
        have S := Lib.hid (HS.out m)
        rw [Nat.add_sub_cancel, e2, f2, Int.toNat_natCast, Int.toNat_natCast] at S
        have G := Lib.hid (fun wr' (hb : Below w.heap.size w wr') => HG.out i j wr' (by omega) hjp hb)
        obtain ⟨s0, s1⟩ := HE.out i j
        obtain ⟨R, hR⟩ : ∃ R, R = thinR p l (m + 1) := ⟨_, rfl⟩
        obtain ⟨E, hE⟩ : ∃ E, E = spanV p i j := ⟨_, rfl⟩
        rw [← hR] at S r0 r1 ⊢
        rw [← hE] at S G s0 s1
        have HD := Lib.hid e3
        have HK := Lib.hid hgk
        have H7 := Lib.hid d7
        clear hd hgk e1 e2 e3 e4 f1 f2 f3 f4 hR hE hip hjp d7
        go_wp2
        go_quiet ((go_at_call 57; exact Calls.quiet_of (G.out _ (below_drewN HBe.out _))))
        go_wp2
        all_goals
          go_roundg (r'.length + 1)
          case measure => rw [HK.out]; simp
          case rel => exact ⟨m + 1, g', (j : Int), r', HD.out, rfl, rfl, Chain.below (below_drewN (Below.refl _ _) _) ⟨rfl, d2, t', DK.out, H7.out⟩, val_int (by rw [S.out]; omega), below_drewN HBe.out _⟩

set_option maxHeartbeats 400000 in
theorem sterr_any (v u : Value) (p l : List Int) (w : World) (hr : Row w v p) (hn : p.length ≤ 1099511627776) (hs : Row w u l) (hm : l.length ≤ 1099511627776) :
    Calls Try.prog 28 #[v, u] w fun e w' => e = .returned (.int .i64 (thinE p l)) ∧ Below w.heap.size w w' := by
  have HV := Lib.hid (calls_below (sthinv_any v u p l w hr hn hs hm))
  cases hv : thinB p l
  · have HB := Lib.hid (thinE_no hv)
    rw [hv] at HV
    clear hv
    go_enter Try.func28, Try.ntmps28
    go_wp2_with (go_at_call 20; refine HV.out.mono ?_; rintro e w' ⟨rfl, hb⟩)
    go_ret
    exact ⟨ret_int HB.out.symm, hb⟩
  · have HB := Lib.hid (thinE_yes hv)
    rw [hv] at HV
    have hT := thinB_iff.1 hv
    have HT := Lib.hid hT
    have hvp := hT.1
    have HG := Lib.hid (fun (i k : Nat) (wr : World) (hik : i ≤ k) (hk : k < p.length) (hb : Below w.heap.size w wr) => sspan_any v p i k wr (hr.below hb) hvp hik hk)
    have HR := Lib.hid (fun m => thinR_bd hvp l m)
    have HE := Lib.hid (fun i k => spanV_bd hvp i k)
    have HS := Lib.hid (fun m => thinR_succ p l (m + 1) (by omega))
    have h0 := hT.2.1
    obtain ⟨a, cap, rfl⟩ := hs.shape
    obtain ⟨-, hc⟩ := hs.cells
    have HN := Lib.hid (fun (m : Nat) (h : m < l.length) => hT.nat h)
    have HSt := Lib.hid (fun (m : Nat) (h : m + 1 < l.length) => hT.step h)
    obtain ⟨n, hN⟩ : ∃ n, n = l.length := ⟨_, rfl⟩
    rw [← hN] at hm h0 hc HV HB HN HSt ⊢
    have HC := Lib.hid hc
    clear hr hs hv hT hvp hc hN
    go_enter Try.func28, Try.ntmps28
    go_wp2_with (go_at_call 20; refine HV.out.mono ?_; rintro e w1 ⟨rfl, hb⟩; (have HB1 := Lib.hid hb); clear hb)
    go_loopw [5, 6] (fun s k wr => ∃ m : Nat, m + 1 ≤ n ∧ k = .int .i64 ((m + 1 : Nat) : Int) ∧ s = .int .i64 (thinR p l (m + 1)) ∧ Below w.heap.size w wr) (fun _ k _ => n - (intOf k).toNat)
    case atStart => exact ⟨0, by omega, by go_num, rfl, HB1.out⟩
    case round =>
      clear HB1 HV
      obtain ⟨m, hmn, rfl, rfl, hb⟩ := hrel
      have HBe := Lib.hid hb; clear hb
      have hsz := HBe.out.size
      obtain ⟨r0, r1⟩ := HR.out (m + 1)
      by_cases hlt : m + 1 < n
      · obtain ⟨b, off, rfl, hc0⟩ := HC.out m (by omega)
        obtain ⟨b', off', he, hc1⟩ := HC.out (m + 1) hlt
        simp only [Option.some.injEq, Addr.mk.injEq, and_true] at he
        obtain ⟨rfl, rfl⟩ := he
        have k0 := (HBe.out.cell (World.block_lt_of_cell? w _ hc0)).trans hc0
        have k1 := (HBe.out.cell (World.block_lt_of_cell? w _ hc1)).trans hc1
        obtain ⟨i, hi, hip⟩ := HN.out m (by omega)
        obtain ⟨j, hj, hjp⟩ := HN.out (m + 1) hlt
        have hij := HSt.out m hlt
        have S := Lib.hid (HS.out m)
        rw [Nat.add_sub_cancel, hi, hj, Int.toNat_natCast, Int.toNat_natCast] at S
        rw [hi] at k0 hij
        rw [hj] at k1 hij
        have G := Lib.hid (fun wr' (hb : Below w.heap.size w wr') => HG.out i j wr' (by omega) hjp hb)
        obtain ⟨s0, s1⟩ := HE.out i j
        obtain ⟨R, hR⟩ : ∃ R, R = thinR p l (m + 1) := ⟨_, rfl⟩
        obtain ⟨E, hE⟩ : ∃ E, E = spanV p i j := ⟨_, rfl⟩
        rw [← hR] at S r0 r1 ⊢
        rw [← hE] at S G s0 s1
        clear hi hj hc0 hc1 hR hE hip hjp
        obtain ⟨t, ht⟩ : ∃ t, t = m + 1 := ⟨_, rfl⟩
        have k0' : wr.cell? ⟨b, off + (t - 1), none⟩ = some (.int .i64 (i : Int)) := by rw [ht, Nat.add_sub_cancel]; exact k0
        rw [← ht] at k1 hlt S ⊢
        have t1 : 1 ≤ t := by omega
        have HTm := Lib.hid ht
        have q1 : (0 : Int) ≤ (t : Int) - 1 := by omega
        have q2 : (t : Int) - 1 < (n : Int) := by omega
        have q3 : (t : Int) < (n : Int) := by omega
        have q4 : IntKind.i64.wrap ((t : Int) - 1) = (t : Int) - 1 := IntWalk.i64_in _ (by omega)
        have q5 : ((t : Int) - 1).toNat = t - 1 := by omega
        clear ht k0
        go_wp2
        go_quiet ((go_at_call 59; exact Calls.quiet_of (G.out _ (below_drewN HBe.out _))))
        clear q4 q5
        go_wp2
        all_goals
          go_roundw
          case rel => exact ⟨t, by omega, by go_num, val_int (by have := HTm.out; subst this; rw [S.out]; omega), below_drewN HBe.out _⟩
          case measure => simp [intOf]; omega
      · have HL := Lib.hid (show thinE p l = thinR p l (m + 1) by rw [HB.out, show n = m + 1 by omega])
        go_wp2
        go_ret
        exact ⟨ret_int HL.out.symm, HBe.out⟩

theorem ikeep_any (v u : Value) (p l : List Int) (e : Int) (w : World) (hr : Row w v p) (hn : p.length ≤ 1099511627776) (hs : Row w u l) (hm : l.length ≤ 1099511627776) :
    Calls Try.prog 22 #[v, u, .int .i64 e] w fun x w' => x = .returned (.bool (keepB p l e)) ∧ Below w.heap.size w w' := by
  have HV := Lib.hid (calls_below (ithinv_any v u p l w hr hn hs hm))
  cases hv : thinB p l
  · have HB := Lib.hid (show keepB p l e = false by simp [keepB, hv])
    rw [hv] at HV
    clear hv
    go_enter Try.func22, Try.ntmps22
    go_wp2_with (go_at_call 18; refine HV.out.mono ?_; rintro e w' ⟨rfl, hb⟩)
    go_ret
    exact ⟨ret_bool HB.out.symm, hb⟩
  · cases he : errB e
    · have HB := Lib.hid (show keepB p l e = false by simp [keepB, he])
      rw [hv] at HV
      clear hv
      go_enter Try.func22, Try.ntmps22
      go_wp2_with (first | (go_at_call 18; refine HV.out.mono ?_; rintro e w' ⟨rfl, hb⟩) | (go_at_call 58; refine (iserr_any _ _).mono ?_; rintro e w' ⟨rfl, rfl⟩))
      go_ret
      exact ⟨ret_bool HB.out.symm, hb⟩
    · have HB := Lib.hid (show keepB p l e = decide (thinE p l ≤ e) by simp [keepB, he, hv])
      have HTe := Lib.hid (fun wr (hb : Below w.heap.size w wr) => iterr_any v u p l wr (hr.below hb) hn (hs.below hb) hm)
      rw [hv] at HV
      clear hv
      obtain ⟨E, hE⟩ : ∃ E, E = thinE p l := ⟨_, rfl⟩
      rw [← hE] at HB HTe
      clear hE
      go_enter Try.func22, Try.ntmps22
      go_wp2_with (first | (go_at_call 18; refine HV.out.mono ?_; rintro e w' ⟨rfl, hb⟩) | (go_at_call 58; refine (iserr_any _ _).mono ?_; rintro e w' ⟨rfl, rfl⟩) | (go_at_call 21; refine (HTe.out _ hb).mono ?_; rintro e w2 ⟨rfl, hb2⟩))
      all_goals
        go_ret
        exact ⟨ret_bool (by rw [HB.out]), hb.trans (hb2.mono hb.size)⟩

theorem skeep_any (v u : Value) (p l : List Int) (e : Int) (w : World) (hr : Row w v p) (hn : p.length ≤ 1099511627776) (hs : Row w u l) (hm : l.length ≤ 1099511627776) :
    Calls Try.prog 43 #[v, u, .int .i64 e] w fun x w' => x = .returned (.bool (keepB p l e)) ∧ Below w.heap.size w w' := by
  have HV := Lib.hid (calls_below (sthinv_any v u p l w hr hn hs hm))
  cases hv : thinB p l
  · have HB := Lib.hid (show keepB p l e = false by simp [keepB, hv])
    rw [hv] at HV
    clear hv
    go_enter Try.func43, Try.ntmps43
    go_wp2_with (go_at_call 20; refine HV.out.mono ?_; rintro e w' ⟨rfl, hb⟩)
    go_ret
    exact ⟨ret_bool HB.out.symm, hb⟩
  · cases he : inB e 0 99
    · have HB := Lib.hid (show keepB p l e = false by simp [keepB, errB, he])
      rw [hv] at HV
      clear hv
      go_enter Try.func43, Try.ntmps43
      go_wp2_with (first | (go_at_call 20; refine HV.out.mono ?_; rintro e w' ⟨rfl, hb⟩) | (go_at_call 55; refine (in_any _ _ _ _).mono ?_; rintro e w' ⟨rfl, rfl⟩))
      go_ret
      exact ⟨ret_bool HB.out.symm, hb⟩
    · have HB := Lib.hid (show keepB p l e = decide (thinE p l ≤ e) by simp [keepB, errB, he, hv])
      have HTe := Lib.hid (fun wr (hb : Below w.heap.size w wr) => sterr_any v u p l wr (hr.below hb) hn (hs.below hb) hm)
      rw [hv] at HV
      clear hv
      obtain ⟨E, hE⟩ : ∃ E, E = thinE p l := ⟨_, rfl⟩
      rw [← hE] at HB HTe
      clear hE
      go_enter Try.func43, Try.ntmps43
      go_wp2_with (first | (go_at_call 20; refine HV.out.mono ?_; rintro e w' ⟨rfl, hb⟩) | (go_at_call 55; refine (in_any _ _ _ _).mono ?_; rintro e w' ⟨rfl, rfl⟩) | (go_at_call 28; refine (HTe.out _ hb).mono ?_; rintro e w2 ⟨rfl, hb2⟩))
      all_goals
        go_ret
        exact ⟨ret_bool (by rw [HB.out]), hb.trans (hb2.mono hb.size)⟩

end Go.Proofs.Ytonehpndbbojpaa
