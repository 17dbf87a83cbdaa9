/- Contracts: ThinBest of the program and of the reference. -/
import Derived.Test.YtonehpndbbojpaaTFew
import Derived.Test.YtonehpndbbojpaaApp
import Derived.Deep.LoopGhost
namespace Go.Proofs.Ytonehpndbbojpaa
open Go.RowKit

noncomputable def tbestL (p : List Int) (e : Int) : List Int := if fewB p e then fewL p e else []
theorem tbestL_yes {p : List Int} {e : Int} (h : fewB p e = true) : tbestL p e = fewL p e := by simp [tbestL, h]
theorem tbestL_no {p : List Int} {e : Int} (h : fewB p e = false) : tbestL p e = [] := by simp [tbestL, h]
theorem tbestL_len (p : List Int) (e : Int) (h : p.length ≤ 1048576) : (tbestL p e).length ≤ 1048576 := by
  cases hf : fewB p e
  · rw [tbestL_no hf]; simp
  · rw [tbestL_yes hf]
    have := fewB_iff.1 hf
    have := (fewL_len this.1 this.2.1).2
    omega

theorem itbest_any (v : Value) (p : List Int) (e : Int) (w : World) (hr : Row w v p) (hn : p.length ≤ 1099511627776) :
    Calls Try.prog 47 #[v, .int .i64 e] w (GivesRowB (tbestL p e) (fewB p e) w) := by
  have HV := Lib.hid (ivalid_any v p w hr hn)
  cases hv : validB p
  · have HB := Lib.hid (few_no1 (e := e) hv)
    rw [tbestL_no HB.out, HB.out]
    rw [hv] at HV
    clear hv
    go_enter Try.func47, Try.ntmps47
    go_wp2_with (go_at_call 52; refine HV.out.mono ?_; rintro e w' ⟨rfl, rfl⟩)
    go_ret2
    exact GivesRowB.nil w false
  · cases he : errB e
    · have HB := Lib.hid (few_no2 (p := p) he)
      rw [tbestL_no HB.out, HB.out]
      rw [hv] at HV
      clear hv
      go_enter Try.func47, Try.ntmps47
      go_wp2_with (first | (go_at_call 52; refine HV.out.mono ?_; rintro e w' ⟨rfl, rfl⟩) | (go_at_call 58; refine (iserr_any _ _).mono ?_; rintro e w' ⟨rfl, rfl⟩))
      go_ret2
      exact GivesRowB.nil w false
    · have he0 := (errB_bd he).1
      have hl := fewL_len hv he0
      have hl2 := valid_len hv
      have HB := Lib.hid (few_yes hv he)
      rw [tbestL_yes HB.out, HB.out]
      have HF := Lib.hid (fewest_any v p e w hr hv he0)
      rw [hv] at HV
      clear hv
      obtain ⟨L, hL⟩ : ∃ L, L = fewL p e := ⟨_, rfl⟩
      rw [← hL] at HF hl ⊢
      clear hL
      go_enter Try.func47, Try.ntmps47
      go_wp2_with (first | (go_at_call 52; refine HV.out.mono ?_; rintro e w' ⟨rfl, rfl⟩) | (go_at_call 58; refine (iserr_any _ _).mono ?_; rintro e w' ⟨rfl, rfl⟩) | (go_at_call 63; refine HF.out.mono ?_; rintro x w2 ⟨ks, u, rfl, hks, hch, hb2⟩; (have PT := Lib.hid (points_any _ _ _ _ hch (by have := congrArg List.length hks; simp at this; omega))); rw [hks] at PT; clear hks hch) | (go_at_call 61; refine PT.out.mono ?_; rintro x w3 ⟨a3, cap3, rfl, ho3, hb3⟩))
      go_ret2
      exact GivesRowB.of (ho3.mono hb2.size) (hb2.trans (hb3.mono hb2.size))

/-- The test of the reference for the next point. -/
def nextB (p : List Int) (e : Int) (i k : Nat) : Bool := okB p e i k && decide (costN p e k + 1 = costN p e i)
theorem next_pick {p : List Int} {e : Int} (he : 0 ≤ e) {i : Nat} (hi : i + 1 < p.length) :
    ∃ k, i < k ∧ k < p.length ∧ lastK (nextB p e i) i (p.length - 1 - i) = k ∧ lineL (okB p e) p.length i = (i : Int) :: lineL (okB p e) p.length k := by
  obtain ⟨k, -, h1, h2, h3, h4, h5⟩ := line_pick (few_ok (p := p) he) hi
  have hc : costN p e i = costN p e k + 1 := by unfold costN; rw [h4]; simp
  refine ⟨k, h1, h2, lastK_eq h1 (by simp [nextB, h3, hc]) _ (by omega) ?_, h4⟩
  intro j j1 j2
  cases hj : nextB p e i j
  · rfl
  · simp only [nextB, Bool.and_eq_true, decide_eq_true_eq] at hj
    have := (h5 j (by omega) (by omega) hj.1).2 (by have h6 := hj.2; rw [hc] at h6; unfold costN at h6; omega)
    omega
theorem line_head {p : List Int} {e : Int} (he : 0 ≤ e) {i : Nat} (hi : i < p.length) : ∃ t, lineL (okB p e) p.length i = (i : Int) :: t := by
  have h := (lines_at (few_ok (p := p) he) hi).way
  generalize lineL (okB p e) p.length i = l at h
  cases h with
  | last => exact ⟨[], rfl⟩
  | step _ _ _ _ => exact ⟨_, rfl⟩

set_option maxHeartbeats 1000000 in
theorem stbest_any (v : Value) (p : List Int) (e : Int) (w : World) (hr : Row w v p) (hn : p.length ≤ 1099511627776) :
    Calls Try.prog 49 #[v, .int .i64 e] w (GivesRowB (tbestL p e) (fewB p e) w) := by
  have HF := Lib.hid (stfew_any v p e w hr hn)
  cases hf : fewB p e
  · have HB := Lib.hid (fewV_no hf)
    rw [tbestL_no hf]
    rw [HB.out] at HF
    clear hf
    go_enter Try.func49, Try.ntmps49
    go_wp2_with (go_at_call 38; refine HF.out.mono ?_; rintro e w' ⟨rfl, hb⟩)
    go_ret2
    exact GivesRowB.of (Own.emptyLit _ _ hb.size) (Below.alloc hb hb.size _)
  · have hfi := fewB_iff.1 hf
    obtain ⟨hv, he0, he1⟩ := hfi
    have hl := valid_len hv
    have hfl := fewL_len hv he0
    rw [tbestL_yes hf]
    rw [fewV_yes hf] at HF
    have HG := Lib.hid (fun (i k : Nat) (wr : World) (hik : i ≤ k) (hk : k < p.length) (hb : Below w.heap.size w wr) => sspan_any v p i k wr (hr.below hb) hv hik hk)
    have HE := Lib.hid (fun i k => spanV_bd hv i k)
    have HNb := Lib.hid (fun i hi => @costN_bd p e he0 i hi)
    have HCo := Lib.hid (fun wr (hb : Below w.heap.size w wr) => costs_any v p e wr (hr.below hb) hv he0)
    have HNx := Lib.hid (fun i hi => @next_pick p e he0 i hi)
    have HHd := Lib.hid (fun i hi => @line_head p e he0 i hi)
    have HLst := Lib.hid (lineL_last (okB p e) p.length)
    have HAt := Lib.hid (costsL_at p e)
    have HFl := Lib.hid (show fewL p e = lineL (okB p e) p.length 0 from rfl)
    obtain ⟨a, cap, rfl⟩ := hr.shape
    obtain ⟨n, hN⟩ : ∃ n, n = p.length := ⟨_, rfl⟩
    have hcl := costsL_len p e
    rw [← hN] at hn hl hfl HF HG HNb HCo HNx HHd HLst HAt HFl hcl ⊢
    unfold GivesRow at HCo
    rw [hcl] at HCo
    obtain ⟨l1, l2⟩ := hl
    clear hr hv hN hf
    obtain ⟨F, hF⟩ : ∃ F, F = (fewL p e).length := ⟨_, rfl⟩
    rw [← hF] at HF hfl
    clear hF
    have hF0 : decide ((F : Int) < 0) = false := by simp
    go_enter Try.func49, Try.ntmps49
    go_wp2_with (first | (go_at_call 38; refine HF.out.mono ?_; rintro x w1 ⟨rfl, hb⟩; (have HB1 := Lib.hid hb); clear hb) | (go_at_call 65; refine (HCo.out _ HB1.out).mono ?_; rintro x w2 ⟨a2, cap2, rfl, ho2, hb2⟩; (have HO2 := Lib.hid ho2); (have HB2 := Lib.hid (HB1.out.trans (hb2.mono HB1.out.size))); clear ho2 hb2))
    obtain ⟨g2, rfl⟩ := HO2.out.addr (by omega)
    have HC := Lib.hid (show ∀ k, k < n → w2.cell? ⟨g2, k, none⟩ = some (.int .i64 (costN p e k)) from fun k hk => by rw [HO2.out.cellAt k hk, HAt.out k hk])
    have hg2 := (HO2.out.lt g2 rfl).2
    clear HO2 HCo HB1
    go_loopw [7, 8] (fun out s wr => ∃ (D : List Int) (i : Nat), i < n ∧ s = .int .i64 i ∧ D.length ≤ i + 1 ∧ D ++ (lineL (okB p e) n i).tail = fewL p e ∧ Own wr w2.heap.size out D ∧ Below w2.heap.size w2 wr) (fun _ s _ => n - (intOf s).toNat)
    case atStart =>
      obtain ⟨t, ht⟩ := HHd.out 0 (by omega)
      exact ⟨[0], 0, by omega, rfl, by simp, by rw [HFl.out, ht]; rfl, Own.lit1 w2 _ 0 (Nat.le_refl _), Below.alloc (Below.refl _ _) (Nat.le_refl _) _⟩
    case round =>
      obtain ⟨D, i, hin, rfl, hDl, hD, ho, hb⟩ := hrel
      have HO := Lib.hid ho
      have HBe := Lib.hid hb
      have HD := Lib.hid hD
      clear ho hb hD
      by_cases hlt : i + 1 < n
      · obtain ⟨kk, hk1, hk2, hk3, hk4⟩ := HNx.out i hlt
        have HK3 := Lib.hid hk3
        have HK4 := Lib.hid hk4
        have hc0 := HC.out i hin
        have hNi := HNb.out i hin
        clear hk3 hk4
        have hdl : decide ((i : Int) < (n : Int) - 1) = true := by simp; omega
        go_wp2
        clear hdl
        obtain ⟨wo, rfl⟩ : ∃ wo : World, wo = wr := ⟨_, rfl⟩
        go_loopg [9, 10] (n - 1 - i) (fun gk x s wr => ∃ m : Nat, gk + (i + 1 + m) = n ∧ s = .int .i64 (i + 1 + m : Nat) ∧ x = .int .i64 (lastK (nextB p e i) i m : Nat) ∧ Below wo.heap.size wo wr)
        case atStart => exact ⟨0, by omega, by go_num, rfl, Below.refl _ _⟩
        case round =>
          obtain ⟨m, hm0, rfl, rfl, hb⟩ := hrel
          have HM0 := Lib.hid hm0
          have hm : i + 1 + m ≤ n := by omega
          clear hm0
          have HBi := Lib.hid hb
          clear hb
          have HBw := Lib.hid (HBe.out.trans (HBi.out.mono HBe.out.size))
          by_cases hlt2 : i + 1 + m < n
          · obtain ⟨k, hk⟩ : ∃ k, k = i + 1 + m := ⟨_, rfl⟩
            have hLK : lastK (nextB p e i) i (m + 1) = if nextB p e i (i + 1 + m) then i + 1 + m else lastK (nextB p e i) i m := rfl
            have LK := Lib.hid hLK
            clear hLK
            rw [← hk] at hlt2 LK ⊢
            have HK := Lib.hid hk
            have hik : i < k := by omega
            clear hk
            have G := Lib.hid (fun wr' (hb : Below w.heap.size w wr') => HG.out i k wr' (by omega) hlt2 hb)
            have hck := HC.out k hlt2
            have hNk := HNb.out k hlt2
            have NB := Lib.hid (show nextB p e i k = (decide (spanV p i k ≤ e) && decide (costN p e k + 1 = costN p e i)) from rfl)
            obtain ⟨E, hE⟩ : ∃ E, E = spanV p i k := ⟨_, rfl⟩
            rw [← hE] at G NB
            obtain ⟨Ci, hCi⟩ : ∃ C, C = costN p e i := ⟨_, rfl⟩
            obtain ⟨Ck, hCk⟩ : ∃ C, C = costN p e k := ⟨_, rfl⟩
            rw [← hCi] at hc0 hNi NB
            rw [← hCk] at hck hNk NB
            obtain ⟨P, hP⟩ : ∃ P, P = lastK (nextB p e i) i m := ⟨_, rfl⟩
            rw [← hP] at LK ⊢
            have c0 := (HBw.out.cell (p := ⟨g2, i, none⟩) hg2).trans hc0
            have c1 := (HBw.out.cell (p := ⟨g2, k, none⟩) hg2).trans hck
            have HBx := Lib.hid (HB2.out.trans (HBw.out.mono HB2.out.size))
            have q1 : (0 : Int) ≤ (i : Int) := by omega
            have q2 : (i : Int) < (n : Int) := by omega
            have q3 : (0 : Int) ≤ (k : Int) := by omega
            have q4 : (k : Int) < (n : Int) := by omega
            have q5 : IntKind.i64.wrap ((Ck : Int) + 1) = (Ck : Int) + 1 := IntWalk.i64_in _ (by omega)
            clear hE hCi hCk hP hc0 hck hm
            by_cases hle : E ≤ e
            · by_cases hcc : Ck + 1 = Ci
              · have LK2 := Lib.hid (show lastK (nextB p e i) i (m + 1) = k by rw [LK.out, NB.out, decide_eq_true hle, decide_eq_true hcc]; simp)
                have hb : ((Ck : Int) + 1 == (Ci : Int)) = true := by simp; omega
                have HCC := Lib.hid hcc
                clear hcc
                go_wp2
                go_quiet ((go_at_call 59; exact Calls.quiet_of (G.out _ (below_drewN HBx.out _))))
                clear q5
                go_wp2
                go_roundg (gk - 1)
                case rel => exact ⟨m + 1, by have := HM0.out; have := HK.out; omega, by rw [show i + 1 + (m + 1) = k + 1 by have := HK.out; omega]; go_num, by rw [LK2.out], below_drewN HBi.out _⟩
                case measure => have := HM0.out; have := HK.out; omega
              · have LK2 := Lib.hid (show lastK (nextB p e i) i (m + 1) = P by rw [LK.out, NB.out, decide_eq_false hcc]; simp)
                have hb : ((Ck : Int) + 1 == (Ci : Int)) = false := by simp; omega
                go_wp2
                go_quiet ((go_at_call 59; exact Calls.quiet_of (G.out _ (below_drewN HBx.out _))))
                clear q5
                go_wp2
                go_roundg (gk - 1)
                case rel => exact ⟨m + 1, by have := HM0.out; have := HK.out; omega, by rw [show i + 1 + (m + 1) = k + 1 by have := HK.out; omega]; go_num, by rw [LK2.out], below_drewN HBi.out _⟩
                case measure => have := HM0.out; have := HK.out; omega
            · have LK2 := Lib.hid (show lastK (nextB p e i) i (m + 1) = P by rw [LK.out, NB.out, decide_eq_false hle]; simp)
              have hb : decide (E ≤ e) = false := by simpa using hle
              go_wp2
              go_quiet ((go_at_call 59; exact Calls.quiet_of (G.out _ (below_drewN HBx.out _))))
              clear q5
              go_wp2
              go_roundg (gk - 1)
              case rel => exact ⟨m + 1, by have := HM0.out; have := HK.out; omega, by rw [show i + 1 + (m + 1) = k + 1 by have := HK.out; omega]; go_num, by rw [LK2.out], below_drewN HBi.out _⟩
              case measure => have := HM0.out; have := HK.out; omega
          · have hme : m = n - 1 - i := by omega
            have hme2 : i + 1 + m = n := by omega
            rw [hme2]
            rw [hme, HK3.out]
            have HOi := Lib.hid (HO.out.below HBi.out)
            have hsz := HBw.out.size
            have hlen : D.length ≤ 1099511627776 := by omega
            clear hm hme hme2 hlt2 hc0
            go_wp2_with (at_builtin; refine append1 (by rfl) _ _ (by rfl) (w2.heap.size) _ (D) ((kk : Int)) (by rfl) (by rfl) (HOi.out) (hsz) (hlen) ?_; intro v' w5 ho5 hg5)
            go_roundw
            case rel =>
              refine ⟨D ++ [(kk : Int)], kk, hk2, rfl, by simp; omega, ?_, ho5, below_own HBw.out HOi.out hsz hg5⟩
              obtain ⟨t, ht⟩ := HHd.out kk hk2
              rw [← HD.out, HK4.out, ht]
              simp
            case measure => simp [intOf]; omega
      · have hie : i = n - 1 := by omega
        have HE2 := Lib.hid (show D = fewL p e by rw [← HD.out, hie, HLst.out]; simp)
        clear hie
        go_wp2
        go_ret2
        rw [← HE2.out]
        exact GivesRowB.of (HO.out.mono HB2.out.size) (HB2.out.trans (HBe.out.mono HB2.out.size))

end Go.Proofs.Ytonehpndbbojpaa
