/- Contracts: ThinGreedy of the program and of the reference. -/
import Derived.Test.YtonehpndbbojpaaTFew
import Derived.Test.YtonehpndbbojpaaApp
import Derived.Deep.LoopGhost
namespace Go.Proofs.Ytonehpndbbojpaa
open Go.RowKit

/-- The farthest point. -/
def farK (p : List Int) (e : Int) (i : Nat) : Nat := lastK (okB p e i) i (p.length - 1 - i)
theorem far_ex {p : List Int} {e : Int} (he : 0 ≤ e) {i : Nat} (hi : i + 1 < p.length) : ∃ k, i < k ∧ k < p.length ∧ okB p e i k = true ∧ (∀ j, k < j → j < p.length → okB p e i j = false) ∧ farK p e i = k := by
  have hx : ∀ d, d < p.length - 1 - i → (∀ j, p.length - 1 - d < j → j < p.length → okB p e i j = false) → ∃ k, i < k ∧ k < p.length ∧ okB p e i k = true ∧ (∀ j, k < j → j < p.length → okB p e i j = false) := by
    intro d
    induction h : p.length - 1 - i - d generalizing d with
    | zero => intro h1 _; omega
    | succ m ih =>
      intro h1 h2
      cases hk : okB p e i (p.length - 1 - d)
      · by_cases hd : d + 1 < p.length - 1 - i
        · refine ih (d + 1) (by omega) hd (fun j j1 j2 => ?_)
          by_cases ej : j = p.length - 1 - d
          · rw [ej]; exact hk
          · exact h2 j (by omega) j2
        · have := few_ok (p := p) he i hi
          rw [show i + 1 = p.length - 1 - d by omega, hk] at this
          cases this
      · exact ⟨p.length - 1 - d, by omega, by omega, hk, h2⟩
  obtain ⟨k, h1, h2, h3, h4⟩ := hx 0 (by omega) (fun j j1 j2 => by omega)
  exact ⟨k, h1, h2, h3, h4, lastK_eq h1 h3 _ (by omega) (fun j j1 j2 => h4 j j1 (by omega))⟩

def greF (p : List Int) (e : Int) : Nat → Nat → List Int
  | 0, i => [(i : Int)]
  | f + 1, i => if i + 1 < p.length then (i : Int) :: greF p e f (farK p e i) else [(i : Int)]
def greL (p : List Int) (e : Int) (i : Nat) : List Int := greF p e (p.length - 1 - i) i
theorem greF_eq {p : List Int} {e : Int} (he : 0 ≤ e) : ∀ f i, p.length - 1 - i ≤ f → greF p e f i = greL p e i
  | 0, i, h => by
    unfold greL
    rw [show p.length - 1 - i = 0 by omega]
  | f + 1, i, h => by
    unfold greL
    by_cases hi : i + 1 < p.length
    · obtain ⟨k, h1, h2, h3, h4, h5⟩ := far_ex (p := p) he hi
      rw [show p.length - 1 - i = (p.length - 2 - i) + 1 by omega]
      simp only [greF]
      rw [if_pos hi, if_pos hi, h5, greF_eq he f k (by omega), greF_eq he (p.length - 2 - i) k (by omega)]
    · rw [show p.length - 1 - i = 0 by omega]
      simp only [greF]
      rw [if_neg hi]
  termination_by f => f
  decreasing_by all_goals (simp_wf; try omega)
theorem greL_last {p : List Int} {e : Int} {i : Nat} (hi : ¬ i + 1 < p.length) : greL p e i = [(i : Int)] := by
  unfold greL
  rw [show p.length - 1 - i = 0 by omega]; rfl
theorem greL_step {p : List Int} {e : Int} (he : 0 ≤ e) {i : Nat} (hi : i + 1 < p.length) : ∃ k, i < k ∧ k < p.length ∧ okB p e i k = true ∧ (∀ j, k < j → j < p.length → okB p e i j = false) ∧ farK p e i = k ∧ greL p e i = (i : Int) :: greL p e k := by
  obtain ⟨k, h1, h2, h3, h4, h5⟩ := far_ex (p := p) he hi
  refine ⟨k, h1, h2, h3, h4, h5, ?_⟩
  rw [← greF_eq he (p.length - 1 - i + 1) i (by omega)]
  simp only [greF]
  rw [if_pos hi, h5, greF_eq he _ k (by omega)]
theorem greL_head (p : List Int) (e : Int) (i : Nat) : ∃ t, greL p e i = (i : Int) :: t := by
  unfold greL
  cases p.length - 1 - i with
  | zero => exact ⟨[], rfl⟩
  | succ f =>
    simp only [greF]
    split
    · exact ⟨_, rfl⟩
    · exact ⟨[], rfl⟩
theorem greL_len {p : List Int} {e : Int} (he : 0 ≤ e) : ∀ d i, p.length - 1 - i = d → (greL p e i).length ≤ d + 1 := by
  intro d
  induction d using Nat.strongRecOn with
  | ind d ih =>
    intro i hd
    by_cases hi : i + 1 < p.length
    · obtain ⟨k, h1, h2, -, -, -, h6⟩ := greL_step (p := p) he hi
      rw [h6]
      have := ih (p.length - 1 - k) (by omega) k rfl
      simp only [List.length_cons]
      omega
    · rw [greL_last hi]; simp

noncomputable def tgreedyL (p : List Int) (e : Int) : List Int := if fewB p e then greL p e 0 else []
theorem tgreedyL_yes {p : List Int} {e : Int} (h : fewB p e = true) : tgreedyL p e = greL p e 0 := by simp [tgreedyL, h]
theorem tgreedyL_no {p : List Int} {e : Int} (h : fewB p e = false) : tgreedyL p e = [] := by simp [tgreedyL, h]
theorem tgreedyL_len (p : List Int) (e : Int) (h : p.length ≤ 1048576) : (tgreedyL p e).length ≤ 1048576 := by
  cases hf : fewB p e
  · rw [tgreedyL_no hf]; simp
  · rw [tgreedyL_yes hf]
    have := greL_len (p := p) (fewB_iff.1 hf).2.1 _ 0 rfl
    omega

set_option maxHeartbeats 1000000 in
theorem stgreedy_any (v : Value) (p : List Int) (e : Int) (w : World) (hr : Row w v p) (hn : p.length ≤ 1099511627776) :
    Calls Try.prog 46 #[v, .int .i64 e] w (GivesRowB (tgreedyL p e) (fewB p e) w) := by
  have HF := Lib.hid (stfew_any v p e w hr hn)
  cases hf : fewB p e
  · have HB := Lib.hid (fewV_no hf)
    rw [tgreedyL_no hf]
    rw [HB.out] at HF
    clear hf
    go_enter Try.func46, Try.ntmps46
    go_wp2_with (go_at_call 38; refine HF.out.mono ?_; rintro e w' ⟨rfl, hb⟩)
    go_ret2
    exact GivesRowB.of (Own.emptyLit _ _ hb.size) (Below.alloc hb hb.size _)
  · have hfi := fewB_iff.1 hf
    obtain ⟨hv, he0, he1⟩ := hfi
    have hl := valid_len hv
    rw [tgreedyL_yes hf]
    rw [fewV_yes hf] at HF
    have HG := Lib.hid (fun (i k : Nat) (wr : World) (hik : i ≤ k) (hk : k < p.length) (hb : Below w.heap.size w wr) => calls_below (sspan_any v p i k wr (hr.below hb) hv hik hk))
    have HNx := Lib.hid (fun i hi => @greL_step p e he0 i hi)
    have HHd := Lib.hid (fun i => greL_head p e i)
    have HLst := Lib.hid (fun i => @greL_last p e i)
    have HFK := Lib.hid (show ∀ i, farK p e i = lastK (okB p e i) i (p.length - 1 - i) from fun _ => rfl)
    obtain ⟨a, cap, rfl⟩ := hr.shape
    obtain ⟨n, hN⟩ : ∃ n, n = p.length := ⟨_, rfl⟩
    rw [← hN] at hn hl HF HG HNx HLst HFK ⊢
    obtain ⟨l1, l2⟩ := hl
    clear hr hv hN hf
    obtain ⟨F, hF⟩ : ∃ F, F = (fewL p e).length := ⟨_, rfl⟩
    rw [← hF] at HF
    clear hF
    have hF0 : decide ((F : Int) < 0) = false := by simp
    go_enter Try.func46, Try.ntmps46
    go_wp2_with (go_at_call 38; refine HF.out.mono ?_; rintro x w2 ⟨rfl, hb⟩; (have HB2 := Lib.hid hb); clear hb)
    go_loopw [6, 7] (fun out s wr => ∃ (D : List Int) (i : Nat), i < n ∧ s = .int .i64 i ∧ D.length ≤ i + 1 ∧ D ++ (greL p e i).tail = greL p e 0 ∧ Own wr w2.heap.size out D ∧ Below w2.heap.size w2 wr) (fun _ s _ => n - (intOf s).toNat)
    case atStart =>
      obtain ⟨t, ht⟩ := HHd.out 0
      exact ⟨[0], 0, by omega, rfl, by simp, by rw [ht]; rfl, Own.lit1 w2 _ 0 (Nat.le_refl _), Below.alloc (Below.refl _ _) (Nat.le_refl _) _⟩
    case round =>
      obtain ⟨D, i, hin, rfl, hDl, hD, ho, hb⟩ := hrel
      have HO := Lib.hid ho
      have HBe := Lib.hid hb
      have HD := Lib.hid hD
      clear ho hb hD
      by_cases hlt : i + 1 < n
      · obtain ⟨kk, hk1, hk2, -, -, hk3, hk4⟩ := HNx.out i hlt
        have HK3 := Lib.hid hk3
        have HK4 := Lib.hid hk4
        clear hk3 hk4
        have hdl : decide ((i : Int) < (n : Int) - 1) = true := by simp; omega
        go_wp2
        clear hdl
        obtain ⟨wo, rfl⟩ : ∃ wo : World, wo = wr := ⟨_, rfl⟩
        go_loopg [8, 9] (n - 1 - i) (fun gk x s wr => ∃ m : Nat, gk + (i + 1 + m) = n ∧ s = .int .i64 (i + 1 + m : Nat) ∧ x = .int .i64 (lastK (okB p e i) i m : Nat) ∧ Below wo.heap.size wo wr)
        case atStart => exact ⟨0, by omega, by go_num, rfl, Below.refl _ _⟩
        case round =>
          obtain ⟨m, hm0, rfl, rfl, hb⟩ := hrel
          have HM0 := Lib.hid hm0
          have hm : i + 1 + m ≤ n := by omega
          clear hm0
          have HBi := Lib.hid hb
          clear hb
          have HBw := Lib.hid (HBe.out.trans (HBi.out.mono HBe.out.size))
          have hsi := HBi.out.size
          by_cases hlt2 : i + 1 + m < n
          · obtain ⟨k, hk⟩ : ∃ k, k = i + 1 + m := ⟨_, rfl⟩
            have hLK : lastK (okB p e i) i (m + 1) = if okB p e i (i + 1 + m) then i + 1 + m else lastK (okB p e i) i m := rfl
            have LK := Lib.hid hLK
            clear hLK
            rw [← hk] at hlt2 LK ⊢
            have HK := Lib.hid hk
            have hik : i < k := by omega
            clear hk
            have HBx := Lib.hid (HB2.out.trans (HBw.out.mono HB2.out.size))
            have G := Lib.hid (HG.out i k _ (by omega) hlt2 HBx.out)
            have NB := Lib.hid (show okB p e i k = decide (spanV p i k ≤ e) from rfl)
            obtain ⟨E, hE⟩ : ∃ E, E = spanV p i k := ⟨_, rfl⟩
            rw [← hE] at G NB
            obtain ⟨P, hP⟩ : ∃ P, P = lastK (okB p e i) i m := ⟨_, rfl⟩
            rw [← hP] at LK ⊢
            clear hE hP hm
            by_cases hle : E ≤ e
            · have LK2 := Lib.hid (show lastK (okB p e i) i (m + 1) = k by rw [LK.out, NB.out, decide_eq_true hle]; simp)
              go_wp2_with (go_at_call 59; refine G.out.mono ?_; rintro x w5 ⟨rfl, hb5⟩)
              go_roundg (gk - 1)
              case rel => exact ⟨m + 1, by have := HM0.out; have := HK.out; omega, by rw [show i + 1 + (m + 1) = k + 1 by have := HK.out; omega]; go_num, by rw [LK2.out], HBi.out.trans (hb5.mono hsi)⟩
              case measure => have := HM0.out; have := HK.out; omega
            · have LK2 := Lib.hid (show lastK (okB p e i) i (m + 1) = P by rw [LK.out, NB.out, decide_eq_false hle]; simp)
              go_wp2_with (go_at_call 59; refine G.out.mono ?_; rintro x w5 ⟨rfl, hb5⟩)
              go_roundg (gk - 1)
              case rel => exact ⟨m + 1, by have := HM0.out; have := HK.out; omega, by rw [show i + 1 + (m + 1) = k + 1 by have := HK.out; omega]; go_num, by rw [LK2.out], HBi.out.trans (hb5.mono hsi)⟩
              case measure => have := HM0.out; have := HK.out; omega
          · have hme : m = n - 1 - i := by omega
            have hme2 : i + 1 + m = n := by omega
            rw [hme2]
            rw [hme, ← HFK.out i, HK3.out]
            have HOi := Lib.hid (HO.out.below HBi.out)
            have hsz := HBw.out.size
            have hlen : D.length ≤ 1099511627776 := by omega
            clear hm hme hme2 hlt2
            go_wp2_with (at_builtin; refine append1 (by rfl) _ _ (by rfl) (w2.heap.size) _ (D) ((kk : Int)) (by rfl) (by rfl) (HOi.out) (hsz) (hlen) ?_; intro v' w5 ho5 hg5)
            go_roundw
            case rel =>
              refine ⟨D ++ [(kk : Int)], kk, hk2, rfl, by simp; omega, ?_, ho5, below_own HBw.out HOi.out hsz hg5⟩
              obtain ⟨t, ht⟩ := HHd.out kk
              rw [← HD.out, HK4.out, ht]
              simp
            case measure => simp [intOf]; omega
      · have HE2 := Lib.hid (show D = greL p e 0 by rw [← HD.out, HLst.out i hlt]; simp)
        go_wp2
        go_ret2
        rw [← HE2.out]
        exact GivesRowB.of (HO.out.mono HB2.out.size) (HB2.out.trans (HBe.out.mono HB2.out.size))

end Go.Proofs.Ytonehpndbbojpaa
