/- Contracts: ProfileTilt of the program and of the reference. -/
import Derived.Test.YtbehpooapnjpeaaValid
import Derived.Test.YtbehpooapnjpeaaBase
import Derived.OpenShut
import Derived.IntWalk
namespace Go.Proofs.Ytbehpooapnjpeaa
open Go.RowKit

def tl (p : List Int) (t : Int) : List Int := (List.range p.length).map (fun i : Nat => p.getD i 0 + (i : Int) * t)
def tiltB (p : List Int) (t : Int) : Bool := validB p && (inB t (-10) 10 && validB (tl p t))
def tiltL (p : List Int) (t : Int) : List Int := if tiltB p t then tl p t else []

theorem tl_len (p : List Int) (t : Int) : (tl p t).length = p.length := by simp [tl]
theorem tl_getD (p : List Int) (t : Int) (i : Nat) (h : i < p.length) : (tl p t).getD i 0 = p.getD i 0 + (i : Int) * t := by
  simp [tl, h]
theorem tiltL_len (p : List Int) (t : Int) (h : p.length ≤ 1048576) : (tiltL p t).length ≤ 1048576 := by
  unfold tiltL
  split
  · rw [tl_len]; exact h
  · simp

theorem mul_bd {k : Nat} {t : Int} (hk : k ≤ 20) (h1 : -10 ≤ t) (h2 : t ≤ 10) : -200 ≤ (k : Int) * t ∧ (k : Int) * t ≤ 200 := by
  have a := Int.mul_le_mul_of_nonneg_left h1 (show (0 : Int) ≤ k by omega)
  have b := Int.mul_le_mul_of_nonneg_left h2 (show (0 : Int) ≤ k by omega)
  omega

theorem tl_step (p : List Int) (t : Int) (k : Nat) (h : k < p.length) : (tl p t).take (k + 1) = (tl p t).take k ++ [p.getD k 0 + (k : Int) * t] := by
  rw [List.take_succ_eq_append_getElem (by rw [tl_len]; exact h)]
  have := tl_getD p t k h
  rw [List.getD_eq_getElem?_getD, List.getElem?_eq_getElem (by rw [tl_len]; exact h)] at this
  rw [← this]; rfl

theorem itilt_any (v : Value) (p : List Int) (t : Int) (w : World) (hr : Row w v p) (hn : p.length ≤ 1099511627776) :
    Calls Try.prog 39 #[v, .int .i64 t] w (GivesRowB (tiltL p t) (tiltB p t) w) := by
  have e0 := ivalid_any v p w hr hn
  cases hv : validB p
  · have hB := Lib.hid (show tiltB p t = false by simp [tiltB, hv])
    have hL := Lib.hid (show tiltL p t = [] by simp [tiltL, hB.out])
    rw [hv] at e0
    rw [hB.out, hL.out]
    go_enter Try.func39, Try.ntmps39
    go_wp2_with (go_at_call 27; refine e0.mono ?_; rintro e w' ⟨rfl, rfl⟩)
    go_ret2
    exact GivesRowB.nil w false
  · rw [hv] at e0
    by_cases ht1 : t < -10
    · have hB := Lib.hid (show tiltB p t = false by rw [tiltB, show inB t (-10) 10 = false by rw [inB_false]; omega]; simp)
      have hL := Lib.hid (show tiltL p t = [] by simp [tiltL, hB.out])
      rw [hB.out, hL.out]
      go_enter Try.func39, Try.ntmps39
      go_wp2_with (go_at_call 27; refine e0.mono ?_; rintro e w' ⟨rfl, rfl⟩)
      go_ret2
      exact GivesRowB.nil w false
    · by_cases ht2 : 10 < t
      · have hB := Lib.hid (show tiltB p t = false by rw [tiltB, show inB t (-10) 10 = false by rw [inB_false]; omega]; simp)
        have hL := Lib.hid (show tiltL p t = [] by simp [tiltL, hB.out])
        rw [hB.out, hL.out]
        go_enter Try.func39, Try.ntmps39
        go_wp2_with (go_at_call 27; refine e0.mono ?_; rintro e w' ⟨rfl, rfl⟩)
        go_ret2
        exact GivesRowB.nil w false
      · have t1 : -10 ≤ t := by omega
        have t2 : t ≤ 10 := by omega
        have hB := Lib.hid (show tiltB p t = validB (tl p t) by simp [tiltB, hv, inB, t1, t2])
        have hl := valid_len hv
        obtain ⟨a, cap, rfl⟩ := hr.shape
        obtain ⟨-, hc⟩ := hr.cells
        obtain ⟨i0, hi, hz0, hz1, hz2⟩ := info_parts Try.infoInt
        obtain ⟨n, hN⟩ : ∃ n, n = p.length := ⟨_, rfl⟩
        rw [← hN] at hc hn hl e0 ⊢
        obtain ⟨l1, l2⟩ := hl
        have HN := Lib.hid hN; clear hN
        have HC := Lib.hid hc; clear hc
        have E0 := Lib.hid e0; clear e0
        have HV := Lib.hid hv
        clear hr hv ht1 ht2
        have hm : n ≤ maxLen := by unfold maxLen; omega
        go_enter Try.func39, Try.ntmps39
        go_wp2_with (first | (go_at_call 27; refine E0.out.mono ?_; rintro e w' ⟨rfl, rfl⟩) | (at_make; refine wpList_make_full _ rfl _ _ 23 rfl w.heap.size 3 i0 (.int .i64 0) 1 Try.underlying23 hi hz0 hz1 .i64 .i64 _ _ n rfl rfl rfl rfl (by rw [hz2]; omega) hm (Nat.le_refl _) ?_; intro w1 hown hgrow))
        go_loopw [25] (fun i wr => ∃ k : Nat, k ≤ n ∧ i = .int .i64 k ∧ Own wr w.heap.size (.slice (some ⟨w.heap.size, 0, none⟩) n n) ((tl p t).take k ++ List.replicate (n - k) 0) ∧ Below w.heap.size w wr) (fun i _ => n - (intOf i).toNat)
        case atStart => exact ⟨0, Nat.zero_le _, rfl, by simpa using Own.made hown, below_of_grown hgrow (Nat.le_refl _) (fun k e => by cases e)⟩
        case round =>
          obtain ⟨k, hk, rfl, ho, hb⟩ := hrel
          by_cases hlt : k < n
          · obtain ⟨b, off, rfl, hcell⟩ := HC.out k hlt
            have hcell' := (hb.cell (World.block_lt_of_cell? w _ hcell)).trans hcell
            have hfr := ho.frozenAt k
            have hold := ho.cellAt k hlt
            have hx := valid_ht' HV.out k
            have H := Lib.hid (ho.store k (p.getD k 0 + (k : Int) * t)); clear ho
            have HS := Lib.hid (fill_step' (tl p t) n k (by rw [tl_len]; exact HN.out) hlt)
            have HT := Lib.hid (tl_getD p t k (by rw [← HN.out]; exact hlt))
            obtain ⟨x, hX⟩ : ∃ x, x = p.getD k 0 := ⟨_, rfl⟩
            rw [← hX] at hcell' hx H HT
            have HX := Lib.hid hX; clear hX
            obtain ⟨x1, x2⟩ := hx
            obtain ⟨m1, m2⟩ := mul_bd (show k ≤ 20 by omega) t1 t2
            have hb' := Lib.hid hb
            obtain ⟨y, hy⟩ : ∃ y, y = ((tl p t).take k ++ List.replicate (n - k) 0).getD k 0 := ⟨_, rfl⟩
            rw [← hy] at hold
            clear hb hcell hown hgrow hy
            go_wp2
            go_roundw
            case rel => exact ⟨k + 1, by omega, by go_num, by rw [← HS.out, HT.out]; exact H.out.1, hb'.out.setCell (Nat.le_refl _) _⟩
            case measure => simp [intOf]; omega
          · have hke : k = n := by omega
            subst hke
            rw [Nat.sub_self, List.replicate_zero, List.append_nil, List.take_of_length_le (by rw [tl_len]; exact Nat.le_of_eq HN.out.symm)] at ho
            have e1 := ivalid_any _ (tl p t) _ ho.row (by rw [tl_len, ← HN.out]; exact hn)
            have HO := Lib.hid ho; clear ho
            have HB := Lib.hid hb; clear hb
            cases hv : validB (tl p t)
            · rw [hv] at e1
              have hT := Lib.hid (hB.out.trans hv)
              have hL := Lib.hid (show tiltL p t = [] by simp [tiltL, hT.out])
              clear hv
              go_wp2_with (go_at_call 27; refine e1.mono ?_; rintro e w' ⟨rfl, rfl⟩)
              go_ret2
              rw [hT.out, hL.out]
              exact GivesRowB.of (Own.nil _ _) HB.out
            · rw [hv] at e1
              have hT := Lib.hid (hB.out.trans hv)
              have hL := Lib.hid (show tiltL p t = tl p t by simp [tiltL, hT.out])
              clear hv
              go_wp2_with (go_at_call 27; refine e1.mono ?_; rintro e w' ⟨rfl, rfl⟩)
              go_ret2
              rw [hT.out, hL.out]
              exact GivesRowB.of HO.out HB.out

set_option maxHeartbeats 1000000 in
theorem stilt_any (v : Value) (p : List Int) (t : Int) (w : World) (hr : Row w v p) (hn : p.length ≤ 1099511627776) :
    Calls Try.prog 40 #[v, .int .i64 t] w (GivesRowB (tiltL p t) (tiltB p t) w) := by
  have e0 := fun w' (hb : Below w.heap.size w w') => svalid_any v p w' (hr.below hb) hn
  obtain ⟨a, cap, rfl⟩ := hr.shape
  obtain ⟨-, hc⟩ := hr.cells
  obtain ⟨n, hN⟩ : ∃ n, n = p.length := ⟨_, rfl⟩
  obtain ⟨b, hb⟩ : ∃ b, b = validB p := ⟨_, rfl⟩
  obtain ⟨c, hc2⟩ : ∃ c, c = inB t (-10) 10 := ⟨_, rfl⟩
  have HV := Lib.hid hb
  have HI := Lib.hid hc2
  have HL := Lib.hid (show tiltB p t = (b && (c && validB (tl p t))) by rw [hb, hc2]; rfl)
  rw [← hN] at hn hc e0 ⊢
  rw [← hb] at e0
  have HN := Lib.hid hN
  have HC := Lib.hid hc
  clear hN hb hr hc2 hc
  have E0 := Lib.hid e0; clear e0
  go_enter Try.func40, Try.ntmps40
  go_wp2
  go_loopw [6, 7] (fun out i wr => ∃ k : Nat, k ≤ n ∧ i = .int .i64 k ∧ ((b = true ∧ c = true) ∨ k = 0) ∧ Own wr w.heap.size out ((tl p t).take k) ∧ Below w.heap.size w wr) (fun _ i _ => n - (intOf i).toNat)
  case atStart => exact ⟨0, Nat.zero_le _, by go_num, .inr rfl, Own.emptyLit w _ (Nat.le_refl _), Below.alloc (Below.refl _ _) (Nat.le_refl _) _⟩
  case round =>
    obtain ⟨k, hk, rfl, hbk, ho, hb⟩ := hrel
    have E1 := Lib.hid (E0.out _ hb)
    have hsz := hb.size
    have hlen : ((tl p t).take k).length ≤ 1099511627776 := by rw [List.length_take, tl_len, ← HN.out]; omega
    have HS := Lib.hid (tl_step p t k)
    obtain ⟨L, hL⟩ : ∃ L, L = (tl p t).take k := ⟨_, rfl⟩
    rw [← hL] at ho hlen HS
    have HLL := Lib.hid hL; clear hL
    have HO := Lib.hid ho
    have HB := Lib.hid hb
    have HBK := Lib.hid hbk; clear hbk
    have e2 := svalid_any _ L _ ho.row hlen
    have IN := Lib.hid (in_any t (-10) 10)
    rw [← HI.out] at IN
    -- the end of the loop: what is built is checked
    have FIN : (k = n ∨ b = false ∨ c = false) → tiltB p t = validB L ∧ tiltL p t = (if validB L then L else []) := by
      intro h
      by_cases hbc : b = true ∧ c = true
      · have hkn : k = n := by rcases h with h | h | h <;> simp_all
        have : L = tl p t := by rw [HLL.out, List.take_of_length_le (by rw [tl_len, ← HN.out]; omega)]
        have h1 : tiltB p t = validB (tl p t) := by rw [HL.out, hbc.1, hbc.2]; simp
        rw [this]
        exact ⟨h1, by unfold tiltL; rw [h1]⟩
      · have h1 : tiltB p t = false := by rw [HL.out]; revert hbc; cases b <;> cases c <;> simp
        have hk0 : k = 0 := HBK.out.resolve_left hbc
        have h2 : L = [] := by rw [HLL.out, hk0]; rfl
        rw [h2, h1]
        refine ⟨rfl, ?_⟩
        unfold tiltL; rw [h1]; rfl
    have HF := Lib.hid FIN; clear FIN
    have hbe : ∀ o : Obj, Below w.heap.size w (wr.alloc o) := fun o => HB.out.alloc hsz o
    have HBE := Lib.hid hbe; clear hbe
    clear ho hb
    by_cases hgo : k < n ∧ b = true ∧ c = true
    · obtain ⟨hlt, rfl, rfl⟩ := hgo
      obtain ⟨t1, t2⟩ := inB_iff.mp HI.out.symm
      obtain ⟨b, off, rfl, hcell⟩ := HC.out k hlt
      have hcell' := (HB.out.cell (World.block_lt_of_cell? w _ hcell)).trans hcell
      have hx := valid_ht' HV.out.symm k
      have HS' := Lib.hid (HS.out (by rw [← HN.out]; exact hlt))
      obtain ⟨x, hX⟩ : ∃ x, x = p.getD k 0 := ⟨_, rfl⟩
      rw [← hX] at hcell' hx HS'
      clear hX e2 hcell HS
      obtain ⟨x1, x2⟩ := hx
      obtain ⟨m1, m2⟩ := mul_bd (show k ≤ 20 by have := valid_len HV.out.symm; rw [← HN.out] at this; omega) t1 t2
      go_wp2_with (first | (go_at_call 49; refine E1.out.mono ?_; rintro e w' ⟨rfl, rfl⟩) | (go_at_call 59; refine (IN.out _).mono ?_; rintro e w' ⟨rfl, rfl⟩) | (at_builtin; refine append1 (by rfl) _ _ (by rfl) (w.heap.size) _ (L) ((x + (k : Int) * t)) (by rfl) (by rfl) (HO.out) (hsz) (hlen) ?_; intro v' w' ho' hg'))
      go_roundw
      case rel => exact ⟨k + 1, by omega, by go_num, .inl (by simp), by rw [HS'.out]; exact ho', below_own HB.out HO.out hsz hg'⟩
      case measure => simp [intOf]; omega
    · have F := Lib.hid (HF.out (by
        by_cases h1 : k = n
        · exact .inl h1
        · right; revert hgo; cases b <;> cases c <;> simp; omega)); clear HF
      cases hv : validB L
      · rw [hv] at F e2
        have F1 := Lib.hid F.out.1; have F2 := Lib.hid F.out.2; clear F
        have E2 := Lib.hid e2; clear e2
        have NIL := Lib.hid (Own.emptyLit wr w.heap.size hsz)
        by_cases hlt : k < n
        · cases b
          · go_wp2_with fail
            refine E1.out.mono ?_; rintro e w' ⟨rfl, rfl⟩
            go_wp2_with fail
            refine E2.out.mono ?_; rintro e w' ⟨rfl, rfl⟩
            go_wp2
            go_ret2
            rw [F1.out, F2.out]
            exact GivesRowB.of NIL.out (HBE.out _)
          · cases c
            · go_wp2_with fail
              refine E1.out.mono ?_; rintro e w' ⟨rfl, rfl⟩
              go_wp2_with fail
              refine (IN.out _).mono ?_; rintro e w' ⟨rfl, rfl⟩
              go_wp2_with fail
              refine E2.out.mono ?_; rintro e w' ⟨rfl, rfl⟩
              go_wp2
              go_ret2
              rw [F1.out, F2.out]
              exact GivesRowB.of NIL.out (HBE.out _)
            · exact absurd ⟨hlt, rfl, rfl⟩ hgo
        · have hke : k = n := by omega
          subst hke
          clear hgo
          go_wp2_with (go_at_call 49; refine E2.out.mono ?_; rintro e w' ⟨rfl, rfl⟩)
          go_ret2
          rw [F1.out, F2.out]
          exact GivesRowB.of NIL.out (HBE.out _)
      · have hkn : k = n := by
          by_cases h1 : k = n
          · exact h1
          · exfalso
            have hbc : ¬ (b = true ∧ c = true) := fun h => hgo ⟨by omega, h.1, h.2⟩
            have hk0 := HBK.out.resolve_left hbc
            have h2 : L = [] := by rw [HLL.out, hk0]; rfl
            rw [h2] at hv
            simp [validB, inB] at hv
        subst hkn
        rw [hv] at F e2
        have F1 := Lib.hid F.out.1; have F2 := Lib.hid F.out.2; clear F
        have E2 := Lib.hid e2; clear e2 hgo
        go_wp2_with (go_at_call 49; refine E2.out.mono ?_; rintro e w' ⟨rfl, rfl⟩)
        go_ret2
        rw [F1.out, F2.out]
        exact GivesRowB.of HO.out HB.out

end Go.Proofs.Ytbehpooapnjpeaa
