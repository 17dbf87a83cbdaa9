/- Contracts: ThinHalf of the program and of the reference. -/
import Derived.Test.YtonehpndbbojpaaValid
import Derived.Test.YtonehpndbbojpaaBase
namespace Go.Proofs.Ytonehpndbbojpaa
open Go.RowKit

def halfT (n i : Nat) : Bool := decide (i % 2 = 0 ∨ i + 1 = n)
def halfL (p : List Int) : List Int := if validB p then sel (halfT p.length) p.length else []

theorem halfL_len (p : List Int) (h : p.length ≤ 1048576) : (halfL p).length ≤ 1048576 := by
  unfold halfL
  split
  · have := sel_len (halfT p.length) p.length
    omega
  · simp

theorem ihalf_any (v : Value) (p : List Int) (w : World) (hr : Row w v p) (hn : p.length ≤ 1099511627776) :
    Calls Try.prog 15 #[v] w (GivesRowB (halfL p) (validB p) w) := by
  have e0 := ivalid_any v p w hr hn
  cases hv : validB p
  · have hB := Lib.hid (show halfL p = [] by simp [halfL, hv])
    rw [hv] at e0
    go_enter Try.func15, Try.ntmps15
    go_wp2_with (go_at_call 52; refine e0.mono ?_; rintro e w' ⟨rfl, rfl⟩)
    go_ret2
    rw [hB.out]
    exact GivesRowB.nil w false
  · have hB := Lib.hid (show halfL p = sel (halfT p.length) p.length by simp [halfL, hv])
    rw [hv] at e0
    have hl := valid_len hv
    obtain ⟨a, cap, rfl⟩ := hr.shape
    obtain ⟨n, hN⟩ : ∃ n, n = p.length := ⟨_, rfl⟩
    rw [← hN] at hB hn hl e0 ⊢
    obtain ⟨l1, l2⟩ := hl
    have E0 := Lib.hid e0; clear e0
    clear hr hv hN
    go_enter Try.func15, Try.ntmps15
    go_wp2_with (go_at_call 52; refine E0.out.mono ?_; rintro e w' ⟨rfl, rfl⟩)
    clear E0
    go_loopw [4, 12] (fun out i wr => ∃ k : Nat, k ≤ n ∧ i = .int .i64 k ∧ Own wr w.heap.size out (sel (halfT n) k) ∧ Below w.heap.size w wr) (fun _ i _ => n - (intOf i).toNat)
    case atStart => exact ⟨0, Nat.zero_le _, rfl, Own.emptyLit w _ (Nat.le_refl _), Below.alloc (Below.refl _ _) (Nat.le_refl _) _⟩
    case round =>
      obtain ⟨k, hk, rfl, ho, hb⟩ := hrel
      have hsz := hb.size
      have hlen : (sel (halfT n) k).length ≤ 1099511627776 := by have := sel_len (halfT n) k; omega
      have HY := Lib.hid (sel_yes (halfT n) k)
      have HN := Lib.hid (sel_no (halfT n) k)
      obtain ⟨L, hL⟩ : ∃ L, L = sel (halfT n) k := ⟨_, rfl⟩
      rw [← hL] at ho hlen HY HN
      have HLL := Lib.hid hL; clear hL
      have HO := Lib.hid ho; clear ho
      have HB := Lib.hid hb; clear hb
      by_cases hlt : k < n
      · by_cases hp : (k : Int).tmod 2 = 0
        · have hT := Lib.hid (HY.out (by have : (k : Int) % 2 = 0 := by rw [← Int.tmod_eq_emod_of_nonneg (by omega)]; exact hp
                                         simp only [halfT, decide_eq_true_eq]; omega))
          go_wp2_with (at_builtin; refine append1 (by rfl) _ _ (by rfl) (w.heap.size) _ (L) ((k : Int)) (by rfl) (by rfl) (HO.out) (hsz) (hlen) ?_; intro v' w' ho' hg')
          go_roundw
          case rel => exact ⟨k + 1, by omega, by go_num, by rw [hT.out]; exact ho', below_own HB.out HO.out hsz hg'⟩
          case measure => simp [intOf]; omega
        · by_cases hq : k + 1 = n
          · have hT := Lib.hid (HY.out (by simp only [halfT, decide_eq_true_eq]; omega))
            have hq' : ((k : Int) == (n : Int) - 1) = true := by simp; omega
            have hp' : ((k : Int).tmod 2 == 0) = false := by simpa using hp
            go_wp2_with (at_builtin; refine append1 (by rfl) _ _ (by rfl) (w.heap.size) _ (L) ((k : Int)) (by rfl) (by rfl) (HO.out) (hsz) (hlen) ?_; intro v' w' ho' hg')
            go_roundw
            case rel => exact ⟨k + 1, by omega, by go_num, by rw [hT.out]; exact ho', below_own HB.out HO.out hsz hg'⟩
            case measure => simp [intOf]; omega
          · have hT := Lib.hid (HN.out (by have : ¬ (k : Int) % 2 = 0 := by rw [← Int.tmod_eq_emod_of_nonneg (by omega)]; exact hp
                                           simp only [halfT, decide_eq_false_iff_not]; omega))
            have hq' : ((k : Int) == (n : Int) - 1) = false := by simp; omega
            have hp' : ((k : Int).tmod 2 == 0) = false := by simpa using hp
            go_wp2
            go_roundw
            case rel => exact ⟨k + 1, by omega, by go_num, by rw [hT.out]; exact HO.out, HB.out⟩
            case measure => simp [intOf]; omega
      · have hke : k = n := by omega
        subst hke
        go_wp2
        go_ret2
        rw [hB.out, ← HLL.out]
        exact GivesRowB.of HO.out HB.out

theorem shalf_any (v : Value) (p : List Int) (w : World) (hr : Row w v p) (hn : p.length ≤ 1099511627776) :
    Calls Try.prog 16 #[v] w (GivesRowB (halfL p) (validB p) w) := by
  have e0 := fun w' (hb : Below w.heap.size w w') => svalid_any v p w' (hr.below hb) hn
  obtain ⟨a, cap, rfl⟩ := hr.shape
  obtain ⟨n, hN⟩ : ∃ n, n = p.length := ⟨_, rfl⟩
  obtain ⟨b, hb⟩ : ∃ b, b = validB p := ⟨_, rfl⟩
  have HL := Lib.hid (show (b = true → halfL p = sel (halfT n) n) ∧ (b = false → halfL p = []) by rw [hb, hN]; constructor <;> intro h <;> simp [halfL, h])
  rw [← hN] at hn e0 ⊢
  rw [← hb] at e0 ⊢
  clear hN hb hr
  have E0 := Lib.hid e0; clear e0
  go_enter Try.func16, Try.ntmps16
  go_wp2
  go_loopw [4, 5] (fun out i wr => ∃ k : Nat, k ≤ n ∧ i = .int .i64 k ∧ (b = true ∨ k = 0) ∧ Own wr w.heap.size out (sel (halfT n) k) ∧ Below w.heap.size w wr) (fun _ i _ => n - (intOf i).toNat)
  case atStart => exact ⟨0, Nat.zero_le _, by go_num, .inr rfl, Own.emptyLit w _ (Nat.le_refl _), Below.alloc (Below.refl _ _) (Nat.le_refl _) _⟩
  case round =>
    obtain ⟨k, hk, rfl, hbk, ho, hb⟩ := hrel
    have E1 := Lib.hid (E0.out _ hb)
    have hsz := hb.size
    have hlen : (sel (halfT n) k).length ≤ 1099511627776 := by have := sel_len (halfT n) k; omega
    have HY := Lib.hid (sel_yes (halfT n) k)
    have HN := Lib.hid (sel_no (halfT n) k)
    obtain ⟨L, hL⟩ : ∃ L, L = sel (halfT n) k := ⟨_, rfl⟩
    rw [← hL] at ho hlen HY HN
    have HLL := Lib.hid hL; clear hL
    have HO := Lib.hid ho; clear ho
    have HB := Lib.hid hb; clear hb
    have HBK := Lib.hid hbk; clear hbk
    by_cases hlt : k < n
    · cases b
      · go_wp2_with (go_at_call 53; refine E1.out.mono ?_; rintro e w' ⟨rfl, rfl⟩)
        go_ret2
        have hk0 : k = 0 := HBK.out.resolve_left (by simp)
        subst hk0
        rw [HL.out.2 (by simp)]
        refine GivesRowB.of ?_ HB.out
        have := HO.out
        rw [HLL.out] at this
        exact this
      · by_cases hp : (k : Int).tmod 2 = 0
        · have hT := Lib.hid (HY.out (by have : (k : Int) % 2 = 0 := by rw [← Int.tmod_eq_emod_of_nonneg (by omega)]; exact hp
                                         simp only [halfT, decide_eq_true_eq]; omega))
          go_wp2_with (first | (go_at_call 53; refine E1.out.mono ?_; rintro e w' ⟨rfl, rfl⟩) | (at_builtin; refine append1 (by rfl) _ _ (by rfl) (w.heap.size) _ (L) ((k : Int)) (by rfl) (by rfl) (HO.out) (hsz) (hlen) ?_; intro v' w' ho' hg'))
          go_roundw
          case rel => exact ⟨k + 1, by omega, by go_num, .inl (by simp), by rw [hT.out]; exact ho', below_own HB.out HO.out hsz hg'⟩
          case measure => simp [intOf]; omega
        · by_cases hq : k + 1 = n
          · have hT := Lib.hid (HY.out (by simp only [halfT, decide_eq_true_eq]; omega))
            have hq' : ((k : Int) == (n : Int) - 1) = true := by simp; omega
            have hp' : ((k : Int).tmod 2 == 0) = false := by simpa using hp
            go_wp2_with (first | (go_at_call 53; refine E1.out.mono ?_; rintro e w' ⟨rfl, rfl⟩) | (at_builtin; refine append1 (by rfl) _ _ (by rfl) (w.heap.size) _ (L) ((k : Int)) (by rfl) (by rfl) (HO.out) (hsz) (hlen) ?_; intro v' w' ho' hg'))
            go_roundw
            case rel => exact ⟨k + 1, by omega, by go_num, .inl (by simp), by rw [hT.out]; exact ho', below_own HB.out HO.out hsz hg'⟩
            case measure => simp [intOf]; omega
          · have hT := Lib.hid (HN.out (by have : ¬ (k : Int) % 2 = 0 := by rw [← Int.tmod_eq_emod_of_nonneg (by omega)]; exact hp
                                           simp only [halfT, decide_eq_false_iff_not]; omega))
            have hq' : ((k : Int) == (n : Int) - 1) = false := by simp; omega
            have hp' : ((k : Int).tmod 2 == 0) = false := by simpa using hp
            go_wp2_with (go_at_call 53; refine E1.out.mono ?_; rintro e w' ⟨rfl, rfl⟩)
            go_roundw
            case rel => exact ⟨k + 1, by omega, by go_num, .inl (by simp), by rw [hT.out]; exact HO.out, HB.out⟩
            case measure => simp [intOf]; omega
    · have hke : k = n := by omega
      subst hke
      go_wp2_with (go_at_call 53; refine E1.out.mono ?_; rintro e w' ⟨rfl, rfl⟩)
      go_ret2
      have e1 : L = halfL p := by
        cases b
        · have hk0 : k = 0 := HBK.out.resolve_left (by simp)
          subst hk0
          rw [HL.out.2 (by simp), HLL.out]; rfl
        · rw [HL.out.1 (by simp), HLL.out]
      rw [← e1]
      exact GivesRowB.of HO.out HB.out

end Go.Proofs.Ytonehpndbbojpaa
