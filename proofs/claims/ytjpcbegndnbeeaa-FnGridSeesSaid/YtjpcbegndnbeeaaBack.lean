/- Contracts: ProfileBack of the program and of the reference. -/
import Derived.Test.YtjpcbegndnbeeaaValid
import Derived.Test.YtjpcbegndnbeeaaBase
namespace Go.Proofs.Ytjpcbegndnbeeaa
open Go.RowKit

def backL (p : List Int) : List Int := if validB p then p.reverse else []

theorem backL_len (p : List Int) (h : p.length ≤ 1048576) : (backL p).length ≤ 1048576 := by unfold backL; split <;> simp [h]

theorem rev_step (p : List Int) (k : Nat) (hk : k < p.length) : (p.drop (p.length - k)).reverse ++ [p.getD (p.length - 1 - k) 0] = (p.drop (p.length - (k + 1))).reverse := by
  have h : p.length - (k + 1) < p.length := by omega
  rw [List.drop_eq_getElem_cons h, List.reverse_cons, show p.length - (k + 1) + 1 = p.length - k by omega]
  simp [show p.length - 1 - k = p.length - (k + 1) by omega, h]

theorem back_fill (p : List Int) (k : Nat) (hk : k < p.length) :
    (List.replicate (p.length - k) 0 ++ (p.take k).reverse).set (p.length - 1 - k) (p.getD k 0) = List.replicate (p.length - (k + 1)) 0 ++ (p.take (k + 1)).reverse := by
  rw [List.set_append_left _ _ (by simp; omega), show p.length - k = (p.length - (k + 1)) + 1 by omega, List.replicate_succ', List.set_append_right _ _ (by simp; omega)]
  rw [List.length_replicate, show p.length - 1 - k - (p.length - (k + 1)) = 0 by omega, List.set_cons_zero, List.take_succ_eq_append_getElem hk, List.reverse_append]
  simp [hk]

theorem iback_any (v : Value) (p : List Int) (w : World) (hr : Row w v p) (hn : p.length ≤ 1099511627776) :
    Calls Try.prog 21 #[v] w (GivesRowB (backL p) (validB p) w) := by
  have e0 := ivalid_any v p w hr hn
  cases hv : validB p
  · have hB := Lib.hid (show backL p = [] by simp [backL, hv])
    rw [hv] at e0
    go_enter Try.func21, Try.ntmps21
    go_wp2_with (go_at_call 41; refine e0.mono ?_; rintro e w' ⟨rfl, rfl⟩)
    go_ret2
    rw [hB.out]
    exact GivesRowB.nil w false
  · have hB := Lib.hid (show backL p = p.reverse by simp [backL, hv])
    rw [hv] at e0
    have hl := valid_len hv
    obtain ⟨a, cap, rfl⟩ := hr.shape
    obtain ⟨-, hc⟩ := hr.cells
    obtain ⟨i0, hi, hz0, hz1, hz2⟩ := info_parts Try.infoInt
    obtain ⟨n, hN⟩ : ∃ n, n = p.length := ⟨_, rfl⟩
    rw [← hN] at hc hn hl e0 ⊢
    obtain ⟨l1, l2⟩ := hl
    have HN := Lib.hid hN; clear hN
    have HC := Lib.hid hc; clear hc
    have E0 := Lib.hid e0; clear e0
    clear hr hv
    have hm : n ≤ maxLen := by unfold maxLen; omega
    go_enter Try.func21, Try.ntmps21
    go_wp2_with (first | (go_at_call 41; refine E0.out.mono ?_; rintro e w' ⟨rfl, rfl⟩) | (at_make; refine wpList_make_full _ rfl _ _ 24 rfl w.heap.size 3 i0 (.int .i64 0) 1 Try.underlying24 hi hz0 hz1 .i64 .i64 _ _ n rfl rfl rfl rfl (by rw [hz2]; omega) hm (Nat.le_refl _) ?_; intro w1 hown hgrow))
    go_loopw [15] (fun i wr => ∃ k : Nat, k ≤ n ∧ i = .int .i64 k ∧ Own wr w.heap.size (.slice (some ⟨w.heap.size, 0, none⟩) n n) (List.replicate (n - k) 0 ++ (p.take k).reverse) ∧ Below w.heap.size w wr) (fun i _ => n - (intOf i).toNat)
    case atStart => exact ⟨0, Nat.zero_le _, rfl, by simpa using Own.made hown, below_of_grown hgrow (Nat.le_refl _) (fun k e => by cases e)⟩
    case round =>
      obtain ⟨k, hk, rfl, ho, hb⟩ := hrel
      by_cases hlt : k < n
      · obtain ⟨b, off, rfl, hcell⟩ := HC.out k hlt
        have hcell' := (hb.cell (World.block_lt_of_cell? w _ hcell)).trans hcell
        have hfr := ho.frozenAt (n - 1 - k)
        have hold := ho.cellAt (n - 1 - k) (by omega)
        have H := Lib.hid (ho.store (n - 1 - k) (p.getD k 0)); clear ho
        have hb' := Lib.hid hb
        clear hb hcell hown hgrow
        go_wp2
        go_roundw
        case rel => exact ⟨k + 1, by omega, by go_num, by have h := back_fill p k (by rw [← HN.out]; exact hlt); rw [← HN.out] at h; rw [← h]; exact H.out.1, hb'.out.setCell (Nat.le_refl _) _⟩
        case measure => simp [intOf]; omega
      · have hke : k = n := by omega
        subst hke
        go_wp2
        go_ret2
        refine GivesRowB.mk (by rw [hB.out, List.length_reverse]; exact HN.out) ?_ hb
        rw [Nat.sub_self, List.replicate_zero, List.nil_append, List.take_of_length_le (Nat.le_of_eq HN.out.symm)] at ho
        rw [hB.out]; exact ho

end Go.Proofs.Ytjpcbegndnbeeaa
