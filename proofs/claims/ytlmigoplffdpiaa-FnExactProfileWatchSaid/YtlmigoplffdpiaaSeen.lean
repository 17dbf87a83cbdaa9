/- Contracts: ProfileSeen of the program and of the reference. -/
import Derived.Test.YtlmigoplffdpiaaSees
namespace Go.Proofs.Ytlmigoplffdpiaa
open Go.RowKit

theorem iseen_any (v : Value) (p : List Int) (i : Int) (w : World) (hr : Row w v p) (hn : p.length ≤ 1099511627776) :
    Calls Try.prog 20 #[v, .int .i64 i] w (GivesRow (seenL p i) w) := by
  cases e1 : hasB p i
  · have HB := Lib.hid (seenL_no e1)
    go_enter Try.func20, Try.ntmps20
    go_wp2_with (go_at_call 32; refine (ihas_any _ p _ _ hr hn).mono ?_; rintro e w' ⟨rfl, rfl⟩)
    go_ret
    rw [HB.out]
    exact GivesRow.of (Own.nil _ _) (Below.refl _ _)
  · obtain ⟨i', rfl, hi, hv⟩ := has_split e1
    have HB := Lib.hid (show seenL p i' = sel (fun k => seesB p i' k 0) p.length by rw [seenL_yes e1]; simp)
    have HA := Lib.hid (ihas_any _ p i' _ hr hn)
    rw [e1] at HA
    clear e1
    obtain ⟨a, cap, rfl⟩ := hr.shape
    have hl := valid_len hv
    obtain ⟨n, hN⟩ : ∃ n, n = p.length := ⟨_, rfl⟩
    have HG := Lib.hid (fun (k : Nat) (wr : World) (hk : k < p.length) (hb : Below w.heap.size w wr) => ground_any _ p i' k wr (hr.below hb) hv hi hk)
    rw [← hN] at hn hi hl HA HB HG ⊢
    obtain ⟨l1, l2⟩ := hl
    clear hr hv hN
    go_enter Try.func20, Try.ntmps20
    go_wp2_with (go_at_call 32; refine HA.out.mono ?_; rintro e w' ⟨rfl, rfl⟩)
    go_loopw [5, 14] (fun s j wr => ∃ k : Nat, k ≤ n ∧ j = .int .i64 k ∧ Own wr w.heap.size s (sel (fun k => seesB p i' k 0) k) ∧ Below w.heap.size w wr) (fun _ j _ => n - (intOf j).toNat)
    case atStart => exact ⟨0, Nat.zero_le _, rfl, Own.emptyLit w _ (Nat.le_refl _), Below.alloc (Below.refl _ _) (Nat.le_refl _) _⟩
    case round =>
      obtain ⟨k, hk, rfl, ho, hb⟩ := hrel
      have hsz := hb.size
      have hlen := sel_len (fun k => seesB p i' k 0) k
      have HO := Lib.hid ho; clear ho
      have HBe := Lib.hid hb; clear hb
      by_cases hlt : k < n
      · have G := Lib.hid (HG.out k _ hlt HBe.out)
        cases hf : seesB p i' k 0
        · have HS := Lib.hid (sel_no (fun k => seesB p i' k 0) k hf)
          rw [hf] at G
          clear hf hlen
          go_wp2_with (go_at_call 33; refine G.out.mono ?_; rintro e w2 ⟨rfl, hb2⟩)
          go_roundw
          case rel => exact ⟨k + 1, by omega, by go_num, by rw [HS.out]; exact HO.out.below hb2, HBe.out.trans (hb2.mono hsz)⟩
          case measure => simp [intOf]; omega
        · have HS := Lib.hid (sel_yes (fun k => seesB p i' k 0) k hf)
          rw [hf] at G
          clear hf
          obtain ⟨L, hL⟩ : ∃ L, L = sel (fun k => seesB p i' k 0) k := ⟨_, rfl⟩
          rw [← hL] at HO HS hlen
          clear hL
          go_wp2_with (first | (go_at_call 33; refine G.out.mono ?_; rintro e w2 ⟨rfl, hb2⟩; (have HO2 := Lib.hid (HO.out.below hb2)); (have hsz2 := hb2.size)) | (at_builtin; refine append1 (by rfl) _ _ (by rfl) (w.heap.size) _ (L) ((k : Int)) (by rfl) (by rfl) (HO2.out) (by omega) (by omega) ?_; intro v' w3 ho3 hg3))
          go_roundw
          case rel => exact ⟨k + 1, by omega, by go_num, by rw [HS.out]; exact ho3, below_own (HBe.out.trans (hb2.mono hsz)) HO2.out (by omega) hg3⟩
          case measure => simp [intOf]; omega
      · have hke : k = n := by omega
        subst hke
        clear hlen
        go_wp2
        go_ret
        rw [HB.out]
        exact GivesRow.of HO.out HBe.out

end Go.Proofs.Ytlmigoplffdpiaa
