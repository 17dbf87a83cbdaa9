/- Contract: PassWay of the program. -/
import Derived.Test.YtkhhloeemecokaaIWay
namespace Go.Proofs.Ytkhhloeemecokaa
open Go.RowKit
set_option linter.unusedVariables false



set_option maxRecDepth 4000 in
set_option maxHeartbeats 4000000 in
theorem ipway_any (v : Value) (g : List (List Int)) (a b : Int) (w : World) (hr : MRow w v g) (h1 : g.length ≤ 1048576) (h2 : tot g ≤ 1048576) :
    Calls Try.prog 13 #[v, .int .i64 a, .int .i64 b] w (GivesRowB (pwayL g a b) (pwayB g a b) w) := by
  cases hv : gvalB g
  · have HF := Lib.hid (fld_no hr hv h1 h2)
    have HB := Lib.hid (pway_val (a := a) (b := b) hv)
    clear hr hv
    go_enter Try.func13, Try.ntmps13
    go_wp2_with (go_at_call 36; refine HF.out.mono ?_; rintro e w1 ⟨rfl, hb1⟩)
    go_ret2
    rw [show pwayL g a b = [] by unfold pwayL; rw [HB.out]; rfl, HB.out]
    exact GivesRowB.no (Below.alloc hb1 hb1.size _)
  · obtain ⟨p1, p2, p3, p4⟩ := gval_rows hv
    obtain ⟨n, hn⟩ : ∃ n, n = g.length := ⟨_, rfl⟩
    obtain ⟨C, hC⟩ : ∃ C, C = colsG g := ⟨_, rfl⟩
    obtain ⟨N, hN⟩ : ∃ N, N = n * C := ⟨_, rfl⟩
    have HF := Lib.hid (fld_yes hr hv n C N hn hC hN h1 h2)
    have hG := grVal hv hn hC
    have hff := flat_fun (C := C) hn (by omega)
    obtain ⟨zs, hz⟩ : ∃ zs, zs = flatG g n C N := ⟨_, rfl⟩
    have hzl : zs.length = N := by rw [hz, flat_len, ← hN]
    have hNg : N = g.length * colsG g := by rw [hN, hn, hC]
    rw [← hN, ← hz] at hff
    rw [← hN] at hG
    rw [← hz] at HF
    rw [← hn] at p1 p2
    rw [← hC] at p3 p4
    have HCe := Lib.hid (fun (i : Int) (s : Value) (wr : World) (hq : Row wr s zs) => icell_any s zs n C N i wr hq hzl.symm)
    by_cases ha : 0 ≤ a ∧ a < (N : Int)
    · by_cases hb : 0 ≤ b ∧ b < (N : Int)
      · obtain ⟨a, rfl⟩ : ∃ k : Nat, a = k := ⟨a.toNat, by omega⟩
        obtain ⟨b, rfl⟩ : ∃ k : Nat, b = k := ⟨b.toNat, by omega⟩
        have haN : a < N := by omega
        have hbN : b < N := by omega
        have hpw := pway_in hv hNg haN hbN
        rw [show pwayL g a b = wayL N (nearL n C) (hgtG g C) a b by unfold pwayL; rw [if_pos hpw, ← hNg, ← hn, ← hC, Int.toNat_natCast, Int.toNat_natCast], hpw]
        exact iway_in (.slice none 0 0) zs n C N a b (hgtG g C) v w hzl hN p1 p2 p3 p4 haN hbN hff.symm hG HF.out
      · have HB := Lib.hid (pway_b (a := a) hNg hb)
        have HTa := Lib.hid (show decide (0 ≤ a ∧ a < (N : Int)) = true from decide_eq_true ha)
        have HTb := Lib.hid (show decide (0 ≤ b ∧ b < (N : Int)) = false from decide_eq_false hb)
        clear hr hv hG hff hzl hn hC hN hNg ha hb hz p1 p2 p3 p4
        go_enter Try.func13, Try.ntmps13
        go_wp2_with (go_at_call 36; refine HF.out.mono ?_; rintro e w1 ⟨G, rfl, ho, hb1⟩; (have HR1 := Lib.hid (ho.row.below (Below.alloc (Below.refl w1.heap.size w1) (Nat.le_refl _) (.cells #[.int .i64 n, .int .i64 C, .slice (some ⟨G, 0, none⟩) N N] 49)))); (have HB1 := Lib.hid (Below.alloc hb1 hb1.size (.cells #[.int .i64 n, .int .i64 C, .slice (some ⟨G, 0, none⟩) N N] 49))); (have F1 := Lib.hid (FldAt.new w1 n C (.slice (some ⟨G, 0, none⟩) N N))); clear ho hb1)
        go_at_call 37
        obtain ⟨W1, hW1⟩ : ∃ W1, W1 = w1.alloc (.cells #[.int .i64 n, .int .i64 C, .slice (some ⟨G, 0, none⟩) N N] 49) := ⟨_, rfl⟩
        rw [← hW1] at HR1 HB1 F1 ⊢
        clear hW1
        refine (HCe.out _ _ _ HR1.out).mono ?_
        rintro e w2 ⟨rfl, hb2⟩
        rw [HTa.out]
        have HR2 := Lib.hid (HR1.out.below hb2)
        have HB2 := Lib.hid (HB1.out.trans (hb2.mono HB1.out.size))
        obtain ⟨-, f0, f1, f2⟩ := (F1.out.below hb2).cells
        clear hb2 HB1 F1 HR1
        go_wp2_with fail
        go_at_call 37
        refine (HCe.out _ _ _ HR2.out).mono ?_
        rintro e w3 ⟨rfl, hb3⟩
        rw [HTb.out]
        go_wp2_with fail
        go_ret2
        rw [show pwayL g a b = [] by unfold pwayL; rw [HB.out]; rfl, HB.out]
        exact GivesRowB.no (HB2.out.trans (hb3.mono HB2.out.size))
    · have HB := Lib.hid (pway_a (b := b) hNg ha)
      have HTa := Lib.hid (show decide (0 ≤ a ∧ a < (N : Int)) = false from decide_eq_false ha)
      clear hr hv hG hff hzl hn hC hN hNg ha hz p1 p2 p3 p4
      go_enter Try.func13, Try.ntmps13
      go_wp2_with (go_at_call 36; refine HF.out.mono ?_; rintro e w1 ⟨G, rfl, ho, hb1⟩; (have HR1 := Lib.hid (ho.row.below (Below.alloc (Below.refl w1.heap.size w1) (Nat.le_refl _) (.cells #[.int .i64 n, .int .i64 C, .slice (some ⟨G, 0, none⟩) N N] 49)))); (have HB1 := Lib.hid (Below.alloc hb1 hb1.size (.cells #[.int .i64 n, .int .i64 C, .slice (some ⟨G, 0, none⟩) N N] 49))); (have F1 := Lib.hid (FldAt.new w1 n C (.slice (some ⟨G, 0, none⟩) N N))); clear ho hb1)
      go_at_call 37
      obtain ⟨W1, hW1⟩ : ∃ W1, W1 = w1.alloc (.cells #[.int .i64 n, .int .i64 C, .slice (some ⟨G, 0, none⟩) N N] 49) := ⟨_, rfl⟩
      rw [← hW1] at HR1 HB1 F1 ⊢
      clear hW1
      refine (HCe.out _ _ _ HR1.out).mono ?_
      rintro e w2 ⟨rfl, hb2⟩
      rw [HTa.out]
      go_wp2_with fail
      go_ret2
      rw [show pwayL g a b = [] by unfold pwayL; rw [HB.out]; rfl, HB.out]
      exact GivesRowB.no (HB1.out.trans (hb2.mono HB1.out.size))

end Go.Proofs.Ytkhhloeemecokaa
