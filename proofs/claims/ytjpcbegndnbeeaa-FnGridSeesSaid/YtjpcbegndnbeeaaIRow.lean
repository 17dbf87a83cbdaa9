/- Contract: ProfileRow of the program. -/
import Derived.Test.YtjpcbegndnbeeaaGRow
namespace Go.Proofs.Ytjpcbegndnbeeaa
open Go.RowKit
set_option linter.unusedVariables false

theorem fld_yes {v : Value} {g : List (List Int)} {w : World} (hr : MRow w v g) (hv : gvalB g = true) (n C N : Nat) (hn : n = g.length) (hC : C = colsG g) (hN : N = n * C) (h1 : g.length ≤ 1048576) (h2 : tot g ≤ 1048576) :
    Calls Try.prog 30 #[v] w fun e w' => ∃ G, e = .returned (.tuple #[.agg #[.int .i64 n, .int .i64 C, .slice (some ⟨G, 0, none⟩) N N], .bool true]) ∧ Own w' w.heap.size (.slice (some ⟨G, 0, none⟩) N N) (flatG g n C N) ∧ Below w.heap.size w w' := by
  refine (fieldOf_any v g w hr h1 h2).mono ?_
  rintro e w' ⟨⟨-, G, he, ho⟩ | ⟨hf, -⟩, hb⟩
  · rw [hN, hn, hC]
    exact ⟨G, he, ho, hb⟩
  · rw [hv] at hf; cases hf
theorem fld_no {v : Value} {g : List (List Int)} {w : World} (hr : MRow w v g) (hv : gvalB g = false) (h1 : g.length ≤ 1048576) (h2 : tot g ≤ 1048576) :
    Calls Try.prog 30 #[v] w fun e w' => e = .returned (.tuple #[.agg #[.int .i64 0, .int .i64 0, .slice none 0 0], .bool false]) ∧ Below w.heap.size w w' := by
  refine (fieldOf_any v g w hr h1 h2).mono ?_
  rintro e w' ⟨⟨hf, -⟩ | ⟨-, he⟩, hb⟩
  · rw [hv] at hf; cases hf
  · exact ⟨he, hb⟩
/-- A row that is filled out of a field. -/
def PR (w : World) (Bf G D Gr n C N m : Nat) (g : List (List Int)) (f : Nat → Int) (k : Nat) (wr : World) : Prop :=
  FldAt Bf n C (.slice (some ⟨G, 0, none⟩) N N) wr ∧ Own wr w.heap.size (.slice (some ⟨G, 0, none⟩) N N) (flatG g n C N) ∧ Own wr D (.slice (some ⟨Gr, 0, none⟩) m m) (fillF f m k) ∧ Below w.heap.size w wr
theorem PR.below {w wr w' : World} {Bf G D Gr n C N m k : Nat} {g : List (List Int)} {f : Nat → Int} (h : PR w Bf G D Gr n C N m g f k wr) (hb : Below wr.heap.size wr w') : PR w Bf G D Gr n C N m g f k w' :=
  ⟨h.1.below hb, h.2.1.below hb, h.2.2.1.below hb, h.2.2.2.trans (hb.mono h.2.2.2.size)⟩
theorem PR.store {w wr : World} {Bf G D Gr n C N m k : Nat} {g : List (List Int)} {f : Nat → Int} (h : PR w Bf G D Gr n C N m g f k wr) (h1 : w.heap.size ≤ Gr) (h2 : Bf < Gr) (h3 : G < Gr) :
    PR w Bf G D Gr n C N m g f (k + 1) (wr.setCell ⟨Gr, k, none⟩ (.int .i64 (f k))) := by
  refine ⟨h.1.other (by omega) _ _, h.2.1.setOther (fun j hj => ?_) _ _, ?_, h.2.2.2.setCell (p := ⟨Gr, k, none⟩) h1 _⟩
  · simp [Value.ownBlock] at hj; omega
  · have := (h.2.2.1.store k (f k)).1
    rw [fillF_set] at this
    exact this
/-- The field's row is made. -/
theorem PR.start {w w0 w1 : World} {Bf G n C N m : Nat} {g : List (List Int)} {f : Nat → Int} (hF : FldAt Bf n C (.slice (some ⟨G, 0, none⟩) N N) w0) (hO : Own w0 w.heap.size (.slice (some ⟨G, 0, none⟩) N N) (flatG g n C N)) (hb : Below w.heap.size w w0)
    (hown : w1.ownsRow w0.heap.size 3 1 (.slice (some ⟨w0.heap.size, 0, none⟩) m m) m (madeCells (Value.int .i64 0).cells (m * 1)).toList) (hg : w0.grownBy w1 none) : PR w Bf G w0.heap.size w0.heap.size n C N m g f 0 w1 :=
  ⟨hF.grown hg (by simp), hO.kept hg (fun _ _ e => by cases e), by rw [fillF_zero]; exact Own.made hown, hb.trans (below_of_grown hg hb.size (fun k e => by cases e))⟩

set_option maxHeartbeats 1000000 in
theorem iprow_any (v : Value) (g : List (List Int)) (r : Int) (w : World) (hr : MRow w v g) (hn : g.length ≤ 1048576) (hm : tot g ≤ 1048576) :
    Calls Try.prog 10 #[v, .int .i64 r] w (GivesRowB (prowL g r) (prowB g r) w) := by
  cases hv : gvalB g
  · have HF := Lib.hid (fld_no hr hv hn hm)
    have HP := Lib.hid (show prowB g r = false ∧ prowL g r = [] by have h : prowB g r = false := by simp [prowB, hv]
                                                                   exact ⟨h, by simp [prowL, h]⟩)
    obtain ⟨a, cap, rfl⟩ := hr.shape
    clear hr hv
    go_enter Try.func10, Try.ntmps10
    go_wp2_with fail
    refine HF.out.mono ?_
    rintro e w1 ⟨rfl, hb⟩
    go_wp2
    go_ret2
    rw [HP.out.1, HP.out.2]
    exact GivesRowB.mk rfl (Own.nil _ _) (hb.trans ((Below.alloc (Below.refl w1.heap.size w1) (Nat.le_refl _) _).mono hb.size))
  · obtain ⟨g1, g2, g3, g4⟩ := gval_rows hv
    obtain ⟨n, hN⟩ : ∃ n, n = g.length := ⟨_, rfl⟩
    obtain ⟨C, hC⟩ : ∃ C, C = colsG g := ⟨_, rfl⟩
    obtain ⟨N, hNN⟩ : ∃ N, N = n * C := ⟨_, rfl⟩
    have HF := Lib.hid (fld_yes hr hv n C N hN hC hNN hn hm)
    obtain ⟨a, cap, rfl⟩ := hr.shape
    have HV := Lib.hid hv
    have HN := Lib.hid hN
    have HC := Lib.hid hC
    have HNN := Lib.hid hNN
    have HH := Lib.hid (fun G wx => fhas_any n C r 0 (some ⟨G, 0, none⟩) N N wx)
    rw [← hN] at g1 g2
    rw [← hC] at g3 g4
    have hN49 : N ≤ 49 := by rw [hNN]; exact Nat.mul_le_mul g2 g4
    by_cases hin : 0 ≤ r ∧ r < (n : Int)
    · obtain ⟨q1, q2⟩ := hin
      obtain ⟨k, rfl⟩ : ∃ k : Nat, r = (k : Int) := ⟨r.toNat, by omega⟩
      have hk : k < n := by omega
      have hhas : decide (0 ≤ (k : Int) ∧ (k : Int) < (n : Int) ∧ (0 : Int) ≤ 0 ∧ (0 : Int) < (C : Int)) = true := decide_eq_true (by omega)
      rw [hhas] at HH
      have HP := Lib.hid (show prowB g (k : Int) = true ∧ prowL g (k : Int) = fillF (cellG g k) C C by
        have h : prowB g (k : Int) = true := by simp [prowB, hv]; omega
        refine ⟨h, ?_⟩
        rw [hC, row_fill hv k (by omega)]
        simp [prowL, h])
      have HA := Lib.hid (show ∀ G c wx, Own wx w.heap.size (.slice (some ⟨G, 0, none⟩) N N) (flatG g n C N) → c < C → Calls Try.prog 32 #[.agg #[.int .i64 n, .int .i64 C, .slice (some ⟨G, 0, none⟩) N N], .int .i64 k, .int .i64 c] wx fun e w' => e = .returned (.int .i64 (cellG g k c)) ∧ Below wx.heap.size wx w' from fun G c wx ho hc => by
        have := fat_any n C k c (some ⟨G, 0, none⟩) N N (flatG g n C N) wx ho.row hNN hk hc (by omega)
        rw [hNN, flat_getD g hk hc] at this
        rw [hNN]
        exact this)
      obtain ⟨i0, hi, hz0, hz1, hz2⟩ := info_parts Try.infoInt
      clear hr hv hN hC hNN hn hm hhas
      go_enter Try.func10, Try.ntmps10
      go_wp2_with fail
      refine HF.out.mono ?_
      rintro e w1 ⟨G, rfl, ho, hb⟩
      have HB1 := Lib.hid (hb.trans ((below_alloc w1 (.cells #[.int .i64 n, .int .i64 C, .slice (some ⟨G, 0, none⟩) N N] 47)).mono hb.size))
      have HO1 := Lib.hid (ho.below (below_alloc w1 (.cells #[.int .i64 n, .int .i64 C, .slice (some ⟨G, 0, none⟩) N N] 47)))
      have HG1 := Lib.hid (ho.lt G rfl)
      clear hb ho
      go_wp2_with fail
      refine (HH.out G _).mono ?_
      rintro e w2 ⟨rfl, hb⟩
      have F2 := (FldAt.new w1 n C (.slice (some ⟨G, 0, none⟩) N N)).below hb
      have HB2 := Lib.hid (HB1.out.trans (hb.mono HB1.out.size))
      have HO2 := Lib.hid (HO1.out.below hb)
      clear hb
      obtain ⟨f0, f1, f2, f3⟩ := F2.cells
      have HF2 := Lib.hid F2
      clear F2
      go_wp2_with (at_make; refine wpList_make_full _ rfl _ _ 24 rfl w2.heap.size 3 i0 (.int .i64 0) 1 Try.underlying24 hi hz0 hz1 .i64 .i64 _ _ C rfl rfl rfl rfl (by rw [hz2]; omega) (by unfold maxLen; omega) (Nat.le_refl _) ?_; intro w3 hown hgrow)
      have HS := Lib.hid (PR.start (f := cellG g k) HF2.out HO2.out HB2.out hown hgrow)
      have d1 : w.heap.size ≤ w2.heap.size := HB2.out.size
      have d2 : G < w2.heap.size := by have := HG1.out.2; omega
      clear hown hgrow
      go_loopw [28] (fun i wr => ∃ c : Nat, c ≤ C ∧ i = .int .i64 c ∧ PR w w1.heap.size G w2.heap.size w2.heap.size n C N C g (cellG g k) c wr) (fun i _ => C - (intOf i).toNat)
      case atStart => exact ⟨0, Nat.zero_le _, rfl, HS.out⟩
      case round =>
        obtain ⟨c, hc, rfl, hs⟩ := hrel
        clear HS
        have HS := Lib.hid hs
        clear hs f1 f2 f3
        obtain ⟨-, f1, f2, f3⟩ := HS.out.1.cells
        by_cases hlt : c < C
        · go_wp2_with fail
          refine (HA.out G c _ HS.out.2.1 hlt).mono ?_
          rintro e w4 ⟨rfl, hb⟩
          have HS4 := Lib.hid (HS.out.below hb)
          have hold := HS4.out.2.2.1.cellAt c hlt
          have hfr := HS4.out.2.2.1.frozenAt c
          have HS5 := Lib.hid (HS4.out.store d1 f0 d2)
          clear hb
          go_wp2
          go_roundw
          case rel => exact ⟨c + 1, by omega, by go_num, HS5.out⟩
          case measure => simp [intOf]; omega
        · have hce : c = C := by omega
          subst hce
          go_wp2
          go_ret2
          rw [HP.out.1, HP.out.2]
          exact GivesRowB.mk (by rw [fillF_len]) (HS.out.2.2.1.mono d1) HS.out.2.2.2
    · have hhas : decide (0 ≤ r ∧ r < (n : Int) ∧ (0 : Int) ≤ 0 ∧ (0 : Int) < (C : Int)) = false := decide_eq_false (by omega)
      rw [hhas] at HH
      have HP := Lib.hid (show prowB g r = false ∧ prowL g r = [] by
        have h : prowB g r = false := by simp [prowB, hv]; omega
        exact ⟨h, by simp [prowL, h]⟩)
      clear hr hv hN hC hNN hn hm hhas hin
      go_enter Try.func10, Try.ntmps10
      go_wp2_with fail
      refine HF.out.mono ?_
      rintro e w1 ⟨G, rfl, ho, hb⟩
      have HB1 := Lib.hid (hb.trans ((below_alloc w1 (.cells #[.int .i64 n, .int .i64 C, .slice (some ⟨G, 0, none⟩) N N] 47)).mono hb.size))
      clear hb ho
      go_wp2_with fail
      refine (HH.out G _).mono ?_
      rintro e w2 ⟨rfl, hb⟩
      have HB2 := Lib.hid (HB1.out.trans (hb.mono HB1.out.size))
      clear hb
      go_wp2
      go_ret2
      rw [HP.out.1, HP.out.2]
      exact GivesRowB.mk rfl (Own.nil _ _) HB2.out

end Go.Proofs.Ytjpcbegndnbeeaa
