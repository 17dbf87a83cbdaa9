/- Contract: PassBetween of the reference. -/
import Derived.Test.YtkhhloeemecokaaSPeak
import Derived.Test.YtkhhloeemecokaaPlainPw
namespace Go.Proofs.Ytkhhloeemecokaa
open Go.RowKit
set_option linter.unusedVariables false

theorem pway_has (g : List (List Int)) (a b : Int) : pwayB g a b = (hasG g a && hasG g b) := by
  unfold pwayB hasG inG
  cases gvalB g <;> simp
set_option maxHeartbeats 1000000 in
theorem spbet_any (v : Value) (g : List (List Int)) (a b : Int) (w : World) (hr : MRow w v g) (h1 : g.length ≤ 1048576) (h2 : tot g ≤ 1048576) :
    Calls Try.prog 39 #[v, .int .i64 a, .int .i64 b] w fun e w' => e = .returned (.int .i64 (pbV g a b)) ∧ Below w.heap.size w w' := by
  have HHa := Lib.hid (l4Has_any v g a w hr h1 h2)
  have HHb := Lib.hid (fun (wr : World) (hb : Below w.heap.size w wr) => l4Has_any v g b wr (hr.below hb) h1 h2)
  cases ha : hasG g a
  · have HB := Lib.hid (show pbV g a b = -1 by unfold pbV; rw [pway_has, ha]; rfl)
    rw [ha] at HHa
    clear hr ha
    go_enter Try.func39, Try.ntmps39
    go_wp2_with (go_at_call 65; refine HHa.out.mono ?_; rintro e w1 ⟨rfl, hb1⟩)
    go_ret
    exact ⟨ret_int HB.out.symm, hb1⟩
  · rw [ha] at HHa
    cases hb : hasG g b
    · have HB := Lib.hid (show pbV g a b = -1 by unfold pbV; rw [pway_has, ha, hb]; rfl)
      rw [hb] at HHb
      clear hr ha hb
      go_enter Try.func39, Try.ntmps39
      go_wp2_with fail
      go_at_call 65
      refine HHa.out.mono ?_
      rintro e w1 ⟨rfl, hb1⟩
      go_wp2_with (go_at_call 65; refine (HHb.out _ hb1).mono ?_; rintro e w2 ⟨rfl, hb2⟩)
      go_ret
      exact ⟨ret_int HB.out.symm, hb1.trans (hb2.mono hb1.size)⟩
    · rw [hb] at HHb
      have hpw : pwayB g a b = true := by rw [pway_has, ha, hb]; rfl
      have ha' := ha
      have hb' := hb
      unfold hasG at ha' hb'
      simp only [Bool.and_eq_true, decide_eq_true_eq] at ha' hb'
      obtain ⟨hv, ha0, ha1⟩ := ha'
      obtain ⟨-, hb0, hb1⟩ := hb'
      obtain ⟨a, rfl⟩ : ∃ k : Nat, a = k := ⟨a.toNat, by omega⟩
      obtain ⟨b, rfl⟩ : ∃ k : Nat, b = k := ⟨b.toNat, by omega⟩
      obtain ⟨n, hn⟩ : ∃ n, n = g.length := ⟨_, rfl⟩
      obtain ⟨C, hC⟩ : ∃ C, C = colsG g := ⟨_, rfl⟩
      obtain ⟨N, hN⟩ : ∃ N, N = n * C := ⟨_, rfl⟩
      rw [← hn, ← hC, ← hN] at ha1 hb1
      have haN : a < N := by omega
      have hbN : b < N := by omega
      have HVal := Lib.hid (show pbV g a b = passV (nearL n C) (hgtG g C) a b by unfold pbV; rw [if_pos hpw, ← hn, ← hC, Int.toNat_natCast, Int.toNat_natCast])
      have HPa := Lib.hid (fun (wr : World) (hb : Below w.heap.size w wr) => l4Passes_any v g n C N a wr (hr.below hb) hv hn hC hN haN)
      have HPg := Lib.hid (passL_get (nb := nearL n C) (h := hgtG g C) (a := a) hbN)
      have HPl := Lib.hid (passL_len N (nearL n C) (hgtG g C) a)
      obtain ⟨P, hP⟩ : ∃ P, P = passL N (nearL n C) (hgtG g C) a := ⟨_, rfl⟩
      rw [← hP] at HPa HPg HPl
      obtain ⟨p, hp⟩ : ∃ p, p = passV (nearL n C) (hgtG g C) a b := ⟨_, rfl⟩
      rw [← hp] at HPg HVal
      have dB : (b : Int) < (N : Int) := by omega
      clear hr ha hb hv ha0 ha1 hb0 hb1 hn hC hN hP hp hpw haN
      go_enter Try.func39, Try.ntmps39
      go_wp2_with fail
      go_at_call 65
      refine HHa.out.mono ?_
      rintro e w1 ⟨rfl, hb1⟩
      go_wp2_with fail
      go_at_call 65
      refine (HHb.out _ hb1).mono ?_
      rintro e w2 ⟨rfl, hb2⟩
      have HB2 := Lib.hid (hb1.trans (hb2.mono hb1.size))
      clear hb1 hb2
      go_wp2_with fail
      go_at_call 52
      refine (HPa.out _ HB2.out).mono ?_
      rintro e w4 ⟨aP, cP, rfl, ho4, hb4⟩
      rw [HPl.out] at ho4 ⊢
      obtain ⟨gP, rfl⟩ := ho4.addr (by omega)
      have kp := ho4.cellAt b hbN
      rw [HPg.out] at kp
      have HB4 := Lib.hid (HB2.out.trans (hb4.mono HB2.out.size))
      clear ho4 hb4
      go_wp2_with fail
      go_ret
      exact ⟨ret_int HVal.out.symm, HB4.out⟩

end Go.Proofs.Ytkhhloeemecokaa
