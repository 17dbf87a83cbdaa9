/- Contract: GridValid of the reference. -/
import Derived.Test.YtkhhloeemecokaaMat
import Derived.Test.YtkhhloeemecokaaPlainG
import Derived.Test.YtkhhloeemecokaaValid
import Derived.IntWalk
namespace Go.Proofs.Ytkhhloeemecokaa
open Go.RowKit

set_option maxHeartbeats 1000000 in
theorem sgval_any (v : Value) (g : List (List Int)) (w : World) (hr : MRow w v g) (hn : g.length ≤ 1048576) (hm : tot g ≤ 1048576) :
    Calls Try.prog 73 #[v] w fun e w' => e = .returned (.bool (gvalB g)) ∧ Below w.heap.size w w' := by
  obtain ⟨a, cap, rfl⟩ := hr.shape
  obtain ⟨-, hc⟩ := hr.cells
  obtain ⟨n, hN⟩ : ∃ n, n = g.length := ⟨_, rfl⟩
  rw [← hN] at hc hn ⊢
  by_cases h1 : 1 ≤ n ∧ n ≤ 7
  · have hi1 : inB (n : Int) 1 7 = true := by simp [inB]; omega
    obtain ⟨b, off, u0, rfl, hcell0, hrow0⟩ := hc 0 (by omega)
    obtain ⟨a0, cap0, rfl⟩ := hrow0.shape
    obtain ⟨C, hC⟩ : ∃ C, C = (g.getD 0 []).length := ⟨_, rfl⟩
    have hCb : C ≤ 1048576 := by rw [hC]; exact Nat.le_trans (tot_row g 0 (by omega)) hm
    rw [← hC] at hcell0
    rw [Nat.add_zero] at hcell0
    have HCg := Lib.hid (show colsG g = C from hC.symm)
    have HI := Lib.hid (fun x lo hi wx => in_any x lo hi wx)
    have HN := Lib.hid hN
    have HC := Lib.hid hc
    have HM := Lib.hid hm
    have k0 : (0 : Int) < (n : Int) := by omega
    clear hc hr hN hC hm hrow0
    by_cases h2 : 1 ≤ C ∧ C ≤ 7
    · have hi2 : inB (C : Int) 1 7 = true := by simp [inB]; omega
      obtain ⟨p1, p2⟩ := h1
      obtain ⟨p3, p4⟩ := h2
      go_enter Try.func73, Try.ntmps73
      go_wp2_with fail
      refine (HI.out _ _ _ _).mono ?_
      rintro e w' ⟨rfl, rfl⟩
      go_wp2_with fail
      refine (HI.out _ _ _ _).mono ?_
      rintro e w' ⟨rfl, rfl⟩
      go_wp2
      go_loopw [3] (fun i wr => ∃ r : Nat, r ≤ n ∧ i = .int .i64 r ∧ (∀ j, j < r → rowOk C (g.getD j []) = true) ∧ Below w.heap.size w wr) (fun i _ => n - (intOf i).toNat)
      case atStart => exact ⟨0, Nat.zero_le _, rfl, fun j hj => by omega, Below.refl _ _⟩
      case round =>
        obtain ⟨r, hr, rfl, hok, hb⟩ := hrel
        have HOk := Lib.hid hok; clear hok
        have HB := Lib.hid hb; clear hb
        by_cases hlt : r < n
        · obtain ⟨b', off', u, hbb, hcell, hrow⟩ := HC.out r hlt
          simp only [Option.some.injEq, Addr.mk.injEq, and_true] at hbb
          obtain ⟨rfl, rfl⟩ := hbb
          obtain ⟨a', cap', rfl⟩ := hrow.shape
          obtain ⟨z, hz⟩ : ∃ z, z = g.getD r [] := ⟨_, rfl⟩
          rw [← hz] at hcell hrow
          obtain ⟨m, hm⟩ : ∃ m, m = z.length := ⟨_, rfl⟩
          have hmb : m ≤ 1048576 := by rw [hm, hz]; exact Nat.le_trans (tot_row g r (by have := HN.out; omega)) HM.out
          rw [← hm] at hcell
          have hc0 := (HB.out.cell (World.block_lt_of_cell? w _ hcell0)).trans hcell0
          have hc1 := (HB.out.cell (World.block_lt_of_cell? w _ hcell)).trans hcell
          have HR := Lib.hid hrow; clear hrow
          have HZ := Lib.hid hz; clear hz
          have HMm := Lib.hid hm; clear hm
          have k1 : (0 : Int) ≤ (r : Int) := by omega
          have k2 : (r : Int) < (n : Int) := by omega
          by_cases hmc : m = C
          · subst hmc
            have hne : ((m : Int) != (m : Int)) = false := by simp
            go_wp2
            go_quiet (fail)
            go_wp2
            have HB2 := Lib.hid (below_drewN HB.out nq)
            go_loopw [4] (fun i ws => ∃ c : Nat, c ≤ m ∧ i = .int .i64 c ∧ (∀ j, j < c → htB (z.getD j 0) = true) ∧ Below w.heap.size w ws) (fun i _ => m - (intOf i).toNat)
            case atStart => exact ⟨0, Nat.zero_le _, rfl, fun j hj => by omega, HB2.out⟩
            case round =>
              obtain ⟨c, hcm, rfl, hht, hbs⟩ := hrel
              have HHt := Lib.hid hht; clear hht
              have HBs := Lib.hid hbs; clear hbs
              clear hc0 hc1
              have hc1 := (HBs.out.cell (World.block_lt_of_cell? w _ hcell)).trans hcell
              by_cases hltc : c < m
              · obtain ⟨-, hcz⟩ := HR.out.cells
                obtain ⟨b2, o2, rfl, hcellz⟩ := hcz c (by have := HMm.out; omega)
                clear hcz
                have hcz := (HBs.out.cell (World.block_lt_of_cell? w _ hcellz)).trans hcellz
                obtain ⟨x, hx⟩ : ∃ x, x = z.getD c 0 := ⟨_, rfl⟩
                rw [← hx] at hcz
                have HX := Lib.hid hx
                clear hcellz hx
                by_cases hht : htB x = true
                · have hin : inB x 0 99 = true := hht
                  have HHx := Lib.hid hht
                  clear hht
                  go_wp2_with fail
                  refine (HI.out _ _ _ _).mono ?_
                  rintro e w' ⟨rfl, rfl⟩
                  go_wp2
                  go_roundw
                  case rel =>
                    refine ⟨c + 1, by omega, by go_num, fun j hj => ?_, HBs.out⟩
                    by_cases e : j = c
                    · subst e; rw [← HX.out]; exact HHx.out
                    · exact HHt.out j (by omega)
                  case measure => simp [intOf]; omega
                · have hin : inB x 0 99 = false := by simpa [htB] using hht
                  have HV := Lib.hid (show gvalB g = false from gval_no (i := r) (by have := HN.out; omega) (by rw [HCg.out, ← HZ.out]; exact rowOk_ht (c := c) (by have := HMm.out; omega) (by rw [← HX.out]; simpa using hht)))
                  clear hht
                  go_wp2_with fail
                  refine (HI.out _ _ _ _).mono ?_
                  rintro e w' ⟨rfl, rfl⟩
                  go_wp2
                  go_ret
                  exact ⟨ret_bool HV.out.symm, HBs.out⟩
              · have hce : c = m := by omega
                have HRk := Lib.hid (show rowOk m (g.getD r []) = true from rowOk_mk (by rw [← HZ.out, HMm.out]) (by
                  rw [← HZ.out, List.all_eq_true]
                  intro y hy
                  obtain ⟨i, hi, rfl⟩ := List.mem_iff_getElem.1 hy
                  have := HHt.out i (by have := HMm.out; omega)
                  rw [List.getD_eq_getElem?_getD, List.getElem?_eq_getElem hi] at this
                  simpa using this))
                clear hce
                go_wp2
                go_roundw
                case rel =>
                  refine ⟨r + 1, by omega, by go_num, fun j hj => ?_, HBs.out⟩
                  by_cases e : j = r
                  · subst e; exact HRk.out
                  · exact HOk.out j (by omega)
                case measure => simp [intOf]; omega
          · have hne : ((m : Int) != (C : Int)) = true := by simp; omega
            have HV := Lib.hid (show gvalB g = false from gval_no (i := r) (by have := HN.out; omega) (by rw [HCg.out, ← HZ.out]; exact rowOk_len (by rw [← HMm.out]; exact hmc)))
            clear hmc
            go_wp2
            go_quiet (fail)
            go_wp2
            go_ret
            exact ⟨ret_bool HV.out.symm, below_drewN HB.out _⟩
        · have hke : r = n := by omega
          subst hke
          have HV := Lib.hid (show gvalB g = true from gval_mk (by have := HN.out; omega) (by have := HN.out; omega) HCg.out p3 p4 (fun i hi => HOk.out i (by have := HN.out; omega)))
          go_wp2
          go_ret
          exact ⟨ret_bool HV.out.symm, HB.out⟩
    · have hi2 : inB (C : Int) 1 7 = false := by simp [inB]; omega
      have HV := Lib.hid (show gvalB g = false by unfold gvalB; rw [HCg.out, hi2]; simp)
      go_enter Try.func73, Try.ntmps73
      go_wp2_with fail
      refine (HI.out _ _ _ _).mono ?_
      rintro e w' ⟨rfl, rfl⟩
      go_wp2_with fail
      refine (HI.out _ _ _ _).mono ?_
      rintro e w' ⟨rfl, rfl⟩
      go_wp2
      go_ret
      exact ⟨ret_bool HV.out.symm, Below.refl _ _⟩
  · have hi1 : inB (n : Int) 1 7 = false := by simp [inB]; omega
    have HV := Lib.hid (show gvalB g = false by unfold gvalB; rw [← hN, hi1]; simp)
    have HI := Lib.hid (fun x lo hi wx => in_any x lo hi wx)
    clear hc hr hN hm
    go_enter Try.func73, Try.ntmps73
    go_wp2_with fail
    refine (HI.out _ _ _ _).mono ?_
    rintro e w' ⟨rfl, rfl⟩
    go_wp2
    go_ret
    exact ⟨ret_bool HV.out.symm, Below.refl _ _⟩

end Go.Proofs.Ytkhhloeemecokaa
