/- Contracts: ProfileRow of the program and of the reference. -/
import Derived.Test.YtjpcbegndnbeeaaFldOf
import Derived.Test.YtjpcbegndnbeeaaGVal
import Derived.Test.YtjpcbegndnbeeaaApp
import Derived.Deep.QuietTactic
import Derived.BigQuiet
namespace Go.Proofs.Ytjpcbegndnbeeaa
open Go.RowKit
set_option linter.unusedVariables false

theorem prowL_len (g : List (List Int)) (r : Int) (h : tot g ≤ 1048576) : (prowL g r).length ≤ 1048576 := by
  unfold prowL
  split
  · rename_i hp
    unfold prowB at hp
    simp only [Bool.and_eq_true, decide_eq_true_eq] at hp
    exact Nat.le_trans (tot_row g r.toNat (by omega)) h
  · simp

theorem scell_any (v : Value) (g : List (List Int)) (r : Int) (w : World) (hr : MRow w v g) (hn : g.length ≤ 1048576) (hm : tot g ≤ 1048576) (hl : -9223372036854775808 ≤ r) (hu : r ≤ 9223372036854775807) :
    Calls Try.prog 28 #[v, .int .i64 r, .int .i64 0] w fun e w' => e = .returned (.bool (prowB g r)) ∧ Below w.heap.size w w' := by
  have HV := Lib.hid (sgval_any v g w hr hn hm)
  obtain ⟨a, cap, rfl⟩ := hr.shape
  obtain ⟨-, hc⟩ := hr.cells
  cases hv : gvalB g
  · rw [hv] at HV
    have HP := Lib.hid (show prowB g r = false by simp [prowB, hv])
    clear hv hc hr
    go_enter Try.func28, Try.ntmps28
    go_wp2_with fail
    refine HV.out.mono ?_
    rintro e w1 ⟨rfl, hb⟩
    go_wp2
    go_ret
    exact ⟨ret_bool HP.out.symm, hb⟩
  · rw [hv] at HV
    have hG := gval_rows hv
    obtain ⟨g1, g2, g3, g4⟩ := hG
    obtain ⟨b, off, u, rfl, hcell, hrow⟩ := hc 0 (by omega)
    obtain ⟨a0, c0, rfl⟩ := hrow.shape
    have hC : (g.getD 0 []).length = colsG g := rfl
    rw [hC, Nat.add_zero] at hcell
    obtain ⟨C, hCe⟩ : ∃ C, C = colsG g := ⟨_, rfl⟩
    rw [← hCe] at hcell g3 g4
    have lt0 := World.block_lt_of_cell? _ _ hcell
    have HP := Lib.hid (show prowB g r = decide (0 ≤ r ∧ r < g.length) by simp [prowB, hv])
    obtain ⟨n, hN⟩ : ∃ n, n = g.length := ⟨_, rfl⟩
    rw [← hN] at HP HV g1 g2 ⊢
    have HI := Lib.hid (fun x lo hi wx => in_any x lo hi wx)
    have hin2 : inB 0 0 ((C : Int) - 1) = true := by simp [inB]; omega
    have k0 : (0 : Int) < (n : Int) := by omega
    clear hv hc hr hrow hC hCe hN
    by_cases hin : 0 ≤ r ∧ r < (n : Int)
    · have hin1 : inB r 0 ((n : Int) - 1) = true := by simp [inB]; omega
      rw [decide_eq_true hin] at HP
      clear hin
      go_enter Try.func28, Try.ntmps28
      go_wp2_with fail
      refine HV.out.mono ?_
      rintro e w1 ⟨rfl, hb⟩
      have hc1 := (hb.cell (p := ⟨b, off, none⟩) lt0).trans hcell
      go_wp2_with fail
      refine (HI.out _ _ _ _).mono ?_
      rintro e w2 ⟨rfl, rfl⟩
      go_wp2_with fail
      refine (HI.out _ _ _ _).mono ?_
      rintro e w2 ⟨rfl, rfl⟩
      go_wp2
      go_ret
      exact ⟨ret_bool HP.out.symm, hb⟩
    · have hin1 : inB r 0 ((n : Int) - 1) = false := by simp [inB]; omega
      rw [decide_eq_false hin] at HP
      clear hin
      go_enter Try.func28, Try.ntmps28
      go_wp2_with fail
      refine HV.out.mono ?_
      rintro e w1 ⟨rfl, hb⟩
      have hc1 := (hb.cell (p := ⟨b, off, none⟩) lt0).trans hcell
      go_wp2_with fail
      refine (HI.out _ _ _ _).mono ?_
      rintro e w2 ⟨rfl, rfl⟩
      go_wp2
      go_ret
      exact ⟨ret_bool HP.out.symm, hb⟩
set_option maxHeartbeats 400000 in
theorem sprow_any (v : Value) (g : List (List Int)) (r : Int) (w : World) (hr : MRow w v g) (hn : g.length ≤ 1048576) (hm : tot g ≤ 1048576) (hl : -9223372036854775808 ≤ r) (hu : r ≤ 9223372036854775807) :
    Calls Try.prog 8 #[v, .int .i64 r] w (GivesRowB (prowL g r) (prowB g r) w) := by
  have HV := Lib.hid (scell_any v g r w hr hn hm hl hu)
  obtain ⟨a, cap, rfl⟩ := hr.shape
  obtain ⟨-, hc⟩ := hr.cells
  cases hv : prowB g r
  · rw [hv] at HV
    have HP := Lib.hid (show prowL g r = [] by simp [prowL, hv])
    clear hv hc hr
    go_enter Try.func8, Try.ntmps8
    go_wp2_with fail
    refine HV.out.mono ?_
    rintro e w1 ⟨rfl, hb⟩
    go_wp2
    go_ret2
    rw [HP.out]
    exact GivesRowB.mk rfl ((Own.emptyLit w1 w.heap.size hb.size)) (hb.trans ((Below.alloc (Below.refl w1.heap.size w1) (Nat.le_refl _) (.cells #[] 3)).mono hb.size))
  · rw [hv] at HV
    have hp := hv
    unfold prowB at hp
    simp only [Bool.and_eq_true, decide_eq_true_eq] at hp
    obtain ⟨hgv, q1, q2⟩ := hp
    obtain ⟨k, rfl⟩ : ∃ k : Nat, r = (k : Int) := ⟨r.toNat, by omega⟩
    obtain ⟨b, off, u, rfl, hcell, hrow⟩ := hc k (by omega)
    obtain ⟨a0, c0, rfl⟩ := hrow.shape
    have hlen := gval_len hgv k (by omega)
    have hG := gval_rows hgv
    have HP := Lib.hid (show prowL g (k : Int) = g.getD k [] by simp [prowL, hv])
    obtain ⟨z, hz⟩ : ∃ z, z = g.getD k [] := ⟨_, rfl⟩
    rw [← hz] at HP hcell hrow hlen
    obtain ⟨-, hcc⟩ := hrow.cells
    obtain ⟨b2, o2, rfl, hc0⟩ := hcc 0 (by omega)
    have HZ := Lib.hid (show ∀ j, j < z.length → w.cell? ⟨b2, o2 + j, none⟩ = some (.int .i64 (z.getD j 0)) from fun j hj => by
      obtain ⟨b', o', e, h⟩ := hcc j hj
      simp only [Option.some.injEq, Addr.mk.injEq, and_true] at e
      obtain ⟨rfl, rfl⟩ := e
      exact h)
    have lt2 := World.block_lt_of_cell? _ _ hc0
    have lt1 := World.block_lt_of_cell? _ _ hcell
    have hz7 : z.length ≤ 7 := by omega
    have hz1 : 1 ≤ z.length := by omega
    obtain ⟨n, hN⟩ : ∃ n, n = g.length := ⟨_, rfl⟩
    rw [← hN] at HV q2 ⊢
    have HPr := Lib.hid hv
    clear hv hc hr hrow hcc hc0 hz hlen hG hgv hN
    go_enter Try.func8, Try.ntmps8
    go_wp2_with fail
    refine HV.out.mono ?_
    rintro e w1 ⟨rfl, hb⟩
    have OA := Lib.hid (Own.emptyLit w1 w1.heap.size (Nat.le_refl _))
    have BA := Lib.hid (hb.trans ((Below.alloc (Below.refl w1.heap.size w1) (Nat.le_refl _) (.cells #[] 3)).mono hb.size))
    have hs := BA.out.size
    have CA := Lib.hid (show ∀ j, j < z.length → (w1.alloc (.cells #[] 3)).cell? ⟨b2, o2 + j, none⟩ = some (.int .i64 (z.getD j 0)) from fun j hj => (BA.out.cell (p := ⟨b2, o2 + j, none⟩) lt2).trans (HZ.out j hj))
    have hc1 := (BA.out.cell (p := ⟨b, off + k, none⟩) lt1).trans hcell
    have HB := Lib.hid hb
    clear hb
    go_wp2_with (at_builtin; refine appN (by rfl) _ _ (by rfl) w1.heap.size _ [] z b2 o2 z.length c0 (by rfl) (by rfl) rfl CA.out OA.out (by simp) (by simp; omega) ?_; intro v' w2 ho hg; (have HO := Lib.hid (show Own w2 w1.heap.size v' z from ho)); (have HG := Lib.hid hg); clear ho hg)
    go_ret2
    rw [HP.out]
    have ho := HO.out.mono HB.out.size
    have hb2 := below_own BA.out (OA.out.mono HB.out.size) hs HG.out
    exact GivesRowB.of ho hb2

end Go.Proofs.Ytjpcbegndnbeeaa
