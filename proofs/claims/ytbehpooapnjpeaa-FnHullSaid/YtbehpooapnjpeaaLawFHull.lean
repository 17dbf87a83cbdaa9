/- Walk of the law FnHull: the hull lies above all points. -/
import Derived.Deep.QuietTactic
import Derived.BigQuiet
import Derived.IntWalk
import Derived.Test.YtbehpooapnjpeaaDProf2
import Derived.Test.YtbehpooapnjpeaaSame
import Derived.Test.YtbehpooapnjpeaaSees
import Derived.Test.YtbehpooapnjpeaaHull
import Derived.Test.YtbehpooapnjpeaaPlainK
namespace Go.Proofs.Ytbehpooapnjpeaa
open Go.RowKit

theorem hull_mul (u v : Int) (h1 : -99 ≤ u) (h2 : u ≤ 99) (h3 : 0 ≤ v) (h4 : v ≤ 20) : -1980 ≤ u * v ∧ u * v ≤ 1980 := by
  have a := Int.mul_le_mul_of_nonneg_right h1 h3
  have b := Int.mul_le_mul_of_nonneg_right h2 h3
  omega

set_option maxRecDepth 100000 in
set_option maxHeartbeats 4000000 in
theorem fnHull_walk (w : World) (v0 : Value) (z0 : List Int) (hr0 : RowB w v0 z0) (_hm0 : z0.length ≤ maxLen) (hf0 : ∀ n ∈ z0, (Lit.int .u8 n).wf = true) :
    Calls Try.prog 10 #[v0] w fun e w' => e = .returned (.bool true) ∧ Below w.heap.size w w' := by
  have HDr := Lib.hid (dProfileHull_any v0 z0 w hr0 hf0)
  obtain ⟨a0, cap0, rfl, -, -, -⟩ := hr0
  clear _hm0 hf0
  by_cases hbig : 1048576 < z0.length
  · go_enter Try.func10, Try.ntmps10
    go_wp2
    go_ret
    exact ⟨rfl, Below.refl _ _⟩
  go_enter Try.func10, Try.ntmps10
  have BT := Lib.hid (Below.refl w.heap.size w)
  go_wp2_with fail
  refine HDr.out.mono ?_
  rintro e w1 ⟨p, a_p, c_p, rfl, hlp, ho, hb⟩
  have R_p := Lib.hid ho.row
  replace BT := Lib.hid (BT.out.trans (hb.mono BT.out.size))
  clear ho hb HDr
  go_wp2_with fail
  refine (ihull_any _ p _ R_p.out (by omega)).mono ?_
  rintro e w2 ⟨a_o, c_o, rfl, ho, hb⟩
  replace R_p := Lib.hid (R_p.out.below hb)
  replace BT := Lib.hid (BT.out.trans (hb.mono BT.out.size))
  have R_o := Lib.hid ho.row
  clear ho
  clear hb
  go_wp2_with fail
  refine (shull_any _ p _ R_p.out (by omega)).mono ?_
  rintro e w3 ⟨a_t, c_t, rfl, ho, hb⟩
  replace R_p := Lib.hid (R_p.out.below hb)
  replace R_o := Lib.hid (R_o.out.below hb)
  replace BT := Lib.hid (BT.out.trans (hb.mono BT.out.size))
  have R_t := Lib.hid ho.row
  clear ho
  clear hb
  have hlo : (hullL p).length ≤ 1099511627776 := by have := hullL_len p (by omega); omega
  have x1 : decide ((hullL p) = (hullL p)) = true := by simp
  cases hT : validB p
  · clear hT
    go_wp2_with fail
    refine (calls_below (same_any _ _ (hullL p) (hullL p) _ R_o.out R_t.out hlo hlo)).mono ?_
    rintro e w4 ⟨rfl, hb⟩
    replace R_p := Lib.hid (R_p.out.below hb)
    replace R_o := Lib.hid (R_o.out.below hb)
    replace R_t := Lib.hid (R_t.out.below hb)
    replace BT := Lib.hid (BT.out.trans (hb.mono BT.out.size))
    clear hb
    go_wp2_with fail
    refine (calls_below (same_any _ _ (hullL p) (hullL p) _ R_o.out R_t.out hlo hlo)).mono ?_
    rintro e w5 ⟨rfl, hb⟩
    replace R_p := Lib.hid (R_p.out.below hb)
    replace R_o := Lib.hid (R_o.out.below hb)
    replace R_t := Lib.hid (R_t.out.below hb)
    replace BT := Lib.hid (BT.out.trans (hb.mono BT.out.size))
    clear hb
    go_wp2
    go_ret
    exact ⟨rfl, BT.out⟩
  · have HV := Lib.hid hT
    have HN := Lib.hid (hull_thin hT)
    have HS := Lib.hid (fun m h1 h2 => hull_sees hT (m := m) h1 h2)
    have HB := Lib.hid (fun m h1 h2 => hull_bend hT (m := m) h1 h2)
    have HP := Lib.hid (fun m h => hull_pt hT (m := m) h)
    have HH := Lib.hid (valid_ht' hT)
    have hl := valid_len hT
    obtain ⟨l1, l2⟩ := hl
    clear hT
    go_wp2_with fail
    refine (calls_below (same_any _ _ (hullL p) (hullL p) _ R_o.out R_t.out hlo hlo)).mono ?_
    rintro e w6 ⟨rfl, hb⟩
    replace R_p := Lib.hid (R_p.out.below hb)
    replace R_o := Lib.hid (R_o.out.below hb)
    replace R_t := Lib.hid (R_t.out.below hb)
    replace BT := Lib.hid (BT.out.trans (hb.mono BT.out.size))
    clear hb
    clear R_t
    have n1 := HN.out.2.1
    have n2 := HN.out.len
    have n3 := HN.out.2.2.1
    have n4 := HN.out.2.2.2.1
    obtain ⟨N, hNe⟩ : ∃ N, N = (hullL p).length := ⟨_, rfl⟩
    rw [← hNe] at R_o HS HB HP hlo n1 n2 n4 ⊢
    have N3 := Lib.hid n3
    have N4 := Lib.hid n4
    clear hNe x1 n3 n4
    go_wp2
    go_loopw [9] (fun i wr => ∃ m : Nat, 1 ≤ m ∧ m ≤ N ∧ i = .int .i64 m ∧ Below w6.heap.size w6 wr) (fun  i _ => N - (intOf i).toNat)
    case atStart => exact ⟨1, by omega, by omega, rfl, Below.refl _ _⟩
    case round =>
      obtain ⟨m, hm1, hm2, rfl, hb⟩ := hrel
      have HBe := Lib.hid hb
      clear hb
      replace R_p := Lib.hid (R_p.out.below HBe.out)
      replace R_o := Lib.hid (R_o.out.below HBe.out)
      replace BT := Lib.hid (BT.out.trans ((HBe.out).mono BT.out.size))
      obtain ⟨-, hco⟩ := R_o.out.cells
      by_cases hlt : m < N
      · obtain ⟨b1, o1, rfl, hk1⟩ := hco m hlt
        obtain ⟨b', o', e, hk0⟩ := hco (m - 1) (by omega)
        simp only [Option.some.injEq, Addr.mk.injEq, and_true] at e
        obtain ⟨rfl, rfl⟩ := e
        have hs := HS.out m hm1 hlt
        obtain ⟨a, ha1, -, ha2⟩ := HP.out (m - 1) (by omega)
        obtain ⟨b, hb1, -, hb2⟩ := HP.out m hlt
        rw [ha2] at hk0 hs
        rw [hb2] at hk1 hs
        have HA2 := Lib.hid ha2
        have HB2 := Lib.hid hb2
        clear ha2 hb2
        have H1 := Lib.hid (isees3_any _ p (a : Int) (b : Int) _ R_p.out (by omega))
        rw [hs] at H1
        clear hs
        by_cases h2 : 2 ≤ m
        · obtain ⟨h, a2, b2, t1, t2, t3, t4, t5, t6, t7⟩ := HB.out m h2 hlt
          obtain ⟨b', o', e, hkm⟩ := hco (m - 2) (by omega)
          simp only [Option.some.injEq, Addr.mk.injEq, and_true] at e
          obtain ⟨rfl, rfl⟩ := e
          rw [t4] at hkm
          rw [HA2.out] at t5
          rw [HB2.out] at t6
          have e1 : a2 = a := by omega
          have e2 : b2 = b := by omega
          subst e1 e2
          clear t4 t5 t6 HA2 HB2 hco
          have q0 : (1 : Int) < (m : Int) := by omega
          go_wp2_with fail
          refine (H1.out).mono ?_
          rintro e w7 ⟨rfl, hb⟩
          replace R_p := Lib.hid (R_p.out.below hb)
          replace R_o := Lib.hid (R_o.out.below hb)
          replace BT := Lib.hid (BT.out.trans (hb.mono BT.out.size))
          replace HBe := Lib.hid (HBe.out.trans (hb.mono HBe.out.size))
          have lo := World.block_lt_of_cell? _ _ hkm
          have hkm2 := (hb.cell (p := ⟨b1, o1 + (m - 2), none⟩) lo).trans hkm
          clear H1 hk0 hk1 hkm lo
          clear hb
          obtain ⟨-, hcp⟩ := R_p.out.cells
          obtain ⟨bp, op, rfl, ca⟩ := hcp a2 ha1
          obtain ⟨b', o', e, cb⟩ := hcp b2 hb1
          simp only [Option.some.injEq, Addr.mk.injEq, and_true] at e
          obtain ⟨rfl, rfl⟩ := e
          obtain ⟨b', o', e, ch⟩ := hcp h (by omega)
          simp only [Option.some.injEq, Addr.mk.injEq, and_true] at e
          obtain ⟨rfl, rfl⟩ := e
          have za := HH.out a2
          have zb := HH.out b2
          have zh := HH.out h
          obtain ⟨X, hX⟩ : ∃ X, X = p.getD a2 0 := ⟨_, rfl⟩
          obtain ⟨Y, hY⟩ : ∃ Y, Y = p.getD b2 0 := ⟨_, rfl⟩
          obtain ⟨Z, hZ⟩ : ∃ Z, Z = p.getD h 0 := ⟨_, rfl⟩
          rw [← hX] at ca za t7
          rw [← hY] at cb zb t7
          rw [← hZ] at ch zh t7
          clear hX hY hZ hcp
          have u1 := hull_mul (X - Z) ((b2 : Int) - a2) (by omega) (by omega) (by omega) (by omega)
          have u2 := hull_mul (Y - X) ((a2 : Int) - h) (by omega) (by omega) (by omega) (by omega)
          have w1 : IntKind.i64.wrap (X - Z) = X - Z := IntWalk.i64_in _ (by omega)
          have w2 : IntKind.i64.wrap ((b2 : Int) - a2) = (b2 : Int) - a2 := IntWalk.i64_in _ (by omega)
          have w3 : IntKind.i64.wrap ((X - Z) * ((b2 : Int) - a2)) = (X - Z) * ((b2 : Int) - a2) := IntWalk.i64_in _ (by omega)
          have w4 : IntKind.i64.wrap (Y - X) = Y - X := IntWalk.i64_in _ (by omega)
          have w5 : IntKind.i64.wrap ((a2 : Int) - h) = (a2 : Int) - h := IntWalk.i64_in _ (by omega)
          have w6 : IntKind.i64.wrap ((Y - X) * ((a2 : Int) - h)) = (Y - X) * ((a2 : Int) - h) := IntWalk.i64_in _ (by omega)
          have w7 : decide ((X - Z) * ((b2 : Int) - a2) ≤ (Y - X) * ((a2 : Int) - h)) = false := by simp; exact t7
          have r1 : (0 : Int) ≤ (a2 : Int) := by omega
          have r2 : (a2 : Int) < (p.length : Int) := by omega
          have r3 : (0 : Int) ≤ (b2 : Int) := by omega
          have r4 : (b2 : Int) < (p.length : Int) := by omega
          have r5 : (0 : Int) ≤ (h : Int) := by omega
          have r6 : (h : Int) < (p.length : Int) := by omega
          clear u1 u2 t7 za zb zh
          go_wp2
          go_quiet (fail)
          clear w1 w2 w3 w4 w5 w6
          go_wp2
          go_roundw
          case rel => exact ⟨m + 1, by omega, by omega, by go_num, below_drewN HBe.out _⟩
          case measure => simp [intOf]; omega
        · have q0 : ¬ (1 : Int) < (m : Int) := by omega
          clear HA2 HB2 hco
          go_wp2_with fail
          refine (H1.out).mono ?_
          rintro e w8 ⟨rfl, hb⟩
          replace R_p := Lib.hid (R_p.out.below hb)
          replace R_o := Lib.hid (R_o.out.below hb)
          replace BT := Lib.hid (BT.out.trans (hb.mono BT.out.size))
          replace HBe := Lib.hid (HBe.out.trans (hb.mono HBe.out.size))
          clear H1
          clear hb
          go_wp2
          go_roundw
          case rel => exact ⟨m + 1, by omega, by omega, by go_num, HBe.out⟩
          case measure => simp [intOf]; omega
      · obtain ⟨b1, o1, rfl, hk0⟩ := hco 0 n1
        obtain ⟨b', o', e, hkl⟩ := hco (N - 1) (by omega)
        simp only [Option.some.injEq, Addr.mk.injEq, and_true] at e
        obtain ⟨rfl, rfl⟩ := e
        rw [N3.out] at hk0
        rw [N4.out] at hkl
        have f1 : ((0 : Int) == 0) = true := by simp
        have f2 : ((p.length : Int) - 1 == (p.length : Int) - 1) = true := by simp
        have f3 : (0 : Int) < (N : Int) := by omega
        clear hco
        rw [Nat.add_zero] at hk0
        go_wp2
        go_ret
        exact ⟨rfl, BT.out⟩

end Go.Proofs.Ytbehpooapnjpeaa
