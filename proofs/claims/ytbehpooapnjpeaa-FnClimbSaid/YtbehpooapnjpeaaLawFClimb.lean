/- Walk of the law FnClimb: rises less falls are the ends. -/
import Derived.Test.YtbehpooapnjpeaaDProf
import Derived.Test.YtbehpooapnjpeaaClimb
import Derived.Test.YtbehpooapnjpeaaPlainL
namespace Go.Proofs.Ytbehpooapnjpeaa
open Go.RowKit

set_option maxRecDepth 100000 in
set_option maxHeartbeats 2000000 in
theorem fnClimb_walk (w : World) (v0 : Value) (z0 : List Int) (hr0 : RowB w v0 z0) (_hm0 : z0.length ≤ maxLen) (hf0 : ∀ n ∈ z0, (Lit.int .u8 n).wf = true) :
    Calls Try.prog 3 #[v0] w fun e w' => e = .returned (.bool true) ∧ Below w.heap.size w w' := by
  have HDr := Lib.hid (dProfileClimb_any v0 z0 w hr0 hf0)
  obtain ⟨a0, cap0, rfl, -, -, -⟩ := hr0
  clear _hm0 hf0
  by_cases hbig : 1048576 < z0.length
  · go_enter Try.func3, Try.ntmps3
    go_wp2
    go_ret
    exact ⟨rfl, Below.refl _ _⟩
  · go_enter Try.func3, Try.ntmps3
    go_wp2_with fail
    refine HDr.out.mono ?_
    rintro e w1 ⟨p, a1, c1, rfl, hl, ho, hb⟩
    have HB := Lib.hid hb
    have HR := Lib.hid ho.row
    clear hb ho HDr
    have I := Lib.hid (fun wr (hb : Below w1.heap.size w1 wr) => calls_below (iclimb_any _ p wr (HR.out.below hb) (by omega)))
    have S := Lib.hid (fun wr (hb : Below w1.heap.size w1 wr) => calls_below (sclimb_any _ p wr (HR.out.below hb) (by omega)))
    go_wp2_with fail
    refine (I.out _ (Below.refl _ _)).mono ?_
    rintro e w2 ⟨rfl, hb2⟩
    have HB2 := Lib.hid hb2
    clear hb2
    go_wp2_with fail
    refine (S.out _ HB2.out).mono ?_
    rintro e w3 ⟨rfl, hb3⟩
    have HB3 := Lib.hid (HB2.out.trans (hb3.mono HB2.out.size))
    clear hb3 I S HB2
    have x1 : (upV p != upV p) = false := by simp
    have x2 : (dnV p != dnV p) = false := by simp
    have x3 : (upV p == upV p) = true := by simp
    have x4 : (dnV p == dnV p) = true := by simp
    cases hv : validB p
    · clear hv
      go_wp2
      go_ret
      exact ⟨rfl, HB.out.trans (HB3.out.mono HB.out.size)⟩
    · have hl2 := valid_len hv
      have HU := Lib.hid (show upV p = upS p p.length by simp [upV, hv])
      have HDn := Lib.hid (show dnV p = dnS p p.length by simp [dnV, hv])
      have PL1 := Lib.hid (up_dn p p.length hl2.1)
      have PL2 := Lib.hid (up_nonneg p p.length)
      have PL3 := Lib.hid (lev_iff p p.length hl2.1)
      rw [← HU.out, ← HDn.out] at PL1 PL2 PL3
      have bu := upS_bd hv p.length
      have bd := dnS_bd hv p.length
      rw [← HU.out] at bu
      rw [← HDn.out] at bd
      have HH := Lib.hid (valid_ht' hv)
      obtain ⟨U, hU⟩ : ∃ U, U = upV p := ⟨_, rfl⟩
      obtain ⟨D, hD⟩ : ∃ D, D = dnV p := ⟨_, rfl⟩
      rw [← hU] at PL1 PL2 PL3 bu x1 x3 ⊢
      rw [← hD] at PL1 PL2 PL3 bd x2 x4 ⊢
      obtain ⟨-, hc⟩ := HR.out.cells
      obtain ⟨b, off, rfl, hc0⟩ := hc 0 (by omega)
      obtain ⟨n, hN⟩ : ∃ n, n = p.length := ⟨_, rfl⟩
      rw [← hN] at hl hl2 hc PL1 PL3 bu bd ⊢
      have HC := Lib.hid (show ∀ j, j < n → w3.cell? ⟨b, off + j, none⟩ = some (.int .i64 (p.getD j 0)) from fun j hj => by
        obtain ⟨b', o', e, h⟩ := hc j hj
        simp only [Option.some.injEq, Addr.mk.injEq, and_true] at e
        obtain ⟨rfl, rfl⟩ := e
        exact (HB3.out.cell (World.block_lt_of_cell? w1 _ h)).trans h)
      clear hU hD hN hc hc0 HU HDn HR
      obtain ⟨y0, hY⟩ : ∃ y, y = p.getD 0 0 := ⟨_, rfl⟩
      have k0 := HC.out 0 (by omega)
      have h0 := HH.out 0
      rw [Nat.add_zero, ← hY] at k0
      rw [← hY] at h0 PL1
      have HY := Lib.hid hY
      clear hY
      go_wp2
      go_loopw [10, 11] (fun s i wr => ∃ (k : Nat) (B : Bool), 1 ≤ k ∧ k ≤ n ∧ i = .int .i64 k ∧ s = .bool B ∧ (B = true ↔ levP p k) ∧ Below w3.heap.size w3 wr) (fun _ i _ => n - (intOf i).toNat)
      case atStart => exact ⟨1, true, by omega, by omega, rfl, rfl, ⟨fun _ i hi => by rw [show i = 0 by omega], fun _ => rfl⟩, Below.refl _ _⟩
      case round =>
        obtain ⟨k, B, hk1, hk2, rfl, rfl, hB, hbb⟩ := hrel
        have HBl := Lib.hid hB
        have HBe := Lib.hid hbb
        clear hB hbb
        have k0' := (HBe.out.cell (World.block_lt_of_cell? w3 _ k0)).trans k0
        have St := Lib.hid (levP_step p k)
        by_cases hlt : k < n
        · have kk := HC.out k hlt
          have kk' := (HBe.out.cell (World.block_lt_of_cell? w3 _ kk)).trans kk
          obtain ⟨y, hy⟩ : ∃ y, y = p.getD k 0 := ⟨_, rfl⟩
          rw [← hy] at kk'
          rw [← hy, ← HY.out] at St
          clear hy kk
          have q1 : (0 : Int) ≤ (k : Int) := by omega
          have q2 : (k : Int) < (n : Int) := by omega
          have q3 : (0 : Int) < (n : Int) := by omega
          have q4 : 0 < n := by omega
          cases B
          · go_wp2
            go_quiet (fail)
            go_wp2
            go_roundw
            case rel => exact ⟨k + 1, false, by omega, by omega, by go_num, rfl, ⟨fun h => (by cases h), fun h => HBl.out.2 (St.out.1 h).1⟩, below_drewN HBe.out _⟩
            case measure => simp [intOf]; omega
          · by_cases he : y = y0
            · have hb : (y == y0) = true := by simpa using he
              have HE := Lib.hid he
              clear he
              go_wp2
              go_quiet (fail)
              go_wp2
              go_roundw
              case rel => exact ⟨k + 1, true, by omega, by omega, by go_num, rfl, ⟨fun _ => St.out.2 ⟨HBl.out.1 (by trivial), HE.out⟩, fun _ => rfl⟩, below_drewN HBe.out _⟩
              case measure => simp [intOf]; omega
            · have hb : (y == y0) = false := by simpa using he
              have HE := Lib.hid he
              clear he
              go_wp2
              go_quiet (fail)
              go_wp2
              go_roundw
              case rel => exact ⟨k + 1, false, by omega, by omega, by go_num, rfl, ⟨fun h => (by cases h), fun h => absurd (St.out.1 h).2 HE.out⟩, below_drewN HBe.out _⟩
              case measure => simp [intOf]; omega
        · have hke : k = n := by omega
          have HL := Lib.hid (show (B = true ↔ U + D = 0) by rw [hke] at HBl; rw [HBl.out, PL3.out])
          have kn := HC.out (n - 1) (by omega)
          have kn' := (HBe.out.cell (World.block_lt_of_cell? w3 _ kn)).trans kn
          have hzn := HH.out (n - 1)
          obtain ⟨z, hz⟩ : ∃ z, z = p.getD (n - 1) 0 := ⟨_, rfl⟩
          rw [← hz] at kn' hzn PL1
          have e1 := PL1.out
          have e2 := PL2.out
          clear hz kn hke
          have q1 : IntKind.i64.wrap (U - D) = U - D := IntWalk.i64_in _ (by omega)
          have q2 : IntKind.i64.wrap ((n : Int) - 1) = (n : Int) - 1 := IntWalk.i64_in _ (by omega)
          have q3 : IntKind.i64.wrap (z - y0) = z - y0 := IntWalk.i64_in _ (by omega)
          have q4 : IntKind.i64.wrap (U + D) = U + D := IntWalk.i64_in _ (by omega)
          have q5 : ((n : Int) - 1).toNat = n - 1 := by omega
          have q6 : (0 : Int) ≤ (n : Int) - 1 := by omega
          have q7 : (n : Int) - 1 < (n : Int) := by omega
          have q8 : (0 : Int) < (n : Int) := by omega
          have q9 : 0 < n := by omega
          have b1 : (U - D == z - y0) = true := by simp; omega
          have b2 : decide (0 ≤ U) = true := by simp; omega
          have b3 : decide (0 ≤ D) = true := by simp; omega
          clear e1
          cases B
          · have b4 : (U + D == 0) = false := by
              simp only [beq_eq_false_iff_ne, ne_eq]
              exact fun h => (by cases HL.out.2 h)
            go_wp2
            go_quiet (fail)
            clear q1 q2 q3 q4 q5
            go_wp2
            go_ret
            exact ⟨rfl, (HB.out.trans (HB3.out.mono HB.out.size)).trans ((below_drewN HBe.out _).mono (Nat.le_trans HB.out.size HB3.out.size))⟩
          · have b4 : (U + D == 0) = true := by
              simp only [beq_iff_eq]
              exact HL.out.1 (by trivial)
            go_wp2
            go_quiet (fail)
            clear q1 q2 q3 q4 q5
            go_wp2
            go_ret
            exact ⟨rfl, (HB.out.trans (HB3.out.mono HB.out.size)).trans ((below_drewN HBe.out _).mono (Nat.le_trans HB.out.size HB3.out.size))⟩

end Go.Proofs.Ytbehpooapnjpeaa
