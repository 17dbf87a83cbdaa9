/- Contracts: ProfileHull of the program and of the reference. -/
import Derived.Test.YtbehpooapnjpeaaOnHull
namespace Go.Proofs.Ytbehpooapnjpeaa
open Go.RowKit

theorem ihull_any (v : Value) (p : List Int) (w : World) (hr : Row w v p) (hn : p.length ≤ 1099511627776) :
    Calls Try.prog 36 #[v] w (GivesRowB (hullL p) (validB p) w) := by
  have HV := Lib.hid (ivalid_any v p w hr hn)
  cases hv : validB p
  · have HB := Lib.hid (hullL_no hv)
    rw [hv] at HV
    clear hv
    go_enter Try.func36, Try.ntmps36
    go_wp2_with (go_at_call 27; refine HV.out.mono ?_; rintro e w' ⟨rfl, rfl⟩)
    go_ret2
    rw [HB.out]
    exact GivesRowB.nil w false
  · have HB := Lib.hid (hullL_yes hv)
    rw [hv] at HV
    have hl := valid_len hv
    obtain ⟨a, cap, rfl⟩ := hr.shape
    have HG := Lib.hid (fun (k : Nat) (wr : World) (hk : k < p.length) (hb : Below w.heap.size w wr) => onhull_any _ p k wr (hr.below hb) hv hk)
    obtain ⟨n, hN⟩ : ∃ n, n = p.length := ⟨_, rfl⟩
    rw [← hN] at hn hl HV HB HG ⊢
    obtain ⟨l1, l2⟩ := hl
    clear hr hv hN
    go_enter Try.func36, Try.ntmps36
    go_wp2_with (go_at_call 27; refine HV.out.mono ?_; rintro e w' ⟨rfl, rfl⟩)
    go_loopw [4, 12] (fun s j wr => ∃ k : Nat, k ≤ n ∧ j = .int .i64 k ∧ Own wr w.heap.size s (sel (hullB p) k) ∧ Below w.heap.size w wr) (fun _ j _ => n - (intOf j).toNat)
    case atStart => exact ⟨0, Nat.zero_le _, rfl, Own.emptyLit w _ (Nat.le_refl _), Below.alloc (Below.refl _ _) (Nat.le_refl _) _⟩
    case round =>
      obtain ⟨k, hk, rfl, ho, hb⟩ := hrel
      have hsz := hb.size
      have hlen := sel_len (hullB p) k
      have HO := Lib.hid ho; clear ho
      have HBe := Lib.hid hb; clear hb
      by_cases hlt : k < n
      · have G := Lib.hid (HG.out k _ hlt HBe.out)
        cases hf : hullB p k
        · have HS := Lib.hid (sel_no (hullB p) k hf)
          rw [hf] at G
          clear hf hlen
          go_wp2_with (go_at_call 57; refine G.out.mono ?_; rintro e w2 ⟨rfl, hb2⟩)
          go_roundw
          case rel => exact ⟨k + 1, by omega, by go_num, by rw [HS.out]; exact HO.out.below hb2, HBe.out.trans (hb2.mono hsz)⟩
          case measure => simp [intOf]; omega
        · have HS := Lib.hid (sel_yes (hullB p) k hf)
          rw [hf] at G
          clear hf
          obtain ⟨L, hL⟩ : ∃ L, L = sel (hullB p) k := ⟨_, rfl⟩
          rw [← hL] at HO HS hlen
          clear hL
          go_wp2_with (first | (go_at_call 57; refine G.out.mono ?_; rintro e w2 ⟨rfl, hb2⟩; (have HO2 := Lib.hid (HO.out.below hb2)); (have hsz2 := hb2.size)) | (at_builtin; refine append1 (by rfl) _ _ (by rfl) (w.heap.size) _ (L) ((k : Int)) (by rfl) (by rfl) (HO2.out) (by omega) (by omega) ?_; intro v' w3 ho3 hg3))
          go_roundw
          case rel => exact ⟨k + 1, by omega, by go_num, by rw [HS.out]; exact ho3, below_own (HBe.out.trans (hb2.mono hsz)) HO2.out (by omega) hg3⟩
          case measure => simp [intOf]; omega
      · have hke : k = n := by omega
        subst hke
        clear hlen
        go_wp2
        go_ret2
        rw [HB.out]
        exact GivesRowB.of HO.out HBe.out

theorem hull2_nil (p : List Int) (j i : Nat) : hull2 p j i (j + 1) := fun k h3 h4 => by omega
theorem hull1_nil (p : List Int) (j : Nat) : hull1 p j 0 := fun i h => by omega
theorem hull1_iff (p : List Int) (j i : Nat) : hull1 p j (i + 1) ↔ hull1 p j i ∧ hull2 p j i p.length :=
  ⟨fun h => ⟨fun i' hi => h i' (by omega), fun k h3 h4 => h i (by omega) k h3 h4⟩, fun h => hull1_step h.1 h.2⟩
theorem hull2_iff (p : List Int) (j i t : Nat) (h : j < t) : hull2 p j i (t + 1) ↔ hull2 p j i t ∧ overB p i j t = true :=
  ⟨fun h' => ⟨fun k h3 h4 => h' k h3 (by omega), h' t h (by omega)⟩, fun h => hull2_step h.1 h.2⟩
theorem hullB_of1 (p : List Int) (j : Nat) (A : Bool) (h : A = true ↔ hull1 p j j) : hullB p j = A := by
  rw [Bool.eq_iff_iff, hullB_iff, h]
  exact ⟨fun h i h1 k h2 h3 => h i k h1 h2 h3, fun h i k h1 h2 h3 => h i h1 k h2 h3⟩

set_option maxHeartbeats 800000 in
theorem shull_any (v : Value) (p : List Int) (w : World) (hr : Row w v p) (hn : p.length ≤ 1099511627776) :
    Calls Try.prog 37 #[v] w (GivesRowB (hullL p) (validB p) w) := by
  have HV := Lib.hid (fun (wr : World) (hb : Below w.heap.size w wr) => svalid_any v p wr (hr.below hb) hn)
  cases hv : validB p
  · have HB := Lib.hid (hullL_no hv)
    rw [hv] at HV
    clear hv
    go_enter Try.func37, Try.ntmps37
    go_wp2_with (go_at_call 49; refine (HV.out _ (Below.alloc (Below.refl _ _) (Nat.le_refl _) _)).mono ?_; rintro e w' ⟨rfl, rfl⟩)
    go_ret2
    rw [HB.out]
    exact GivesRowB.of (Own.emptyLit w _ (Nat.le_refl _)) (Below.alloc (Below.refl _ _) (Nat.le_refl _) _)
  · have HB := Lib.hid (hullL_yes hv)
    rw [hv] at HV
    have hl := valid_len hv
    have HH := Lib.hid (valid_ht' hv)
    have HI1 := Lib.hid (hull1_iff p)
    obtain ⟨a, cap, rfl⟩ := hr.shape
    obtain ⟨-, hc⟩ := hr.cells
    obtain ⟨n, hN⟩ : ∃ n, n = p.length := ⟨_, rfl⟩
    rw [← hN] at hn hl hc HV HB HI1 ⊢
    obtain ⟨l1, l2⟩ := hl
    have HC := Lib.hid hc
    clear hr hv hN hc
    go_enter Try.func37, Try.ntmps37
    go_wp2_with (go_at_call 49; refine (HV.out _ (Below.alloc (Below.refl _ _) (Nat.le_refl _) _)).mono ?_; rintro e w' ⟨rfl, rfl⟩)
    go_loopw [4, 5] (fun s j wr => ∃ k : Nat, k ≤ n ∧ j = .int .i64 k ∧ Own wr w.heap.size s (sel (hullB p) k) ∧ Below w.heap.size w wr) (fun _ j _ => n - (intOf j).toNat)
    case atStart => exact ⟨0, Nat.zero_le _, rfl, Own.emptyLit w _ (Nat.le_refl _), Below.alloc (Below.refl _ _) (Nat.le_refl _) _⟩
    case round =>
      obtain ⟨j, hk, rfl, ho, hb⟩ := hrel
      have hsz := hb.size
      have HO := Lib.hid ho; clear ho
      have HBe := Lib.hid hb; clear hb
      by_cases hlt : j < n
      · obtain ⟨b, off, rfl, hcj0⟩ := HC.out j hlt
        have hcj := (HBe.out.cell (p := ⟨b, off + j, none⟩) (World.block_lt_of_cell? w _ hcj0)).trans hcj0
        have hbl := World.block_lt_of_cell? w _ hcj0
        clear hcj0
        have hy := HH.out j
        obtain ⟨y, hY⟩ : ∃ y, y = p.getD j 0 := ⟨_, rfl⟩
        rw [← hY] at hcj hy
        have HY := Lib.hid hY; clear hY
        obtain ⟨y0, y1⟩ := hy
        go_wp2
        obtain ⟨wo, rfl⟩ : ∃ wo : World, wo = wr := ⟨_, rfl⟩
        go_loopw [6, 7] (fun A s wr => ∃ (m : Nat) (B : Bool), m ≤ j ∧ s = .int .i64 m ∧ A = .bool B ∧ (B = true ↔ hull1 p j m) ∧ ∃ q, wr = wo.drewN q) (fun _ s _ => j - (intOf s).toNat)
        case atStart => exact ⟨0, true, Nat.zero_le _, rfl, rfl, ⟨fun _ => hull1_nil p j, fun _ => rfl⟩, 0, rfl⟩
        case round =>
          obtain ⟨m, A, hm, rfl, rfl, hA, q, rfl⟩ := hrel
          have HA := Lib.hid hA; clear hA
          by_cases hlt2 : m < j
          · obtain ⟨b', off', he, hci0⟩ := HC.out m (by omega)
            simp only [Option.some.injEq, Addr.mk.injEq, and_true] at he
            obtain ⟨rfl, rfl⟩ := he
            have hci := (HBe.out.cell (p := ⟨b, off + m, none⟩) hbl).trans hci0
            clear hci0
            have hx := HH.out m
            obtain ⟨x, hX⟩ : ∃ x, x = p.getD m 0 := ⟨_, rfl⟩
            rw [← hX] at hci hx
            have HX := Lib.hid hX; clear hX
            obtain ⟨x0, x1⟩ := hx
            go_wp2
            go_loopw [6, 8] (fun A s wr => ∃ (t : Nat) (B : Bool), j < t ∧ t ≤ n ∧ s = .int .i64 t ∧ A = .bool B ∧ (B = true ↔ hull1 p j m ∧ hull2 p j m t) ∧ ∃ q, wr = wo.drewN q) (fun _ s _ => n - (intOf s).toNat)
            case atStart => exact ⟨j + 1, A, by omega, by omega, by go_num, rfl, by rw [HA.out]; exact ⟨fun h => ⟨h, hull2_nil p j m⟩, fun h => h.1⟩, _, rfl⟩
            case round =>
              clear HA
              obtain ⟨t, A, ht1, ht2, rfl, rfl, hA, q, rfl⟩ := hrel
              have HA := Lib.hid hA; clear hA
              have HI2 := Lib.hid (hull2_iff p j m t ht1)
              by_cases hlt3 : t < n
              · cases A
                · go_wp2
                  go_quiet (fail)
                  go_wp2
                  go_roundw
                  case rel => exact ⟨t + 1, false, by omega, by omega, by go_num, rfl, by rw [HI2.out]; exact ⟨fun h => (by cases h), fun h => HA.out.2 ⟨h.1, h.2.1⟩⟩, _, rfl⟩
                  case measure => simp [intOf]; omega
                · obtain ⟨b', off', he, hck0⟩ := HC.out t hlt3
                  simp only [Option.some.injEq, Addr.mk.injEq, and_true] at he
                  obtain ⟨rfl, rfl⟩ := he
                  have hck := (HBe.out.cell (p := ⟨b, off + t, none⟩) hbl).trans hck0
                  clear hck0
                  have hz := HH.out t
                  obtain ⟨z, hZ⟩ : ∃ z, z = p.getD t 0 := ⟨_, rfl⟩
                  rw [← hZ] at hck hz
                  have HZ := Lib.hid hZ; clear hZ
                  obtain ⟨z0, z1⟩ := hz
                  obtain ⟨m0, m1⟩ := prod_bd (y := (t : Int) - m) y0 y1 (by omega) (show (t : Int) - m ≤ 20 by omega)
                  obtain ⟨m2, m3⟩ := prod_bd (y := (t : Int) - j) x0 x1 (by omega) (show (t : Int) - j ≤ 20 by omega)
                  obtain ⟨m4, m5⟩ := prod_bd (y := (j : Int) - m) z0 z1 (by omega) (show (j : Int) - m ≤ 20 by omega)
                  by_cases hfree : y * ((t : Int) - m) ≤ x * ((t : Int) - j) + z * ((j : Int) - m)
                  · have HF := Lib.hid (show overB p m j t = false by rw [over_false, ← HX.out, ← HY.out, ← HZ.out]; exact hfree)
                    have hd : decide (x * ((t : Int) - j) + z * ((j : Int) - m) < y * ((t : Int) - m)) = false := by simp; omega
                    go_wp2
                    go_quiet (fail)
                    go_wp2
                    go_roundw
                    case rel => exact ⟨t + 1, false, by omega, by omega, by go_num, rfl, by rw [HI2.out, HF.out]; exact ⟨fun h => (by cases h), fun h => (by cases h.2.2)⟩, _, rfl⟩
                    case measure => simp [intOf]; omega
                  · have HF := Lib.hid (show overB p m j t = true by rw [over_iff, ← HX.out, ← HY.out, ← HZ.out]; exact hfree)
                    go_wp2
                    go_quiet (fail)
                    go_wp2
                    go_roundw
                    case rel => exact ⟨t + 1, true, by omega, by omega, by go_num, rfl, by rw [HI2.out, HF.out]; exact ⟨fun _ => ⟨(HA.out.1 (by trivial)).1, (HA.out.1 (by trivial)).2, rfl⟩, fun _ => rfl⟩, _, rfl⟩
                    case measure => simp [intOf]; omega
              · have hke : t = n := by omega
                subst hke
                go_wp2
                go_roundw
                case rel => exact ⟨m + 1, A, by omega, by go_num, rfl, by rw [HI1.out, HA.out], _, rfl⟩
                case measure => simp [intOf]; omega
          · have hke : m = j := by omega
            subst hke
            have hf := hullB_of1 p m A HA.out
            have hlen := sel_len (hullB p) m
            cases A
            · have HS := Lib.hid (sel_no (hullB p) m hf)
              clear hf hlen HA
              go_wp2
              go_roundw
              case rel => exact ⟨m + 1, by omega, by go_num, by rw [HS.out]; exact HO.out.drewN _, below_drewN HBe.out _⟩
              case measure => simp [intOf]; omega
            · have HS := Lib.hid (sel_yes (hullB p) m hf)
              clear hf HA
              obtain ⟨L, hL⟩ : ∃ L, L = sel (hullB p) m := ⟨_, rfl⟩
              rw [← hL] at HO HS hlen
              clear hL
              obtain ⟨wn, hwn⟩ : ∃ wn, wn = wo.drewN q := ⟨_, rfl⟩
              have HO2 := Lib.hid (show Own wn w.heap.size _ L by rw [hwn]; exact HO.out.drewN q)
              have HB2 := Lib.hid (show Below w.heap.size w wn by rw [hwn]; exact below_drewN HBe.out q)
              have hsz2 := HB2.out.size
              rw [← hwn]
              clear hwn
              go_wp2_with (at_builtin; refine append1 (by rfl) _ _ (by rfl) (w.heap.size) _ (L) ((m : Int)) (by rfl) (by rfl) (HO2.out) (hsz2) (by omega) ?_; intro v' w3 ho3 hg3)
              go_roundw
              case rel => exact ⟨m + 1, by omega, by go_num, by rw [HS.out]; exact ho3, below_own HB2.out HO2.out hsz2 hg3⟩
              case measure => simp [intOf]; omega
      · have hke : j = n := by omega
        subst hke
        go_wp2
        go_ret2
        rw [HB.out]
        exact GivesRowB.of HO.out HBe.out

end Go.Proofs.Ytbehpooapnjpeaa
