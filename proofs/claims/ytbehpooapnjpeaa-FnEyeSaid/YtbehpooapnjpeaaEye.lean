/- Contracts: ProfileEye of the program and of the reference. -/
import Derived.Test.YtbehpooapnjpeaaSees
import Derived.Deep.RegionHeld3
namespace Go.Proofs.Ytbehpooapnjpeaa
open Go.RowKit

theorem eyeV_no1 {p : List Int} {i k : Int} (h : hasB p i = false) : eyeV p i k = -1 := by simp [eyeV, h]
theorem eyeV_no2 {p : List Int} {i k : Int} (h : hasB p k = false) : eyeV p i k = -1 := by simp [eyeV, h]
theorem eyeV_yes {p : List Int} {i k : Nat} (h : hasB p i = true) (h' : hasB p k = true) : eyeV p i k = leastB (fun e => seesB p i k e) 51 := by simp [eyeV, h, h']

theorem ieye_any (v : Value) (p : List Int) (i k : Int) (w : World) (hr : Row w v p) (hn : p.length ≤ 1099511627776) :
    Calls Try.prog 25 #[v, .int .i64 i, .int .i64 k] w fun e w' => e = .returned (.int .i64 (eyeV p i k)) ∧ Below w.heap.size w w' := by
  cases e1 : hasB p i
  · have HB := Lib.hid (eyeV_no1 (k := k) e1)
    go_enter Try.func25, Try.ntmps25
    go_wp2_with (go_at_call 51; refine (ihas_any _ p _ _ hr hn).mono ?_; rintro e w' ⟨rfl, rfl⟩)
    go_ret
    exact ⟨ret_int HB.out.symm, Below.refl _ _⟩
  · cases e2 : hasB p k
    · have HB := Lib.hid (eyeV_no2 (i := i) e2)
      go_enter Try.func25, Try.ntmps25
      go_wp2_with (go_at_call 51; refine (ihas_any _ p _ _ hr hn).mono ?_; rintro e w' ⟨rfl, rfl⟩)
      go_ret
      exact ⟨ret_int HB.out.symm, Below.refl _ _⟩
    · obtain ⟨i', rfl, hi, hv⟩ := has_split e1
      obtain ⟨k', rfl, hk, -⟩ := has_split e2
      have HA := Lib.hid (show ∀ j : Nat, j < 51 → (∀ t, t < j → seesB p i' k' t = false) → seesB p i' k' j = true → eyeV p i' k' = j from fun j h1 h2 h3 => by rw [eyeV_yes e1 e2]; exact leastB_at (f := fun e => seesB p i' k' e) h3 h2 h1)
      have HN := Lib.hid (show (∀ t : Nat, t < 51 → seesB p i' k' t = false) → eyeV p i' k' = -1 from fun h => by rw [eyeV_yes e1 e2]; exact leastB_none (f := fun e => seesB p i' k' e) h)
      have HX := Lib.hid (ihas_any v p (i' : Int) w hr hn)
      have HY := Lib.hid (ihas_any v p (k' : Int) w hr hn)
      rw [e1] at HX; rw [e2] at HY
      clear e1 e2
      have hx := valid_ht' hv i'
      have hy := valid_ht' hv k'
      have HG := Lib.hid (fun (t : Nat) (wr : World) (ht : t ≤ 50) (hb : Below w.heap.size w wr) => insight_any v p i' k' (p.getD i' 0 + t) (p.getD k' 0) wr (hr.below hb) hv hi hk (by omega) (by omega) hy.1 (by omega))
      have HSe := Lib.hid (show ∀ t : Nat, lookB p i' k' (p.getD i' 0 + t) (p.getD k' 0) = seesB p i' k' t from fun _ => rfl)
      obtain ⟨a, cap, rfl⟩ := hr.shape
      obtain ⟨-, hc⟩ := hr.cells
      have hl := valid_len hv
      obtain ⟨n, hN⟩ : ∃ n, n = p.length := ⟨_, rfl⟩
      rw [← hN] at hn hi hk hl hc HX HY HG ⊢
      obtain ⟨l1, l2⟩ := hl
      obtain ⟨b, off, rfl, hci⟩ := hc i' hi
      obtain ⟨b', off', he, hck⟩ := hc k' hk
      simp only [Option.some.injEq, Addr.mk.injEq, and_true] at he
      obtain ⟨rfl, rfl⟩ := he
      obtain ⟨x, hX⟩ : ∃ x, x = p.getD i' 0 := ⟨_, rfl⟩
      obtain ⟨y, hY⟩ : ∃ y, y = p.getD k' 0 := ⟨_, rfl⟩
      rw [← hX] at hci HG HSe hx
      rw [← hY] at hck HG HSe hy
      obtain ⟨x0, x1⟩ := hx
      clear hr hc hN hX hY hv hy
      go_enter Try.func25, Try.ntmps25
      go_wp2_with (first | (go_at_call 51; refine HX.out.mono ?_; rintro e w' ⟨rfl, rfl⟩; clear HX) | (go_at_call 51; refine HY.out.mono ?_; rintro e w' ⟨rfl, rfl⟩))
      go_loopw [18] (fun j wr => ∃ m : Nat, m ≤ 51 ∧ j = .int .i64 m ∧ (∀ t : Nat, t < m → seesB p i' k' t = false) ∧ Below w.heap.size w wr) (fun j _ => 51 - (intOf j).toNat)
      case atStart => exact ⟨0, Nat.zero_le _, rfl, fun t ht => by omega, Below.refl _ _⟩
      case round =>
        obtain ⟨m, hm, rfl, ht, hb⟩ := hrel
        have HT := Lib.hid ht; clear ht
        have HBe := Lib.hid hb; clear hb
        have hsz := HBe.out.size
        by_cases hlt : m < 51
        · have G := Lib.hid (fun w' (hb : Below w.heap.size w w') => HG.out m w' (by omega) hb)
          rw [HSe.out m] at G
          have hci' := (HBe.out.cell (World.block_lt_of_cell? w _ hci)).trans hci
          have hck' := (HBe.out.cell (World.block_lt_of_cell? w _ hck)).trans hck
          have hlti := World.block_lt_of_cell? wr _ hci'
          have hwr : IntKind.i64.wrap (x + (m : Int)) = x + (m : Int) := IntWalk.i64_in _ (by omega)
          cases hf : seesB p i' k' m
          · rw [hf] at G
            have HF := Lib.hid hf; clear hf
            go_wp2
            go_region_held3 (fun w' => w'.cell? ⟨b, off + i', none⟩ = some (.int .i64 x) ∧ w'.cell? ⟨b, off + k', none⟩ = some (.int .i64 y)) (go_keep)
              (first | (go_at_call 55; refine (G.out _ (below_drewN HBe.out 1)).mono ?_; rintro e w' ⟨rfl, hb2⟩; (have h1 := (hb2.cell (p := ⟨b, off + i', none⟩) hlti).trans hci'); (have h2 := (hb2.cell (p := ⟨b, off + k', none⟩) hlti).trans hck')))
            go_wp2
            go_roundw
            case rel =>
              refine ⟨m + 1, by omega, by go_num, fun t h => ?_, (below_drewN HBe.out 1).trans (hb2.mono hsz)⟩
              by_cases htm : t < m
              · exact HT.out t htm
              · have : t = m := by omega
                subst this; exact HF.out
            case measure => simp [intOf]; omega
          · rw [hf] at G
            have HF := Lib.hid (HA.out m (by omega) HT.out hf); clear hf
            go_wp2
            go_region_held3 (fun w' => w'.cell? ⟨b, off + i', none⟩ = some (.int .i64 x) ∧ w'.cell? ⟨b, off + k', none⟩ = some (.int .i64 y)) (go_keep)
              (first | (go_at_call 55; refine (G.out _ (below_drewN HBe.out 1)).mono ?_; rintro e w' ⟨rfl, hb2⟩; (have h1 := (hb2.cell (p := ⟨b, off + i', none⟩) hlti).trans hci'); (have h2 := (hb2.cell (p := ⟨b, off + k', none⟩) hlti).trans hck')))
            go_wp2
            go_ret
            exact ⟨ret_int HF.out.symm, (below_drewN HBe.out 1).trans (hb2.mono hsz)⟩
        · have HF := Lib.hid (HN.out (fun t h => HT.out t (by omega)))
          go_wp2
          go_ret
          exact ⟨ret_int HF.out.symm, HBe.out⟩

theorem seye_any (v : Value) (p : List Int) (i k : Int) (w : World) (hr : Row w v p) (hn : p.length ≤ 1099511627776) :
    Calls Try.prog 26 #[v, .int .i64 i, .int .i64 k] w fun e w' => e = .returned (.int .i64 (eyeV p i k)) ∧ Below w.heap.size w w' := by
  cases e1 : hasB p i
  · have HB := Lib.hid (eyeV_no1 (k := k) e1)
    go_enter Try.func26, Try.ntmps26
    go_wp2_with (go_at_call 53; refine (shas_any _ p _ _ hr hn).mono ?_; rintro e w' ⟨rfl, rfl⟩)
    go_ret
    exact ⟨ret_int HB.out.symm, Below.refl _ _⟩
  · cases e2 : hasB p k
    · have HB := Lib.hid (eyeV_no2 (i := i) e2)
      go_enter Try.func26, Try.ntmps26
      go_wp2_with (go_at_call 53; refine (shas_any _ p _ _ hr hn).mono ?_; rintro e w' ⟨rfl, rfl⟩)
      go_ret
      exact ⟨ret_int HB.out.symm, Below.refl _ _⟩
    · obtain ⟨i', rfl, hi, hv⟩ := has_split e1
      obtain ⟨k', rfl, hk, -⟩ := has_split e2
      have HA := Lib.hid (show ∀ j : Nat, j < 51 → (∀ t, t < j → seesB p i' k' t = false) → seesB p i' k' j = true → eyeV p i' k' = j from fun j h1 h2 h3 => by rw [eyeV_yes e1 e2]; exact leastB_at (f := fun e => seesB p i' k' e) h3 h2 h1)
      have HN := Lib.hid (show (∀ t : Nat, t < 51 → seesB p i' k' t = false) → eyeV p i' k' = -1 from fun h => by rw [eyeV_yes e1 e2]; exact leastB_none (f := fun e => seesB p i' k' e) h)
      have HX := Lib.hid (shas_any v p (i' : Int) w hr hn)
      have HY := Lib.hid (shas_any v p (k' : Int) w hr hn)
      rw [e1] at HX; rw [e2] at HY
      clear e1 e2
      have HG := Lib.hid (fun (t : Nat) (wr : World) (ht : t ≤ 50) (hb : Below w.heap.size w wr) => ssees_b v p i' k' t wr (hr.below hb) hv hi hk (by omega) (by omega))
      clear hr hv hn hi hk
      go_enter Try.func26, Try.ntmps26
      go_wp2_with (first | (go_at_call 53; refine HX.out.mono ?_; rintro e w' ⟨rfl, rfl⟩; clear HX) | (go_at_call 53; refine HY.out.mono ?_; rintro e w' ⟨rfl, rfl⟩))
      go_loopw [7] (fun j wr => ∃ m : Nat, m ≤ 51 ∧ j = .int .i64 m ∧ (∀ t : Nat, t < m → seesB p i' k' t = false) ∧ Below w.heap.size w wr) (fun j _ => 51 - (intOf j).toNat)
      case atStart => exact ⟨0, Nat.zero_le _, rfl, fun t ht => by omega, Below.refl _ _⟩
      case round =>
        obtain ⟨m, hm, rfl, ht, hb⟩ := hrel
        have HT := Lib.hid ht; clear ht
        have HBe := Lib.hid hb; clear hb
        have hsz := HBe.out.size
        by_cases hlt : m < 51
        · have G := Lib.hid (HG.out m _ (by omega) HBe.out)
          cases hf : seesB p i' k' m
          · rw [hf] at G
            have HF := Lib.hid hf; clear hf
            go_wp2_with (go_at_call 54; refine G.out.mono ?_; rintro e w' ⟨rfl, hb2⟩)
            go_roundw
            case rel =>
              refine ⟨m + 1, by omega, by go_num, fun t h => ?_, HBe.out.trans (hb2.mono hsz)⟩
              by_cases htm : t < m
              · exact HT.out t htm
              · have : t = m := by omega
                subst this; exact HF.out
            case measure => simp [intOf]; omega
          · rw [hf] at G
            have HF := Lib.hid (HA.out m (by omega) HT.out hf); clear hf
            go_wp2_with (go_at_call 54; refine G.out.mono ?_; rintro e w' ⟨rfl, hb2⟩)
            go_ret
            exact ⟨ret_int HF.out.symm, HBe.out.trans (hb2.mono hsz)⟩
        · have HF := Lib.hid (HN.out (fun t h => HT.out t (by omega)))
          go_wp2
          go_ret
          exact ⟨ret_int HF.out.symm, HBe.out⟩

end Go.Proofs.Ytbehpooapnjpeaa
