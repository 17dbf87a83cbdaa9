/- Contracts: ThinJoin of the program and of the reference. -/
import Derived.Test.YtonehpndbbojpaaTDrop
namespace Go.Proofs.Ytonehpndbbojpaa
open Go.RowKit

noncomputable def tjoinB (p a q b : List Int) : Bool := thinB p a && thinB q b && decide ((p.length : Int) + q.length - 1 ≤ 20 ∧ p.getD (p.length - 1) 0 = q.getD 0 0)
noncomputable def tjoinL (p a q b : List Int) : List Int := if tjoinB p a q b then a ++ (b.drop 1).map (fun x => x + ((p.length : Int) - 1)) else []
theorem tjoinL_yes {p a q b : List Int} (h : tjoinB p a q b = true) : tjoinL p a q b = a ++ (b.drop 1).map (fun x => x + ((p.length : Int) - 1)) := by simp [tjoinL, h]
theorem tjoinL_no {p a q b : List Int} (h : tjoinB p a q b = false) : tjoinL p a q b = [] := by simp [tjoinL, h]
theorem tjoinB_iff {p a q b : List Int} : tjoinB p a q b = true ↔ thinB p a = true ∧ thinB q b = true ∧ (p.length : Int) + q.length - 1 ≤ 20 ∧ p.getD (p.length - 1) 0 = q.getD 0 0 := by
  simp [tjoinB, and_assoc]
theorem tjoinB_no1 {p a q b : List Int} (h : thinB p a = false) : tjoinB p a q b = false := by simp [tjoinB, h]
theorem tjoinB_no2 {p a q b : List Int} (h : thinB q b = false) : tjoinB p a q b = false := by simp [tjoinB, h]
theorem tjoinB_no3 {p a q b : List Int} (h : 20 < (p.length : Int) + q.length - 1) : tjoinB p a q b = false := by
  cases e : tjoinB p a q b
  · rfl
  · rw [tjoinB_iff] at e; omega
theorem tjoinB_no4 {p a q b : List Int} (h : ¬ p.getD (p.length - 1) 0 = q.getD 0 0) : tjoinB p a q b = false := by
  cases e : tjoinB p a q b
  · rfl
  · rw [tjoinB_iff] at e; exact absurd e.2.2.2 h
theorem tjoinL_len (p a q b : List Int) (_h : True) : (tjoinL p a q b).length ≤ 1048576 := by
  cases e : tjoinB p a q b
  · rw [tjoinL_no e]; simp
  · rw [tjoinL_yes e]
    rw [tjoinB_iff] at e
    have h1 := (thinB_iff.1 e.1)
    have h2 := (thinB_iff.1 e.2.1)
    have := h1.len
    have := h2.len
    have := (valid_len h1.1).2
    have := (valid_len h2.1).2
    simp
    omega
theorem join_step (b : List Int) (f : Int → Int) (m : Nat) (h1 : 1 ≤ m) (h2 : m < b.length) : ((b.take (m + 1)).drop 1).map f = ((b.take m).drop 1).map f ++ [f (b.getD m 0)] := by
  rw [List.take_succ_eq_append_getElem h2, List.drop_append_of_le_length (by simp; omega), List.map_append]
  simp [h2]

set_option maxHeartbeats 1000000 in
theorem stjoin_any (v1 v2 v3 v4 : Value) (p a q b : List Int) (w : World) (hr1 : Row w v1 p) (hn1 : p.length ≤ 1099511627776) (hr2 : Row w v2 a) (hn2 : a.length ≤ 1099511627776) (hr3 : Row w v3 q) (hn3 : q.length ≤ 1099511627776) (hr4 : Row w v4 b) (hn4 : b.length ≤ 1099511627776) :
    Calls Try.prog 32 #[v1, v2, v3, v4] w (GivesRowB (tjoinL p a q b) (tjoinB p a q b) w) := by
  have V1 := Lib.hid (fun m => sthinv_any v1 v2 p a (w.drewN m) (hr1.drewN m) hn1 (hr2.drewN m) hn2)
  have V2 := Lib.hid (fun m => sthinv_any v3 v4 q b (w.drewN m) (hr3.drewN m) hn3 (hr4.drewN m) hn4)
  cases h1 : thinB p a
  · have HB := Lib.hid (tjoinB_no1 (q := q) (b := b) h1)
    rw [tjoinL_no HB.out, HB.out]
    rw [h1] at V1
    clear h1
    go_enter Try.func32, Try.ntmps32
    go_wp2
    go_quiet ((go_at_call 20; with_reducible exact Calls.quiet_of (V1.out _)))
    obtain ⟨W, hW⟩ : ∃ W, W = w.drewN nq := ⟨_, rfl⟩
    have HBW := Lib.hid (show Below w.heap.size w W by rw [hW]; exact below_drewN (Below.refl _ _) _)
    rw [← hW]
    clear hW
    go_wp2
    go_ret2
    exact GivesRowB.of (Own.emptyLit _ _ HBW.out.size) (Below.alloc HBW.out HBW.out.size _)
  · cases h2 : thinB q b
    · have HB := Lib.hid (tjoinB_no2 (p := p) (a := a) h2)
      rw [tjoinL_no HB.out, HB.out]
      rw [h1] at V1
      rw [h2] at V2
      clear h1 h2
      go_enter Try.func32, Try.ntmps32
      go_wp2
      go_quiet (first | (go_at_call 20; with_reducible exact Calls.quiet_of (V1.out _)) | (go_at_call 20; with_reducible exact Calls.quiet_of (V2.out _)))
      obtain ⟨W, hW⟩ : ∃ W, W = w.drewN nq := ⟨_, rfl⟩
      have HBW := Lib.hid (show Below w.heap.size w W by rw [hW]; exact below_drewN (Below.refl _ _) _)
      rw [← hW]
      clear hW
      go_wp2
      go_ret2
      exact GivesRowB.of (Own.emptyLit _ _ HBW.out.size) (Below.alloc HBW.out HBW.out.size _)
    · have t1 := thinB_iff.1 h1
      have t2 := thinB_iff.1 h2
      have l1 := valid_len t1.1
      have l3 := valid_len t2.1
      have l2 := t1.2.1
      have l4 := t2.2.1
      have l2' := t1.len
      have l4' := t2.len
      have HBd := Lib.hid (fun m hm => t2.bd m hm)
      have N3 := Lib.hid (@tjoinB_no3 p a q b)
      have N4 := Lib.hid (@tjoinB_no4 p a q b)
      have NL := Lib.hid (@tjoinL_no p a q b)
      have YL := Lib.hid (@tjoinL_yes p a q b)
      have YB := Lib.hid (fun x y => (@tjoinB_iff p a q b).2 ⟨h1, h2, x, y⟩)
      have JS := Lib.hid (join_step b (fun x => x + ((p.length : Int) - 1)))
      have JA := Lib.hid (show b.take b.length = b by simp)
      have J1 := Lib.hid (show ((b.take 1).drop 1).map (fun x => x + ((p.length : Int) - 1)) = [] by simp)
      rw [h1] at V1
      rw [h2] at V2
      obtain ⟨a1, c1, rfl⟩ := hr1.shape
      obtain ⟨a2, c2, rfl⟩ := hr2.shape
      obtain ⟨a3, c3, rfl⟩ := hr3.shape
      obtain ⟨a4, c4, rfl⟩ := hr4.shape
      obtain ⟨-, C1⟩ := hr1.cells
      obtain ⟨-, C2⟩ := hr2.cells
      obtain ⟨-, C3⟩ := hr3.cells
      obtain ⟨-, C4⟩ := hr4.cells
      obtain ⟨b1, o1, rfl, k1⟩ := C1 (p.length - 1) (by omega)
      obtain ⟨b2, o2, rfl, -⟩ := C2 0 (by omega)
      obtain ⟨b3, o3, rfl, k3⟩ := C3 0 (by omega)
      obtain ⟨n1, hN1⟩ : ∃ n, n = p.length := ⟨_, rfl⟩
      obtain ⟨n2, hN2⟩ : ∃ n, n = a.length := ⟨_, rfl⟩
      obtain ⟨n3, hN3⟩ : ∃ n, n = q.length := ⟨_, rfl⟩
      obtain ⟨n4, hN4⟩ : ∃ n, n = b.length := ⟨_, rfl⟩
      have HC2 := Lib.hid (show ∀ j, j < a.length → w.cell? ⟨b2, o2 + j, none⟩ = some (.int .i64 (a.getD j 0)) from fun j hj => by
        obtain ⟨b', o', e, h⟩ := C2 j hj
        simp only [Option.some.injEq, Addr.mk.injEq, and_true] at e
        obtain ⟨rfl, rfl⟩ := e
        exact h)
      have HC4 := Lib.hid C4
      clear C1 C2 C3 C4
      rw [← hN1] at hn1 l1 l2' k1 V1 N3 N4 YL YB JS J1 ⊢
      rw [← hN2] at hn2 l2 l2' V1 HC2 ⊢
      rw [← hN3] at hn3 l3 l4' V2 N3 HBd YB ⊢
      rw [← hN4] at hn4 l4 l4' V2 HBd HC4 JA JS ⊢
      have HN2 := Lib.hid hN2
      clear hr1 hr2 hr3 hr4 t1 t2 h1 h2 hN1 hN2 hN3 hN4
      obtain ⟨l1a, l1b⟩ := l1
      obtain ⟨l3a, l3b⟩ := l3
      obtain ⟨x, hX⟩ : ∃ x, x = p.getD (n1 - 1) 0 := ⟨_, rfl⟩
      obtain ⟨y, hY⟩ : ∃ y, y = q.getD 0 0 := ⟨_, rfl⟩
      rw [← hX] at k1 N4 YB
      rw [← hY] at k3 N4 YB
      rw [Nat.add_zero] at k3
      clear hX hY
      have q1 : IntKind.i64.wrap ((n1 : Int) + n3) = (n1 : Int) + n3 := IntWalk.i64_in _ (by omega)
      have q2 : IntKind.i64.wrap ((n1 : Int) + n3 - 1) = (n1 : Int) + n3 - 1 := IntWalk.i64_in _ (by omega)
      have q3 : IntKind.i64.wrap ((n1 : Int) - 1) = (n1 : Int) - 1 := IntWalk.i64_in _ (by omega)
      have q4 : ((n1 : Int) - 1).toNat = n1 - 1 := by omega
      have q5 : (0 : Int) ≤ (n1 : Int) - 1 := by omega
      have q6 : (n1 : Int) - 1 < (n1 : Int) := by omega
      have q7 : (0 : Int) < (n3 : Int) := by omega
      have q8 : 0 < n3 := by omega
      by_cases hsum : 20 < (n1 : Int) + n3 - 1
      · have HB := Lib.hid (N3.out hsum)
        rw [NL.out HB.out, HB.out]
        go_enter Try.func32, Try.ntmps32
        go_wp2
        go_quiet (first | (go_at_call 20; with_reducible exact Calls.quiet_of (V1.out _)) | (go_at_call 20; with_reducible exact Calls.quiet_of (V2.out _)))
        obtain ⟨W, hW⟩ : ∃ W, W = w.drewN nq := ⟨_, rfl⟩
        have HBW := Lib.hid (show Below w.heap.size w W by rw [hW]; exact below_drewN (Below.refl _ _) _)
        rw [← hW]
        clear hW
        go_wp2
        go_ret2
        exact GivesRowB.of (Own.emptyLit _ _ HBW.out.size) (Below.alloc HBW.out HBW.out.size _)
      · have hd : decide (20 < (n1 : Int) + n3 - 1) = false := by simpa using hsum
        by_cases hxy : x = y
        · subst hxy
          have HB := Lib.hid (YB.out (by omega) rfl)
          rw [YL.out HB.out, HB.out]
          have hb : (x != x) = false := by simp
          go_enter Try.func32, Try.ntmps32
          go_wp2
          go_quiet (first | (go_at_call 20; with_reducible exact Calls.quiet_of (V1.out _)) | (go_at_call 20; with_reducible exact Calls.quiet_of (V2.out _)))
          obtain ⟨W, hW⟩ : ∃ W, W = w.drewN nq := ⟨_, rfl⟩
          have HBW := Lib.hid (show Below w.heap.size w W by rw [hW]; exact below_drewN (Below.refl _ _) _)
          rw [← hW]
          clear hW hd q1 q2 q3 q4
          have OA := Lib.hid (Own.emptyLit W _ HBW.out.size)
          have BA := Lib.hid (Below.alloc HBW.out HBW.out.size (.cells #[] 3))
          have hlt2 := World.block_lt_of_cell? w _ (HC2.out 0 l2)
          have CA := Lib.hid (show ∀ j, j < n2 → (W.alloc (.cells #[] 3)).cell? ⟨b2, o2 + j, none⟩ = some (.int .i64 (a.getD j 0)) from fun j hj => (BA.out.cell (p := ⟨b2, o2 + j, none⟩) hlt2).trans (HC2.out j hj))
          have hs0 := BA.out.size
          go_wp2_with (at_builtin; refine appN (by rfl) _ _ (by rfl) w.heap.size _ [] a b2 o2 n2 c2 (by rfl) (by rfl) HN2.out.symm CA.out OA.out hs0 (by simp; omega) ?_; intro v' w3 ho3 hg3)
          have HB3 := Lib.hid (below_own BA.out OA.out hs0 hg3)
          have HO3 := Lib.hid ho3
          clear ho3 hg3
          go_loopw [10, 11] (fun out k wr => ∃ m : Nat, 1 ≤ m ∧ m ≤ n4 ∧ k = .int .i64 m ∧ Own wr w.heap.size out (a ++ ((b.take m).drop 1).map (fun x => x + ((n1 : Int) - 1))) ∧ Below w.heap.size w wr) (fun _ k _ => n4 - (intOf k).toNat)
          case atStart => exact ⟨1, Nat.le_refl _, by omega, rfl, by rw [J1.out, List.append_nil]; exact HO3.out, HB3.out⟩
          case round =>
            clear HO3 HB3 CA BA OA HBW
            obtain ⟨m, hm1, hm2, rfl, ho, hb⟩ := hrel
            have hsz := hb.size
            have HO := Lib.hid ho; clear ho
            have HBe := Lib.hid hb; clear hb
            by_cases hlt : m < n4
            · obtain ⟨b4, o4, rfl, c0⟩ := HC4.out m hlt
              have k4 := (HBe.out.cell (World.block_lt_of_cell? w _ c0)).trans c0
              have S := Lib.hid (JS.out m hm1 hlt)
              have hbd := HBd.out m hlt
              obtain ⟨z, hZ⟩ : ∃ z, z = b.getD m 0 := ⟨_, rfl⟩
              rw [← hZ] at k4 S hbd
              obtain ⟨z0, z1⟩ := hbd
              have hlen : (a ++ ((b.take m).drop 1).map (fun x => x + ((n1 : Int) - 1))).length ≤ 1099511627776 := by have := HN2.out; simp; omega
              obtain ⟨L, hL⟩ : ∃ L, L = a ++ ((b.take m).drop 1).map (fun x => x + ((n1 : Int) - 1)) := ⟨_, rfl⟩
              rw [← hL] at HO hlen
              have HLL := Lib.hid hL
              clear c0 hZ hL
              go_wp2_with (at_builtin; refine append1 (by rfl) _ _ (by rfl) (w.heap.size) _ (L) ((z + n1 - 1)) (by rfl) (by rfl) (HO.out) (hsz) (hlen) ?_; intro v5 w5 ho5 hg5)
              go_roundw
              case rel =>
                refine ⟨m + 1, by omega, by omega, by go_num, ?_, below_own HBe.out HO.out hsz hg5⟩
                rw [S.out, ← List.append_assoc, ← HLL.out, show z + ((n1 : Int) - 1) = z + n1 - 1 by omega]
                exact ho5
              case measure => simp [intOf]; omega
            · have hme : m = n4 := by omega
              subst hme
              rw [JA.out] at HO
              go_wp2
              go_ret2
              exact GivesRowB.of HO.out HBe.out
        · have HB := Lib.hid (N4.out hxy)
          rw [NL.out HB.out, HB.out]
          have hb : (x != y) = true := by simpa using hxy
          go_enter Try.func32, Try.ntmps32
          go_wp2
          go_quiet (first | (go_at_call 20; with_reducible exact Calls.quiet_of (V1.out _)) | (go_at_call 20; with_reducible exact Calls.quiet_of (V2.out _)))
          obtain ⟨W, hW⟩ : ∃ W, W = w.drewN nq := ⟨_, rfl⟩
          have HBW := Lib.hid (show Below w.heap.size w W by rw [hW]; exact below_drewN (Below.refl _ _) _)
          rw [← hW]
          clear hW
          go_wp2
          go_ret2
          exact GivesRowB.of (Own.emptyLit _ _ HBW.out.size) (Below.alloc HBW.out HBW.out.size _)

end Go.Proofs.Ytonehpndbbojpaa
