/- Contracts: which cell is ranked higher, of the laws and of the reference. -/
import Derived.Test.YtkhhloeemecokaaHgt
namespace Go.Proofs.Ytkhhloeemecokaa
open Go.RowKit
set_option linter.unusedVariables false

def hiB (g : List (List Int)) (C a b : Nat) : Bool := decide (hgtG g C b < hgtG g C a ∨ (hgtG g C a = hgtG g C b ∧ a < b))

set_option maxHeartbeats 1000000 in
theorem l4Higher_any (v : Value) (g : List (List Int)) (a b n C : Nat) (w : World) (hr : MRow w v g) (hn : n = g.length) (hC : C = colsG g) (hC1 : 1 ≤ C) (h2 : n ≤ 7) (h4 : C ≤ 7) (ha : a < n * C) (hb : b < n * C) (hrow : ∀ r, r < n → (g.getD r []).length = C) :
    Calls Try.prog 53 #[v, .int .i64 (a : Nat), .int .i64 (b : Nat)] w fun e w' => e = .returned (.bool (hiB g C a b)) ∧ Below w.heap.size w w' := by
  have HA := Lib.hid (fun wx (hrx : MRow wx v g) => l2Height_any v g a n C wx hrx hn hC hC1 h2 h4 ha hrow)
  have HB := Lib.hid (fun wx (hrx : MRow wx v g) => l2Height_any v g b n C wx hrx hn hC hC1 h2 h4 hb hrow)
  have HR0 := Lib.hid hr
  have HW0 := Lib.hid (Below.refl w.heap.size w)
  obtain ⟨x, hx⟩ : ∃ x, x = hgtG g C a := ⟨_, rfl⟩
  obtain ⟨y, hy⟩ : ∃ y, y = hgtG g C b := ⟨_, rfl⟩
  have HE := Lib.hid (show hiB g C a b = decide (y < x ∨ (x = y ∧ a < b)) by rw [hx, hy]; rfl)
  rw [← hx] at HA
  rw [← hy] at HB
  clear hr hn hC hrow hx hy h2 h4 ha hb hC1
  by_cases c0 : y < x
  · have d0 : x > y := c0
    go_enter Try.func53, Try.ntmps53
    go_wp2_with (first | (go_at_call 55; (with_reducible refine (HA.out w HR0.out).mono ?_); rintro e w1 ⟨rfl, hw1⟩; (have HW1 := Lib.hid (show Below w.heap.size w w1 from (HW0.out.trans ((show Below (w).heap.size w w1 from by rw [hw1]; exact below_drewN (Below.refl _ _) 1).mono HW0.out.size)))); (have HR1 := Lib.hid (show MRow w1 v g from by rw [hw1]; exact HR0.out)); clear hw1) | (go_at_call 55; (with_reducible refine (HB.out w1 HR1.out).mono ?_); rintro e w2 ⟨rfl, hw2⟩; (have HW2 := Lib.hid (show Below w.heap.size w w2 from (HW1.out.trans ((show Below (w1).heap.size w1 w2 from by rw [hw2]; exact below_drewN (Below.refl _ _) 1).mono HW1.out.size)))); (have HR2 := Lib.hid (show MRow w2 v g from by rw [hw2]; exact HR1.out)); clear hw2) | (go_at_call 55; (with_reducible refine (HA.out w2 HR2.out).mono ?_); rintro e w3 ⟨rfl, hw3⟩; (have HW3 := Lib.hid (show Below w.heap.size w w3 from (HW2.out.trans ((show Below (w2).heap.size w2 w3 from by rw [hw3]; exact below_drewN (Below.refl _ _) 1).mono HW2.out.size)))); (have HR3 := Lib.hid (show MRow w3 v g from by rw [hw3]; exact HR2.out)); clear hw3) | (go_at_call 55; (with_reducible refine (HB.out w3 HR3.out).mono ?_); rintro e w4 ⟨rfl, hw4⟩; (have HW4 := Lib.hid (show Below w.heap.size w w4 from (HW3.out.trans ((show Below (w3).heap.size w3 w4 from by rw [hw4]; exact below_drewN (Below.refl _ _) 1).mono HW3.out.size)))); (have HR4 := Lib.hid (show MRow w4 v g from by rw [hw4]; exact HR3.out)); clear hw4))
    go_ret
    exact ⟨by rw [HE.out, show decide (y < x ∨ (x = y ∧ a < b)) = true from by simp [c0]]; first | rfl | simp [c0] | (simp; omega), HW2.out⟩
  · have d0 : ¬ x > y := c0
    by_cases c1 : x = y
    · have HEq := Lib.hid c1
      by_cases c2 : a < b
      · have d2 : (a : Int) < (b : Int) := by omega
        go_enter Try.func53, Try.ntmps53
        go_wp2_with (first | (go_at_call 55; (with_reducible refine (HA.out w HR0.out).mono ?_); rintro e w1 ⟨rfl, hw1⟩; (have HW1 := Lib.hid (show Below w.heap.size w w1 from (HW0.out.trans ((show Below (w).heap.size w w1 from by rw [hw1]; exact below_drewN (Below.refl _ _) 1).mono HW0.out.size)))); (have HR1 := Lib.hid (show MRow w1 v g from by rw [hw1]; exact HR0.out)); clear hw1) | (go_at_call 55; (with_reducible refine (HB.out w1 HR1.out).mono ?_); rintro e w2 ⟨rfl, hw2⟩; (have HW2 := Lib.hid (show Below w.heap.size w w2 from (HW1.out.trans ((show Below (w1).heap.size w1 w2 from by rw [hw2]; exact below_drewN (Below.refl _ _) 1).mono HW1.out.size)))); (have HR2 := Lib.hid (show MRow w2 v g from by rw [hw2]; exact HR1.out)); clear hw2) | (go_at_call 55; (with_reducible refine (HA.out w2 HR2.out).mono ?_); rintro e w3 ⟨rfl, hw3⟩; (have HW3 := Lib.hid (show Below w.heap.size w w3 from (HW2.out.trans ((show Below (w2).heap.size w2 w3 from by rw [hw3]; exact below_drewN (Below.refl _ _) 1).mono HW2.out.size)))); (have HR3 := Lib.hid (show MRow w3 v g from by rw [hw3]; exact HR2.out)); clear hw3) | (go_at_call 55; (with_reducible refine (HB.out w3 HR3.out).mono ?_); rintro e w4 ⟨rfl, hw4⟩; (have HW4 := Lib.hid (show Below w.heap.size w w4 from (HW3.out.trans ((show Below (w3).heap.size w3 w4 from by rw [hw4]; exact below_drewN (Below.refl _ _) 1).mono HW3.out.size)))); (have HR4 := Lib.hid (show MRow w4 v g from by rw [hw4]; exact HR3.out)); clear hw4))
        go_ret
        exact ⟨by rw [HE.out, show decide (y < x ∨ (x = y ∧ a < b)) = true from by simp [c1, c2]]; first | rfl | simp [c0] | (simp; omega), HW4.out⟩
      · have d2 : ¬ (a : Int) < (b : Int) := by omega
        go_enter Try.func53, Try.ntmps53
        go_wp2_with (first | (go_at_call 55; (with_reducible refine (HA.out w HR0.out).mono ?_); rintro e w1 ⟨rfl, hw1⟩; (have HW1 := Lib.hid (show Below w.heap.size w w1 from (HW0.out.trans ((show Below (w).heap.size w w1 from by rw [hw1]; exact below_drewN (Below.refl _ _) 1).mono HW0.out.size)))); (have HR1 := Lib.hid (show MRow w1 v g from by rw [hw1]; exact HR0.out)); clear hw1) | (go_at_call 55; (with_reducible refine (HB.out w1 HR1.out).mono ?_); rintro e w2 ⟨rfl, hw2⟩; (have HW2 := Lib.hid (show Below w.heap.size w w2 from (HW1.out.trans ((show Below (w1).heap.size w1 w2 from by rw [hw2]; exact below_drewN (Below.refl _ _) 1).mono HW1.out.size)))); (have HR2 := Lib.hid (show MRow w2 v g from by rw [hw2]; exact HR1.out)); clear hw2) | (go_at_call 55; (with_reducible refine (HA.out w2 HR2.out).mono ?_); rintro e w3 ⟨rfl, hw3⟩; (have HW3 := Lib.hid (show Below w.heap.size w w3 from (HW2.out.trans ((show Below (w2).heap.size w2 w3 from by rw [hw3]; exact below_drewN (Below.refl _ _) 1).mono HW2.out.size)))); (have HR3 := Lib.hid (show MRow w3 v g from by rw [hw3]; exact HR2.out)); clear hw3) | (go_at_call 55; (with_reducible refine (HB.out w3 HR3.out).mono ?_); rintro e w4 ⟨rfl, hw4⟩; (have HW4 := Lib.hid (show Below w.heap.size w w4 from (HW3.out.trans ((show Below (w3).heap.size w3 w4 from by rw [hw4]; exact below_drewN (Below.refl _ _) 1).mono HW3.out.size)))); (have HR4 := Lib.hid (show MRow w4 v g from by rw [hw4]; exact HR3.out)); clear hw4))
        go_ret
        exact ⟨by rw [HE.out, show decide (y < x ∨ (x = y ∧ a < b)) = false from by simp [c0, c2]]; first | rfl | simp [c0] | (simp; omega), HW4.out⟩
    · skip
      go_enter Try.func53, Try.ntmps53
      go_wp2_with (first | (go_at_call 55; (with_reducible refine (HA.out w HR0.out).mono ?_); rintro e w1 ⟨rfl, hw1⟩; (have HW1 := Lib.hid (show Below w.heap.size w w1 from (HW0.out.trans ((show Below (w).heap.size w w1 from by rw [hw1]; exact below_drewN (Below.refl _ _) 1).mono HW0.out.size)))); (have HR1 := Lib.hid (show MRow w1 v g from by rw [hw1]; exact HR0.out)); clear hw1) | (go_at_call 55; (with_reducible refine (HB.out w1 HR1.out).mono ?_); rintro e w2 ⟨rfl, hw2⟩; (have HW2 := Lib.hid (show Below w.heap.size w w2 from (HW1.out.trans ((show Below (w1).heap.size w1 w2 from by rw [hw2]; exact below_drewN (Below.refl _ _) 1).mono HW1.out.size)))); (have HR2 := Lib.hid (show MRow w2 v g from by rw [hw2]; exact HR1.out)); clear hw2) | (go_at_call 55; (with_reducible refine (HA.out w2 HR2.out).mono ?_); rintro e w3 ⟨rfl, hw3⟩; (have HW3 := Lib.hid (show Below w.heap.size w w3 from (HW2.out.trans ((show Below (w2).heap.size w2 w3 from by rw [hw3]; exact below_drewN (Below.refl _ _) 1).mono HW2.out.size)))); (have HR3 := Lib.hid (show MRow w3 v g from by rw [hw3]; exact HR2.out)); clear hw3) | (go_at_call 55; (with_reducible refine (HB.out w3 HR3.out).mono ?_); rintro e w4 ⟨rfl, hw4⟩; (have HW4 := Lib.hid (show Below w.heap.size w w4 from (HW3.out.trans ((show Below (w3).heap.size w3 w4 from by rw [hw4]; exact below_drewN (Below.refl _ _) 1).mono HW3.out.size)))); (have HR4 := Lib.hid (show MRow w4 v g from by rw [hw4]; exact HR3.out)); clear hw4))
      go_ret
      exact ⟨by rw [HE.out, show decide (y < x ∨ (x = y ∧ a < b)) = false from by simp [c0, c1]]; first | rfl | simp [c0] | (simp; omega), HW4.out⟩

set_option maxHeartbeats 1000000 in
theorem higher_any (v : Value) (g : List (List Int)) (a b n C : Nat) (w : World) (hr : MRow w v g) (hn : n = g.length) (hC : C = colsG g) (hC1 : 1 ≤ C) (h2 : n ≤ 7) (h4 : C ≤ 7) (ha : a < n * C) (hb : b < n * C) (hrow : ∀ r, r < n → (g.getD r []).length = C) :
    Calls Try.prog 30 #[v, .int .i64 (a : Nat), .int .i64 (b : Nat)] w fun e w' => e = .returned (.bool (hiB g C a b)) ∧ Below w.heap.size w w' := by
  have HA := Lib.hid (fun wx (hrx : MRow wx v g) => heightOf_any v g a n C wx hrx hn hC hC1 h2 h4 ha hrow)
  have HB := Lib.hid (fun wx (hrx : MRow wx v g) => heightOf_any v g b n C wx hrx hn hC hC1 h2 h4 hb hrow)
  have HR0 := Lib.hid hr
  have HW0 := Lib.hid (Below.refl w.heap.size w)
  obtain ⟨x, hx⟩ : ∃ x, x = hgtG g C a := ⟨_, rfl⟩
  obtain ⟨y, hy⟩ : ∃ y, y = hgtG g C b := ⟨_, rfl⟩
  have HE := Lib.hid (show hiB g C a b = decide (y < x ∨ (x = y ∧ a < b)) by rw [hx, hy]; rfl)
  rw [← hx] at HA
  rw [← hy] at HB
  clear hr hn hC hrow hx hy h2 h4 ha hb hC1
  by_cases c0 : y < x
  · have d0 : x > y := c0
    go_enter Try.func30, Try.ntmps30
    go_wp2_with (first | (go_at_call 16; (with_reducible refine (HA.out w HR0.out).mono ?_); rintro e w1 ⟨rfl, hw1⟩; (have HW1 := Lib.hid (show Below w.heap.size w w1 from (HW0.out.trans ((show Below (w).heap.size w w1 from by rw [hw1]; exact below_drewN (Below.refl _ _) 1).mono HW0.out.size)))); (have HR1 := Lib.hid (show MRow w1 v g from by rw [hw1]; exact HR0.out)); clear hw1) | (go_at_call 16; (with_reducible refine (HB.out w1 HR1.out).mono ?_); rintro e w2 ⟨rfl, hw2⟩; (have HW2 := Lib.hid (show Below w.heap.size w w2 from (HW1.out.trans ((show Below (w1).heap.size w1 w2 from by rw [hw2]; exact below_drewN (Below.refl _ _) 1).mono HW1.out.size)))); (have HR2 := Lib.hid (show MRow w2 v g from by rw [hw2]; exact HR1.out)); clear hw2) | (go_at_call 16; (with_reducible refine (HA.out w2 HR2.out).mono ?_); rintro e w3 ⟨rfl, hw3⟩; (have HW3 := Lib.hid (show Below w.heap.size w w3 from (HW2.out.trans ((show Below (w2).heap.size w2 w3 from by rw [hw3]; exact below_drewN (Below.refl _ _) 1).mono HW2.out.size)))); (have HR3 := Lib.hid (show MRow w3 v g from by rw [hw3]; exact HR2.out)); clear hw3) | (go_at_call 16; (with_reducible refine (HB.out w3 HR3.out).mono ?_); rintro e w4 ⟨rfl, hw4⟩; (have HW4 := Lib.hid (show Below w.heap.size w w4 from (HW3.out.trans ((show Below (w3).heap.size w3 w4 from by rw [hw4]; exact below_drewN (Below.refl _ _) 1).mono HW3.out.size)))); (have HR4 := Lib.hid (show MRow w4 v g from by rw [hw4]; exact HR3.out)); clear hw4))
    go_ret
    exact ⟨by rw [HE.out, show decide (y < x ∨ (x = y ∧ a < b)) = true from by simp [c0]]; first | rfl | simp [c0] | (simp; omega), HW2.out⟩
  · have d0 : ¬ x > y := c0
    by_cases c1 : x = y
    · have HEq := Lib.hid c1
      by_cases c2 : a < b
      · have d2 : (a : Int) < (b : Int) := by omega
        go_enter Try.func30, Try.ntmps30
        go_wp2_with (first | (go_at_call 16; (with_reducible refine (HA.out w HR0.out).mono ?_); rintro e w1 ⟨rfl, hw1⟩; (have HW1 := Lib.hid (show Below w.heap.size w w1 from (HW0.out.trans ((show Below (w).heap.size w w1 from by rw [hw1]; exact below_drewN (Below.refl _ _) 1).mono HW0.out.size)))); (have HR1 := Lib.hid (show MRow w1 v g from by rw [hw1]; exact HR0.out)); clear hw1) | (go_at_call 16; (with_reducible refine (HB.out w1 HR1.out).mono ?_); rintro e w2 ⟨rfl, hw2⟩; (have HW2 := Lib.hid (show Below w.heap.size w w2 from (HW1.out.trans ((show Below (w1).heap.size w1 w2 from by rw [hw2]; exact below_drewN (Below.refl _ _) 1).mono HW1.out.size)))); (have HR2 := Lib.hid (show MRow w2 v g from by rw [hw2]; exact HR1.out)); clear hw2) | (go_at_call 16; (with_reducible refine (HA.out w2 HR2.out).mono ?_); rintro e w3 ⟨rfl, hw3⟩; (have HW3 := Lib.hid (show Below w.heap.size w w3 from (HW2.out.trans ((show Below (w2).heap.size w2 w3 from by rw [hw3]; exact below_drewN (Below.refl _ _) 1).mono HW2.out.size)))); (have HR3 := Lib.hid (show MRow w3 v g from by rw [hw3]; exact HR2.out)); clear hw3) | (go_at_call 16; (with_reducible refine (HB.out w3 HR3.out).mono ?_); rintro e w4 ⟨rfl, hw4⟩; (have HW4 := Lib.hid (show Below w.heap.size w w4 from (HW3.out.trans ((show Below (w3).heap.size w3 w4 from by rw [hw4]; exact below_drewN (Below.refl _ _) 1).mono HW3.out.size)))); (have HR4 := Lib.hid (show MRow w4 v g from by rw [hw4]; exact HR3.out)); clear hw4))
        go_ret
        exact ⟨by rw [HE.out, show decide (y < x ∨ (x = y ∧ a < b)) = true from by simp [c1, c2]]; first | rfl | simp [c0] | (simp; omega), HW4.out⟩
      · have d2 : ¬ (a : Int) < (b : Int) := by omega
        go_enter Try.func30, Try.ntmps30
        go_wp2_with (first | (go_at_call 16; (with_reducible refine (HA.out w HR0.out).mono ?_); rintro e w1 ⟨rfl, hw1⟩; (have HW1 := Lib.hid (show Below w.heap.size w w1 from (HW0.out.trans ((show Below (w).heap.size w w1 from by rw [hw1]; exact below_drewN (Below.refl _ _) 1).mono HW0.out.size)))); (have HR1 := Lib.hid (show MRow w1 v g from by rw [hw1]; exact HR0.out)); clear hw1) | (go_at_call 16; (with_reducible refine (HB.out w1 HR1.out).mono ?_); rintro e w2 ⟨rfl, hw2⟩; (have HW2 := Lib.hid (show Below w.heap.size w w2 from (HW1.out.trans ((show Below (w1).heap.size w1 w2 from by rw [hw2]; exact below_drewN (Below.refl _ _) 1).mono HW1.out.size)))); (have HR2 := Lib.hid (show MRow w2 v g from by rw [hw2]; exact HR1.out)); clear hw2) | (go_at_call 16; (with_reducible refine (HA.out w2 HR2.out).mono ?_); rintro e w3 ⟨rfl, hw3⟩; (have HW3 := Lib.hid (show Below w.heap.size w w3 from (HW2.out.trans ((show Below (w2).heap.size w2 w3 from by rw [hw3]; exact below_drewN (Below.refl _ _) 1).mono HW2.out.size)))); (have HR3 := Lib.hid (show MRow w3 v g from by rw [hw3]; exact HR2.out)); clear hw3) | (go_at_call 16; (with_reducible refine (HB.out w3 HR3.out).mono ?_); rintro e w4 ⟨rfl, hw4⟩; (have HW4 := Lib.hid (show Below w.heap.size w w4 from (HW3.out.trans ((show Below (w3).heap.size w3 w4 from by rw [hw4]; exact below_drewN (Below.refl _ _) 1).mono HW3.out.size)))); (have HR4 := Lib.hid (show MRow w4 v g from by rw [hw4]; exact HR3.out)); clear hw4))
        go_ret
        exact ⟨by rw [HE.out, show decide (y < x ∨ (x = y ∧ a < b)) = false from by simp [c0, c2]]; first | rfl | simp [c0] | (simp; omega), HW4.out⟩
    · skip
      go_enter Try.func30, Try.ntmps30
      go_wp2_with (first | (go_at_call 16; (with_reducible refine (HA.out w HR0.out).mono ?_); rintro e w1 ⟨rfl, hw1⟩; (have HW1 := Lib.hid (show Below w.heap.size w w1 from (HW0.out.trans ((show Below (w).heap.size w w1 from by rw [hw1]; exact below_drewN (Below.refl _ _) 1).mono HW0.out.size)))); (have HR1 := Lib.hid (show MRow w1 v g from by rw [hw1]; exact HR0.out)); clear hw1) | (go_at_call 16; (with_reducible refine (HB.out w1 HR1.out).mono ?_); rintro e w2 ⟨rfl, hw2⟩; (have HW2 := Lib.hid (show Below w.heap.size w w2 from (HW1.out.trans ((show Below (w1).heap.size w1 w2 from by rw [hw2]; exact below_drewN (Below.refl _ _) 1).mono HW1.out.size)))); (have HR2 := Lib.hid (show MRow w2 v g from by rw [hw2]; exact HR1.out)); clear hw2) | (go_at_call 16; (with_reducible refine (HA.out w2 HR2.out).mono ?_); rintro e w3 ⟨rfl, hw3⟩; (have HW3 := Lib.hid (show Below w.heap.size w w3 from (HW2.out.trans ((show Below (w2).heap.size w2 w3 from by rw [hw3]; exact below_drewN (Below.refl _ _) 1).mono HW2.out.size)))); (have HR3 := Lib.hid (show MRow w3 v g from by rw [hw3]; exact HR2.out)); clear hw3) | (go_at_call 16; (with_reducible refine (HB.out w3 HR3.out).mono ?_); rintro e w4 ⟨rfl, hw4⟩; (have HW4 := Lib.hid (show Below w.heap.size w w4 from (HW3.out.trans ((show Below (w3).heap.size w3 w4 from by rw [hw4]; exact below_drewN (Below.refl _ _) 1).mono HW3.out.size)))); (have HR4 := Lib.hid (show MRow w4 v g from by rw [hw4]; exact HR3.out)); clear hw4))
      go_ret
      exact ⟨by rw [HE.out, show decide (y < x ∨ (x = y ∧ a < b)) = false from by simp [c0, c1]]; first | rfl | simp [c0] | (simp; omega), HW4.out⟩

end Go.Proofs.Ytkhhloeemecokaa
