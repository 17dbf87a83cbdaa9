/- Walk of the law FnExactThinDrop: the program's ThinDrop returns what the reference's returns, for all arguments. -/
import Derived.Test.YtijmhpcipidgcaaBase
import Derived.Test.YtijmhpcipidgcaaTDrop
import Derived.OpenShut
namespace Go.Proofs.Ytijmhpcipidgcaa
open Go.RowKit

set_option maxRecDepth 100000 in
set_option maxHeartbeats 1000000 in
theorem fnExactThinDrop_walk (w : World) (v0 : Value) (z0 : List Int) (hr0 : Row w v0 z0) (_hm0 : z0.length ≤ maxLen) (_hf0 : ∀ n ∈ z0, (Lit.int .i64 n).wf = true) (v1 : Value) (z1 : List Int) (hr1 : Row w v1 z1) (_hm1 : z1.length ≤ maxLen) (_hf1 : ∀ n ∈ z1, (Lit.int .i64 n).wf = true) (a2 : Int) (_hw2 : (Lit.int .i64 a2).wf = true) :
    Calls Try.prog 4 #[v0, v1, .int .i64 a2] w fun e w' => e = .returned (.bool true) ∧ Below w.heap.size w w' := by
  obtain ⟨a0, cap0, rfl⟩ := hr0.shape
  obtain ⟨a1, cap1, rfl⟩ := hr1.shape
  clear _hm0 _hf0
  clear _hm1 _hf1
  by_cases hbig0 : 1048576 < z0.length
  · go_enter Try.func4, Try.ntmps4
    go_wp2
    go_ret
    exact ⟨rfl, Below.refl _ _⟩
  by_cases hbig1 : 1048576 < z1.length
  · go_enter Try.func4, Try.ntmps4
    go_wp2
    go_ret
    exact ⟨rfl, Below.refl _ _⟩
  have hn0 : z0.length ≤ 1099511627776 := by omega
  have hn1 : z1.length ≤ 1099511627776 := by omega
  have hw2 := bounds_i64 _hw2
  obtain ⟨hl2, hu2⟩ := hw2
  clear _hw2
  have hl : (tdropL z0 z1 a2).length ≤ 1048576 := tdropL_len z0 z1 a2 (by omega)
  have hl1 : (tdropL z0 z1 a2).length ≤ 1099511627776 := by omega
  have hq : ((1 + (((tdropL z0 z1 a2).length : Nat) : Int)) != (1 + (((tdropL z0 z1 a2).length : Nat) : Int))) = false := by simp
  have hx1 : ((tdropB z0 z1 a2) != (tdropB z0 z1 a2)) = false := by simp
  have bt : Below w.heap.size w w := Below.refl _ _
  go_enter Try.func4, Try.ntmps4
  have r0 := hr0
  have r1 := hr1
  have s_t0 := bt.size
  go_wp2_with fail
  refine (toIntS_any _ z0 _ r0 hn0).mono ?_
  rintro e w1 ⟨a_t0, c_t0, rfl, o_t0, b1⟩
  replace bt := bt.trans (b1.mono bt.size)
  replace r0 := hr0.below bt
  replace r1 := hr1.below bt
  clear b1
  have s_t1 := bt.size
  go_wp2_with fail
  have u_t0_t1 := fun k hk => (o_t0.lt k hk).2
  refine (toIntS_any _ z1 _ r1 hn1).mono ?_
  rintro e w2 ⟨a_t1, c_t1, rfl, o_t1, b2⟩
  replace bt := bt.trans (b2.mono bt.size)
  replace r0 := hr0.below bt
  replace r1 := hr1.below bt
  replace o_t0 := o_t0.below b2
  clear b2
  have s_w := bt.size
  go_wp2_with fail
  have u_t0_w := fun k hk => (o_t0.lt k hk).2
  have u_t1_w := fun k hk => (o_t1.lt k hk).2
  refine (stdrop_any _ _ z0 z1 a2 _ _ o_t0.row hn0 o_t1 hn1).mono ?_
  rintro e w3 ⟨a_w, c_w, rfl, o_w, b3⟩
  replace bt := bt.trans (b3.mono bt.size)
  replace r0 := hr0.below bt
  replace r1 := hr1.below bt
  replace o_t0 := o_t0.below b3
  replace o_t1 := o_t1.below b3
  clear b3
  clear o_t0 s_t0
  clear o_t1 s_t1
  have s_x0 := bt.size
  go_wp2_with fail
  have u_w_x0 := fun k hk => (o_w.lt k hk).2
  refine (toIntS_any _ z0 _ r0 hn0).mono ?_
  rintro e w4 ⟨a_x0, c_x0, rfl, o_x0, b4⟩
  replace bt := bt.trans (b4.mono bt.size)
  replace r0 := hr0.below bt
  replace r1 := hr1.below bt
  replace o_w := o_w.below b4
  clear b4
  have s_x1 := bt.size
  go_wp2_with fail
  have u_w_x1 := fun k hk => (o_w.lt k hk).2
  have u_x0_x1 := fun k hk => (o_x0.lt k hk).2
  refine (toIntS_any _ z1 _ r1 hn1).mono ?_
  rintro e w5 ⟨a_x1, c_x1, rfl, o_x1, b5⟩
  replace bt := bt.trans (b5.mono bt.size)
  replace r0 := hr0.below bt
  replace r1 := hr1.below bt
  replace o_w := o_w.below b5
  replace o_x0 := o_x0.below b5
  clear b5
  have s_g := bt.size
  go_wp2_with fail
  have u_w_g := fun k hk => (o_w.lt k hk).2
  have u_x0_g := fun k hk => (o_x0.lt k hk).2
  have u_x1_g := fun k hk => (o_x1.lt k hk).2
  refine (itdrop_any _ _ z0 z1 a2 _ o_x0.row hn0 o_x1.row hn1).mono ?_
  rintro e w6 ⟨a_g, c_g, rfl, o_g, b6⟩
  replace bt := bt.trans (b6.mono bt.size)
  replace r0 := hr0.below bt
  replace r1 := hr1.below bt
  replace o_w := o_w.below b6
  replace o_x0 := o_x0.below b6
  replace o_x1 := o_x1.below b6
  clear b6
  go_wp2_with fail
  refine (calls_below (eqIntS_any _ _ (tdropL z0 z1 a2) (tdropL z0 z1 a2) _ o_g.row o_w.row hl1 hl1)).mono ?_
  rintro e w7 ⟨rfl, b7⟩
  replace bt := bt.trans (b7.mono bt.size)
  replace r0 := hr0.below bt
  replace r1 := hr1.below bt
  replace o_w := o_w.below b7
  replace o_x0 := o_x0.below b7
  replace o_x1 := o_x1.below b7
  replace o_g := o_g.below b7
  clear b7
  have s_y0 := bt.size
  go_wp2_with fail
  have u_w_y0 := fun k hk => (o_w.lt k hk).2
  have u_x0_y0 := fun k hk => (o_x0.lt k hk).2
  have u_x1_y0 := fun k hk => (o_x1.lt k hk).2
  have u_g_y0 := fun k hk => (o_g.lt k hk).2
  refine (toIntS_any _ z0 _ r0 hn0).mono ?_
  rintro e w8 ⟨a_y0, c_y0, rfl, o_y0, b8⟩
  replace bt := bt.trans (b8.mono bt.size)
  replace r0 := hr0.below bt
  replace r1 := hr1.below bt
  replace o_w := o_w.below b8
  replace o_x0 := o_x0.below b8
  replace o_x1 := o_x1.below b8
  replace o_g := o_g.below b8
  clear b8
  go_wp2_with fail
  refine (calls_below (eqIntS_any _ _ z0 z0 _ o_x0.row o_y0.row hn0 hn0)).mono ?_
  rintro e w9 ⟨rfl, b9⟩
  replace bt := bt.trans (b9.mono bt.size)
  replace r0 := hr0.below bt
  replace r1 := hr1.below bt
  replace o_w := o_w.below b9
  replace o_x0 := o_x0.below b9
  replace o_x1 := o_x1.below b9
  replace o_g := o_g.below b9
  replace o_y0 := o_y0.below b9
  clear b9
  clear o_y0 s_y0
  have s_y1 := bt.size
  go_wp2_with fail
  have u_w_y1 := fun k hk => (o_w.lt k hk).2
  have u_x0_y1 := fun k hk => (o_x0.lt k hk).2
  have u_x1_y1 := fun k hk => (o_x1.lt k hk).2
  have u_g_y1 := fun k hk => (o_g.lt k hk).2
  refine (toIntS_any _ z1 _ r1 hn1).mono ?_
  rintro e w10 ⟨a_y1, c_y1, rfl, o_y1, b10⟩
  replace bt := bt.trans (b10.mono bt.size)
  replace r0 := hr0.below bt
  replace r1 := hr1.below bt
  replace o_w := o_w.below b10
  replace o_x0 := o_x0.below b10
  replace o_x1 := o_x1.below b10
  replace o_g := o_g.below b10
  clear b10
  go_wp2_with fail
  refine (calls_below (eqIntS_any _ _ z1 z1 _ o_x1.row o_y1.row hn1 hn1)).mono ?_
  rintro e w11 ⟨rfl, b11⟩
  replace bt := bt.trans (b11.mono bt.size)
  replace r0 := hr0.below bt
  replace r1 := hr1.below bt
  replace o_w := o_w.below b11
  replace o_x0 := o_x0.below b11
  replace o_x1 := o_x1.below b11
  replace o_g := o_g.below b11
  replace o_y1 := o_y1.below b11
  clear b11
  clear o_y1 s_y1
  go_wp2_with fail
  refine (markIntS_any _ (z0) _ _ _ o_x0 hn0 (by omega) (by omega)).mono ?_
  rintro e w12 ⟨rfl, o_x0m, g12⟩
  replace bt := bt.trans (below_of_grown g12 bt.size (fun k e => Nat.le_trans s_x0 (o_x0.lt k e).1))
  replace r0 := hr0.below bt
  replace r1 := hr1.below bt
  replace o_w := o_w.kept g12 (fun k hk e => by have h1 := u_w_x0 k hk; have h2 := (o_x0.lt k e).1; omega)
  replace o_x1 := o_x1.grown g12 (fun k e => u_x0_x1 k e)
  replace o_g := o_g.grown g12 (fun k e => u_x0_g k e)
  replace o_x0 := o_x0m
  clear o_x0m g12
  go_wp2_with fail
  refine (markIntS_any _ (z1) _ _ _ o_x1 hn1 (by omega) (by omega)).mono ?_
  rintro e w13 ⟨rfl, o_x1m, g13⟩
  replace bt := bt.trans (below_of_grown g13 bt.size (fun k e => Nat.le_trans s_x1 (o_x1.lt k e).1))
  replace r0 := hr0.below bt
  replace r1 := hr1.below bt
  replace o_w := o_w.kept g13 (fun k hk e => by have h1 := u_w_x1 k hk; have h2 := (o_x1.lt k e).1; omega)
  replace o_x0 := o_x0.kept g13 (fun k hk e => by have h1 := u_x0_x1 k hk; have h2 := (o_x1.lt k e).1; omega)
  replace o_g := o_g.grown g13 (fun k e => u_x1_g k e)
  replace o_x1 := o_x1m
  clear o_x1m g13
  go_wp2_with fail
  refine (calls_below (eqIntS_any _ _ (tdropL z0 z1 a2) (tdropL z0 z1 a2) _ o_g.row o_w.row hl1 hl1)).mono ?_
  rintro e w14 ⟨rfl, b14⟩
  replace bt := bt.trans (b14.mono bt.size)
  replace r0 := hr0.below bt
  replace r1 := hr1.below bt
  replace o_w := o_w.below b14
  replace o_x0 := o_x0.below b14
  replace o_x1 := o_x1.below b14
  replace o_g := o_g.below b14
  clear b14
  go_wp2_with fail
  refine (markIntS_any _ (tdropL z0 z1 a2) _ _ _ o_g hl1 (by omega) (by omega)).mono ?_
  rintro e w15 ⟨rfl, o_gm, g15⟩
  replace bt := bt.trans (below_of_grown g15 bt.size (fun k e => Nat.le_trans s_g (o_g.lt k e).1))
  replace r0 := hr0.below bt
  replace r1 := hr1.below bt
  replace o_w := o_w.kept g15 (fun k hk e => by have h1 := u_w_g k hk; have h2 := (o_g.lt k e).1; omega)
  replace o_x0 := o_x0.kept g15 (fun k hk e => by have h1 := u_x0_g k hk; have h2 := (o_g.lt k e).1; omega)
  replace o_x1 := o_x1.kept g15 (fun k hk e => by have h1 := u_x1_g k hk; have h2 := (o_g.lt k e).1; omega)
  replace o_g := o_gm
  clear o_gm g15
  go_wp2_with fail
  refine (calls_same (heldIntS_any _ 1 (tdropL z0 z1 a2).length _ o_g.row hl1 (by omega) (by omega))).mono ?_
  rintro e w16 ⟨rfl, b16⟩
  replace bt := bt.trans (b16.mono bt.size)
  replace r0 := hr0.below bt
  replace r1 := hr1.below bt
  replace o_w := o_w.below b16
  replace o_x0 := o_x0.below b16
  replace o_x1 := o_x1.below b16
  replace o_g := o_g.below b16
  clear b16
  clear o_x0 s_x0
  clear o_x1 s_x1
  have s_h0 := bt.size
  go_wp2_with fail
  have u_w_h0 := fun k hk => (o_w.lt k hk).2
  have u_g_h0 := fun k hk => (o_g.lt k hk).2
  refine (toIntS_any _ z0 _ r0 hn0).mono ?_
  rintro e w17 ⟨a_h0, c_h0, rfl, o_h0, b17⟩
  replace bt := bt.trans (b17.mono bt.size)
  replace r0 := hr0.below bt
  replace r1 := hr1.below bt
  replace o_w := o_w.below b17
  replace o_g := o_g.below b17
  clear b17
  have s_h1 := bt.size
  go_wp2_with fail
  have u_w_h1 := fun k hk => (o_w.lt k hk).2
  have u_g_h1 := fun k hk => (o_g.lt k hk).2
  have u_h0_h1 := fun k hk => (o_h0.lt k hk).2
  refine (toIntS_any _ z1 _ r1 hn1).mono ?_
  rintro e w18 ⟨a_h1, c_h1, rfl, o_h1, b18⟩
  replace bt := bt.trans (b18.mono bt.size)
  replace r0 := hr0.below bt
  replace r1 := hr1.below bt
  replace o_w := o_w.below b18
  replace o_g := o_g.below b18
  replace o_h0 := o_h0.below b18
  clear b18
  have s_h := bt.size
  go_wp2_with fail
  have u_w_h := fun k hk => (o_w.lt k hk).2
  have u_g_h := fun k hk => (o_g.lt k hk).2
  have u_h0_h := fun k hk => (o_h0.lt k hk).2
  have u_h1_h := fun k hk => (o_h1.lt k hk).2
  refine (itdrop_any _ _ z0 z1 a2 _ o_h0.row hn0 o_h1.row hn1).mono ?_
  rintro e w19 ⟨a_h, c_h, rfl, o_h, b19⟩
  replace bt := bt.trans (b19.mono bt.size)
  replace r0 := hr0.below bt
  replace r1 := hr1.below bt
  replace o_w := o_w.below b19
  replace o_g := o_g.below b19
  replace o_h0 := o_h0.below b19
  replace o_h1 := o_h1.below b19
  clear b19
  go_wp2_with fail
  refine (calls_below (eqIntS_any _ _ (tdropL z0 z1 a2) (tdropL z0 z1 a2) _ o_h.row o_w.row hl1 hl1)).mono ?_
  rintro e w20 ⟨rfl, b20⟩
  replace bt := bt.trans (b20.mono bt.size)
  replace r0 := hr0.below bt
  replace r1 := hr1.below bt
  replace o_w := o_w.below b20
  replace o_g := o_g.below b20
  replace o_h0 := o_h0.below b20
  replace o_h1 := o_h1.below b20
  replace o_h := o_h.below b20
  clear b20
  go_wp2_with fail
  refine (calls_same (heldIntS_any _ 1 (tdropL z0 z1 a2).length _ o_g.row hl1 (by omega) (by omega))).mono ?_
  rintro e w21 ⟨rfl, b21⟩
  replace bt := bt.trans (b21.mono bt.size)
  replace r0 := hr0.below bt
  replace r1 := hr1.below bt
  replace o_w := o_w.below b21
  replace o_g := o_g.below b21
  replace o_h0 := o_h0.below b21
  replace o_h1 := o_h1.below b21
  replace o_h := o_h.below b21
  clear b21
  go_wp2
  go_ret
  exact ⟨rfl, bt⟩

end Go.Proofs.Ytijmhpcipidgcaa
