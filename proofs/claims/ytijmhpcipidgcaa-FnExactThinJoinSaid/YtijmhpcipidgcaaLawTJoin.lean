/- Walk of the law FnExactThinJoin: the program's ThinJoin returns what the reference's returns, for all arguments. -/
import Derived.Test.YtijmhpcipidgcaaBase
import Derived.Test.YtijmhpcipidgcaaTJoin2
import Derived.OpenShut
namespace Go.Proofs.Ytijmhpcipidgcaa
open Go.RowKit

set_option maxRecDepth 100000 in
set_option maxHeartbeats 1000000 in
theorem fnExactThinJoin_walk (w : World) (v0 : Value) (z0 : List Int) (hr0 : Row w v0 z0) (_hm0 : z0.length ≤ maxLen) (_hf0 : ∀ n ∈ z0, (Lit.int .i64 n).wf = true) (v1 : Value) (z1 : List Int) (hr1 : Row w v1 z1) (_hm1 : z1.length ≤ maxLen) (_hf1 : ∀ n ∈ z1, (Lit.int .i64 n).wf = true) (v2 : Value) (z2 : List Int) (hr2 : Row w v2 z2) (_hm2 : z2.length ≤ maxLen) (_hf2 : ∀ n ∈ z2, (Lit.int .i64 n).wf = true) (v3 : Value) (z3 : List Int) (hr3 : Row w v3 z3) (_hm3 : z3.length ≤ maxLen) (_hf3 : ∀ n ∈ z3, (Lit.int .i64 n).wf = true) :
    Calls Try.prog 7 #[v0, v1, v2, v3] w fun e w' => e = .returned (.bool true) ∧ Below w.heap.size w w' := by
  obtain ⟨a0, cap0, rfl⟩ := hr0.shape
  obtain ⟨a1, cap1, rfl⟩ := hr1.shape
  obtain ⟨a2, cap2, rfl⟩ := hr2.shape
  obtain ⟨a3, cap3, rfl⟩ := hr3.shape
  clear _hm0 _hf0
  clear _hm1 _hf1
  clear _hm2 _hf2
  clear _hm3 _hf3
  by_cases hbig0 : 1048576 < z0.length
  · go_enter Try.func7, Try.ntmps7
    go_wp2
    go_ret
    exact ⟨rfl, Below.refl _ _⟩
  by_cases hbig1 : 1048576 < z1.length
  · go_enter Try.func7, Try.ntmps7
    go_wp2
    go_ret
    exact ⟨rfl, Below.refl _ _⟩
  by_cases hbig2 : 1048576 < z2.length
  · go_enter Try.func7, Try.ntmps7
    go_wp2
    go_ret
    exact ⟨rfl, Below.refl _ _⟩
  by_cases hbig3 : 1048576 < z3.length
  · go_enter Try.func7, Try.ntmps7
    go_wp2
    go_ret
    exact ⟨rfl, Below.refl _ _⟩
  have hn0 : z0.length ≤ 1099511627776 := by omega
  have hn1 : z1.length ≤ 1099511627776 := by omega
  have hn2 : z2.length ≤ 1099511627776 := by omega
  have hn3 : z3.length ≤ 1099511627776 := by omega
  have hl : (tjoinL z0 z1 z2 z3).length ≤ 1048576 := tjoinL_len z0 z1 z2 z3 trivial
  have hl1 : (tjoinL z0 z1 z2 z3).length ≤ 1099511627776 := by omega
  have hq : ((1 + (((tjoinL z0 z1 z2 z3).length : Nat) : Int)) != (1 + (((tjoinL z0 z1 z2 z3).length : Nat) : Int))) = false := by simp
  have hx1 : ((tjoinB z0 z1 z2 z3) != (tjoinB z0 z1 z2 z3)) = false := by simp
  have bt : Below w.heap.size w w := Below.refl _ _
  go_enter Try.func7, Try.ntmps7
  have r0 := hr0
  have r1 := hr1
  have r2 := hr2
  have r3 := hr3
  have s_t0 := bt.size
  go_wp2_with fail
  refine (toIntS_any _ z0 _ r0 hn0).mono ?_
  rintro e w1 ⟨a_t0, c_t0, rfl, o_t0, b1⟩
  replace bt := bt.trans (b1.mono bt.size)
  replace r0 := hr0.below bt
  replace r1 := hr1.below bt
  replace r2 := hr2.below bt
  replace r3 := hr3.below bt
  clear b1
  have s_t1 := bt.size
  go_wp2_with fail
  have u_t0_t1 := fun k hk => (o_t0.lt k hk).2
  refine (toIntS_any _ z1 _ r1 hn1).mono ?_
  rintro e w2 ⟨a_t1, c_t1, rfl, o_t1, b2⟩
  replace bt := bt.trans (b2.mono bt.size)
  replace r0 := hr0.below bt
  replace r1 := hr1.below bt
  replace r2 := hr2.below bt
  replace r3 := hr3.below bt
  replace o_t0 := o_t0.below b2
  clear b2
  have s_t2 := bt.size
  go_wp2_with fail
  have u_t0_t2 := fun k hk => (o_t0.lt k hk).2
  have u_t1_t2 := fun k hk => (o_t1.lt k hk).2
  refine (toIntS_any _ z2 _ r2 hn2).mono ?_
  rintro e w3 ⟨a_t2, c_t2, rfl, o_t2, b3⟩
  replace bt := bt.trans (b3.mono bt.size)
  replace r0 := hr0.below bt
  replace r1 := hr1.below bt
  replace r2 := hr2.below bt
  replace r3 := hr3.below bt
  replace o_t0 := o_t0.below b3
  replace o_t1 := o_t1.below b3
  clear b3
  have s_t3 := bt.size
  go_wp2_with fail
  have u_t0_t3 := fun k hk => (o_t0.lt k hk).2
  have u_t1_t3 := fun k hk => (o_t1.lt k hk).2
  have u_t2_t3 := fun k hk => (o_t2.lt k hk).2
  refine (toIntS_any _ z3 _ r3 hn3).mono ?_
  rintro e w4 ⟨a_t3, c_t3, rfl, o_t3, b4⟩
  replace bt := bt.trans (b4.mono bt.size)
  replace r0 := hr0.below bt
  replace r1 := hr1.below bt
  replace r2 := hr2.below bt
  replace r3 := hr3.below bt
  replace o_t0 := o_t0.below b4
  replace o_t1 := o_t1.below b4
  replace o_t2 := o_t2.below b4
  clear b4
  have s_w := bt.size
  go_wp2_with fail
  have u_t0_w := fun k hk => (o_t0.lt k hk).2
  have u_t1_w := fun k hk => (o_t1.lt k hk).2
  have u_t2_w := fun k hk => (o_t2.lt k hk).2
  have u_t3_w := fun k hk => (o_t3.lt k hk).2
  refine (stjoin_any _ _ _ _ z0 z1 z2 z3 _ o_t0.row hn0 o_t1.row hn1 o_t2.row hn2 o_t3.row hn3).mono ?_
  rintro e w5 ⟨a_w, c_w, rfl, o_w, b5⟩
  replace bt := bt.trans (b5.mono bt.size)
  replace r0 := hr0.below bt
  replace r1 := hr1.below bt
  replace r2 := hr2.below bt
  replace r3 := hr3.below bt
  replace o_t0 := o_t0.below b5
  replace o_t1 := o_t1.below b5
  replace o_t2 := o_t2.below b5
  replace o_t3 := o_t3.below b5
  clear b5
  clear o_t0 s_t0
  clear o_t1 s_t1
  clear o_t2 s_t2
  clear o_t3 s_t3
  have s_x0 := bt.size
  go_wp2_with fail
  have u_w_x0 := fun k hk => (o_w.lt k hk).2
  refine (toIntS_any _ z0 _ r0 hn0).mono ?_
  rintro e w6 ⟨a_x0, c_x0, rfl, o_x0, b6⟩
  replace bt := bt.trans (b6.mono bt.size)
  replace r0 := hr0.below bt
  replace r1 := hr1.below bt
  replace r2 := hr2.below bt
  replace r3 := hr3.below bt
  replace o_w := o_w.below b6
  clear b6
  have s_x1 := bt.size
  go_wp2_with fail
  have u_w_x1 := fun k hk => (o_w.lt k hk).2
  have u_x0_x1 := fun k hk => (o_x0.lt k hk).2
  refine (toIntS_any _ z1 _ r1 hn1).mono ?_
  rintro e w7 ⟨a_x1, c_x1, rfl, o_x1, b7⟩
  replace bt := bt.trans (b7.mono bt.size)
  replace r0 := hr0.below bt
  replace r1 := hr1.below bt
  replace r2 := hr2.below bt
  replace r3 := hr3.below bt
  replace o_w := o_w.below b7
  replace o_x0 := o_x0.below b7
  clear b7
  have s_x2 := bt.size
  go_wp2_with fail
  have u_w_x2 := fun k hk => (o_w.lt k hk).2
  have u_x0_x2 := fun k hk => (o_x0.lt k hk).2
  have u_x1_x2 := fun k hk => (o_x1.lt k hk).2
  refine (toIntS_any _ z2 _ r2 hn2).mono ?_
  rintro e w8 ⟨a_x2, c_x2, rfl, o_x2, b8⟩
  replace bt := bt.trans (b8.mono bt.size)
  replace r0 := hr0.below bt
  replace r1 := hr1.below bt
  replace r2 := hr2.below bt
  replace r3 := hr3.below bt
  replace o_w := o_w.below b8
  replace o_x0 := o_x0.below b8
  replace o_x1 := o_x1.below b8
  clear b8
  have s_x3 := bt.size
  go_wp2_with fail
  have u_w_x3 := fun k hk => (o_w.lt k hk).2
  have u_x0_x3 := fun k hk => (o_x0.lt k hk).2
  have u_x1_x3 := fun k hk => (o_x1.lt k hk).2
  have u_x2_x3 := fun k hk => (o_x2.lt k hk).2
  refine (toIntS_any _ z3 _ r3 hn3).mono ?_
  rintro e w9 ⟨a_x3, c_x3, rfl, o_x3, b9⟩
  replace bt := bt.trans (b9.mono bt.size)
  replace r0 := hr0.below bt
  replace r1 := hr1.below bt
  replace r2 := hr2.below bt
  replace r3 := hr3.below bt
  replace o_w := o_w.below b9
  replace o_x0 := o_x0.below b9
  replace o_x1 := o_x1.below b9
  replace o_x2 := o_x2.below b9
  clear b9
  have s_g := bt.size
  go_wp2_with fail
  have u_w_g := fun k hk => (o_w.lt k hk).2
  have u_x0_g := fun k hk => (o_x0.lt k hk).2
  have u_x1_g := fun k hk => (o_x1.lt k hk).2
  have u_x2_g := fun k hk => (o_x2.lt k hk).2
  have u_x3_g := fun k hk => (o_x3.lt k hk).2
  refine (itjoin_any _ _ _ _ z0 z1 z2 z3 _ o_x0.row hn0 o_x1.row hn1 o_x2.row hn2 o_x3.row hn3).mono ?_
  rintro e w10 ⟨a_g, c_g, rfl, o_g, b10⟩
  replace bt := bt.trans (b10.mono bt.size)
  replace r0 := hr0.below bt
  replace r1 := hr1.below bt
  replace r2 := hr2.below bt
  replace r3 := hr3.below bt
  replace o_w := o_w.below b10
  replace o_x0 := o_x0.below b10
  replace o_x1 := o_x1.below b10
  replace o_x2 := o_x2.below b10
  replace o_x3 := o_x3.below b10
  clear b10
  go_wp2_with fail
  refine (calls_below (eqIntS_any _ _ (tjoinL z0 z1 z2 z3) (tjoinL z0 z1 z2 z3) _ o_g.row o_w.row hl1 hl1)).mono ?_
  rintro e w11 ⟨rfl, b11⟩
  replace bt := bt.trans (b11.mono bt.size)
  replace r0 := hr0.below bt
  replace r1 := hr1.below bt
  replace r2 := hr2.below bt
  replace r3 := hr3.below bt
  replace o_w := o_w.below b11
  replace o_x0 := o_x0.below b11
  replace o_x1 := o_x1.below b11
  replace o_x2 := o_x2.below b11
  replace o_x3 := o_x3.below b11
  replace o_g := o_g.below b11
  clear b11
  have s_y0 := bt.size
  go_wp2_with fail
  have u_w_y0 := fun k hk => (o_w.lt k hk).2
  have u_x0_y0 := fun k hk => (o_x0.lt k hk).2
  have u_x1_y0 := fun k hk => (o_x1.lt k hk).2
  have u_x2_y0 := fun k hk => (o_x2.lt k hk).2
  have u_x3_y0 := fun k hk => (o_x3.lt k hk).2
  have u_g_y0 := fun k hk => (o_g.lt k hk).2
  refine (toIntS_any _ z0 _ r0 hn0).mono ?_
  rintro e w12 ⟨a_y0, c_y0, rfl, o_y0, b12⟩
  replace bt := bt.trans (b12.mono bt.size)
  replace r0 := hr0.below bt
  replace r1 := hr1.below bt
  replace r2 := hr2.below bt
  replace r3 := hr3.below bt
  replace o_w := o_w.below b12
  replace o_x0 := o_x0.below b12
  replace o_x1 := o_x1.below b12
  replace o_x2 := o_x2.below b12
  replace o_x3 := o_x3.below b12
  replace o_g := o_g.below b12
  clear b12
  go_wp2_with fail
  refine (calls_below (eqIntS_any _ _ z0 z0 _ o_x0.row o_y0.row hn0 hn0)).mono ?_
  rintro e w13 ⟨rfl, b13⟩
  replace bt := bt.trans (b13.mono bt.size)
  replace r0 := hr0.below bt
  replace r1 := hr1.below bt
  replace r2 := hr2.below bt
  replace r3 := hr3.below bt
  replace o_w := o_w.below b13
  replace o_x0 := o_x0.below b13
  replace o_x1 := o_x1.below b13
  replace o_x2 := o_x2.below b13
  replace o_x3 := o_x3.below b13
  replace o_g := o_g.below b13
  replace o_y0 := o_y0.below b13
  clear b13
  clear o_y0 s_y0
  have s_y1 := bt.size
  go_wp2_with fail
  have u_w_y1 := fun k hk => (o_w.lt k hk).2
  have u_x0_y1 := fun k hk => (o_x0.lt k hk).2
  have u_x1_y1 := fun k hk => (o_x1.lt k hk).2
  have u_x2_y1 := fun k hk => (o_x2.lt k hk).2
  have u_x3_y1 := fun k hk => (o_x3.lt k hk).2
  have u_g_y1 := fun k hk => (o_g.lt k hk).2
  refine (toIntS_any _ z1 _ r1 hn1).mono ?_
  rintro e w14 ⟨a_y1, c_y1, rfl, o_y1, b14⟩
  replace bt := bt.trans (b14.mono bt.size)
  replace r0 := hr0.below bt
  replace r1 := hr1.below bt
  replace r2 := hr2.below bt
  replace r3 := hr3.below bt
  replace o_w := o_w.below b14
  replace o_x0 := o_x0.below b14
  replace o_x1 := o_x1.below b14
  replace o_x2 := o_x2.below b14
  replace o_x3 := o_x3.below b14
  replace o_g := o_g.below b14
  clear b14
  go_wp2_with fail
  refine (calls_below (eqIntS_any _ _ z1 z1 _ o_x1.row o_y1.row hn1 hn1)).mono ?_
  rintro e w15 ⟨rfl, b15⟩
  replace bt := bt.trans (b15.mono bt.size)
  replace r0 := hr0.below bt
  replace r1 := hr1.below bt
  replace r2 := hr2.below bt
  replace r3 := hr3.below bt
  replace o_w := o_w.below b15
  replace o_x0 := o_x0.below b15
  replace o_x1 := o_x1.below b15
  replace o_x2 := o_x2.below b15
  replace o_x3 := o_x3.below b15
  replace o_g := o_g.below b15
  replace o_y1 := o_y1.below b15
  clear b15
  clear o_y1 s_y1
  have s_y2 := bt.size
  go_wp2_with fail
  have u_w_y2 := fun k hk => (o_w.lt k hk).2
  have u_x0_y2 := fun k hk => (o_x0.lt k hk).2
  have u_x1_y2 := fun k hk => (o_x1.lt k hk).2
  have u_x2_y2 := fun k hk => (o_x2.lt k hk).2
  have u_x3_y2 := fun k hk => (o_x3.lt k hk).2
  have u_g_y2 := fun k hk => (o_g.lt k hk).2
  refine (toIntS_any _ z2 _ r2 hn2).mono ?_
  rintro e w16 ⟨a_y2, c_y2, rfl, o_y2, b16⟩
  replace bt := bt.trans (b16.mono bt.size)
  replace r0 := hr0.below bt
  replace r1 := hr1.below bt
  replace r2 := hr2.below bt
  replace r3 := hr3.below bt
  replace o_w := o_w.below b16
  replace o_x0 := o_x0.below b16
  replace o_x1 := o_x1.below b16
  replace o_x2 := o_x2.below b16
  replace o_x3 := o_x3.below b16
  replace o_g := o_g.below b16
  clear b16
  go_wp2_with fail
  refine (calls_below (eqIntS_any _ _ z2 z2 _ o_x2.row o_y2.row hn2 hn2)).mono ?_
  rintro e w17 ⟨rfl, b17⟩
  replace bt := bt.trans (b17.mono bt.size)
  replace r0 := hr0.below bt
  replace r1 := hr1.below bt
  replace r2 := hr2.below bt
  replace r3 := hr3.below bt
  replace o_w := o_w.below b17
  replace o_x0 := o_x0.below b17
  replace o_x1 := o_x1.below b17
  replace o_x2 := o_x2.below b17
  replace o_x3 := o_x3.below b17
  replace o_g := o_g.below b17
  replace o_y2 := o_y2.below b17
  clear b17
  clear o_y2 s_y2
  have s_y3 := bt.size
  go_wp2_with fail
  have u_w_y3 := fun k hk => (o_w.lt k hk).2
  have u_x0_y3 := fun k hk => (o_x0.lt k hk).2
  have u_x1_y3 := fun k hk => (o_x1.lt k hk).2
  have u_x2_y3 := fun k hk => (o_x2.lt k hk).2
  have u_x3_y3 := fun k hk => (o_x3.lt k hk).2
  have u_g_y3 := fun k hk => (o_g.lt k hk).2
  refine (toIntS_any _ z3 _ r3 hn3).mono ?_
  rintro e w18 ⟨a_y3, c_y3, rfl, o_y3, b18⟩
  replace bt := bt.trans (b18.mono bt.size)
  replace r0 := hr0.below bt
  replace r1 := hr1.below bt
  replace r2 := hr2.below bt
  replace r3 := hr3.below bt
  replace o_w := o_w.below b18
  replace o_x0 := o_x0.below b18
  replace o_x1 := o_x1.below b18
  replace o_x2 := o_x2.below b18
  replace o_x3 := o_x3.below b18
  replace o_g := o_g.below b18
  clear b18
  go_wp2_with fail
  refine (calls_below (eqIntS_any _ _ z3 z3 _ o_x3.row o_y3.row hn3 hn3)).mono ?_
  rintro e w19 ⟨rfl, b19⟩
  replace bt := bt.trans (b19.mono bt.size)
  replace r0 := hr0.below bt
  replace r1 := hr1.below bt
  replace r2 := hr2.below bt
  replace r3 := hr3.below bt
  replace o_w := o_w.below b19
  replace o_x0 := o_x0.below b19
  replace o_x1 := o_x1.below b19
  replace o_x2 := o_x2.below b19
  replace o_x3 := o_x3.below b19
  replace o_g := o_g.below b19
  replace o_y3 := o_y3.below b19
  clear b19
  clear o_y3 s_y3
  go_wp2_with fail
  refine (markIntS_any _ (z0) _ _ _ o_x0 hn0 (by omega) (by omega)).mono ?_
  rintro e w20 ⟨rfl, o_x0m, g20⟩
  replace bt := bt.trans (below_of_grown g20 bt.size (fun k e => Nat.le_trans s_x0 (o_x0.lt k e).1))
  replace r0 := hr0.below bt
  replace r1 := hr1.below bt
  replace r2 := hr2.below bt
  replace r3 := hr3.below bt
  replace o_w := o_w.kept g20 (fun k hk e => by have h1 := u_w_x0 k hk; have h2 := (o_x0.lt k e).1; omega)
  replace o_x1 := o_x1.grown g20 (fun k e => u_x0_x1 k e)
  replace o_x2 := o_x2.grown g20 (fun k e => u_x0_x2 k e)
  replace o_x3 := o_x3.grown g20 (fun k e => u_x0_x3 k e)
  replace o_g := o_g.grown g20 (fun k e => u_x0_g k e)
  replace o_x0 := o_x0m
  clear o_x0m g20
  go_wp2_with fail
  refine (markIntS_any _ (z1) _ _ _ o_x1 hn1 (by omega) (by omega)).mono ?_
  rintro e w21 ⟨rfl, o_x1m, g21⟩
  replace bt := bt.trans (below_of_grown g21 bt.size (fun k e => Nat.le_trans s_x1 (o_x1.lt k e).1))
  replace r0 := hr0.below bt
  replace r1 := hr1.below bt
  replace r2 := hr2.below bt
  replace r3 := hr3.below bt
  replace o_w := o_w.kept g21 (fun k hk e => by have h1 := u_w_x1 k hk; have h2 := (o_x1.lt k e).1; omega)
  replace o_x0 := o_x0.kept g21 (fun k hk e => by have h1 := u_x0_x1 k hk; have h2 := (o_x1.lt k e).1; omega)
  replace o_x2 := o_x2.grown g21 (fun k e => u_x1_x2 k e)
  replace o_x3 := o_x3.grown g21 (fun k e => u_x1_x3 k e)
  replace o_g := o_g.grown g21 (fun k e => u_x1_g k e)
  replace o_x1 := o_x1m
  clear o_x1m g21
  go_wp2_with fail
  refine (markIntS_any _ (z2) _ _ _ o_x2 hn2 (by omega) (by omega)).mono ?_
  rintro e w22 ⟨rfl, o_x2m, g22⟩
  replace bt := bt.trans (below_of_grown g22 bt.size (fun k e => Nat.le_trans s_x2 (o_x2.lt k e).1))
  replace r0 := hr0.below bt
  replace r1 := hr1.below bt
  replace r2 := hr2.below bt
  replace r3 := hr3.below bt
  replace o_w := o_w.kept g22 (fun k hk e => by have h1 := u_w_x2 k hk; have h2 := (o_x2.lt k e).1; omega)
  replace o_x0 := o_x0.kept g22 (fun k hk e => by have h1 := u_x0_x2 k hk; have h2 := (o_x2.lt k e).1; omega)
  replace o_x1 := o_x1.kept g22 (fun k hk e => by have h1 := u_x1_x2 k hk; have h2 := (o_x2.lt k e).1; omega)
  replace o_x3 := o_x3.grown g22 (fun k e => u_x2_x3 k e)
  replace o_g := o_g.grown g22 (fun k e => u_x2_g k e)
  replace o_x2 := o_x2m
  clear o_x2m g22
  go_wp2_with fail
  refine (markIntS_any _ (z3) _ _ _ o_x3 hn3 (by omega) (by omega)).mono ?_
  rintro e w23 ⟨rfl, o_x3m, g23⟩
  replace bt := bt.trans (below_of_grown g23 bt.size (fun k e => Nat.le_trans s_x3 (o_x3.lt k e).1))
  replace r0 := hr0.below bt
  replace r1 := hr1.below bt
  replace r2 := hr2.below bt
  replace r3 := hr3.below bt
  replace o_w := o_w.kept g23 (fun k hk e => by have h1 := u_w_x3 k hk; have h2 := (o_x3.lt k e).1; omega)
  replace o_x0 := o_x0.kept g23 (fun k hk e => by have h1 := u_x0_x3 k hk; have h2 := (o_x3.lt k e).1; omega)
  replace o_x1 := o_x1.kept g23 (fun k hk e => by have h1 := u_x1_x3 k hk; have h2 := (o_x3.lt k e).1; omega)
  replace o_x2 := o_x2.kept g23 (fun k hk e => by have h1 := u_x2_x3 k hk; have h2 := (o_x3.lt k e).1; omega)
  replace o_g := o_g.grown g23 (fun k e => u_x3_g k e)
  replace o_x3 := o_x3m
  clear o_x3m g23
  go_wp2_with fail
  refine (calls_below (eqIntS_any _ _ (tjoinL z0 z1 z2 z3) (tjoinL z0 z1 z2 z3) _ o_g.row o_w.row hl1 hl1)).mono ?_
  rintro e w24 ⟨rfl, b24⟩
  replace bt := bt.trans (b24.mono bt.size)
  replace r0 := hr0.below bt
  replace r1 := hr1.below bt
  replace r2 := hr2.below bt
  replace r3 := hr3.below bt
  replace o_w := o_w.below b24
  replace o_x0 := o_x0.below b24
  replace o_x1 := o_x1.below b24
  replace o_x2 := o_x2.below b24
  replace o_x3 := o_x3.below b24
  replace o_g := o_g.below b24
  clear b24
  go_wp2_with fail
  refine (markIntS_any _ (tjoinL z0 z1 z2 z3) _ _ _ o_g hl1 (by omega) (by omega)).mono ?_
  rintro e w25 ⟨rfl, o_gm, g25⟩
  replace bt := bt.trans (below_of_grown g25 bt.size (fun k e => Nat.le_trans s_g (o_g.lt k e).1))
  replace r0 := hr0.below bt
  replace r1 := hr1.below bt
  replace r2 := hr2.below bt
  replace r3 := hr3.below bt
  replace o_w := o_w.kept g25 (fun k hk e => by have h1 := u_w_g k hk; have h2 := (o_g.lt k e).1; omega)
  replace o_x0 := o_x0.kept g25 (fun k hk e => by have h1 := u_x0_g k hk; have h2 := (o_g.lt k e).1; omega)
  replace o_x1 := o_x1.kept g25 (fun k hk e => by have h1 := u_x1_g k hk; have h2 := (o_g.lt k e).1; omega)
  replace o_x2 := o_x2.kept g25 (fun k hk e => by have h1 := u_x2_g k hk; have h2 := (o_g.lt k e).1; omega)
  replace o_x3 := o_x3.kept g25 (fun k hk e => by have h1 := u_x3_g k hk; have h2 := (o_g.lt k e).1; omega)
  replace o_g := o_gm
  clear o_gm g25
  go_wp2_with fail
  refine (calls_same (heldIntS_any _ 1 (tjoinL z0 z1 z2 z3).length _ o_g.row hl1 (by omega) (by omega))).mono ?_
  rintro e w26 ⟨rfl, b26⟩
  replace bt := bt.trans (b26.mono bt.size)
  replace r0 := hr0.below bt
  replace r1 := hr1.below bt
  replace r2 := hr2.below bt
  replace r3 := hr3.below bt
  replace o_w := o_w.below b26
  replace o_x0 := o_x0.below b26
  replace o_x1 := o_x1.below b26
  replace o_x2 := o_x2.below b26
  replace o_x3 := o_x3.below b26
  replace o_g := o_g.below b26
  clear b26
  clear o_x0 s_x0
  clear o_x1 s_x1
  clear o_x2 s_x2
  clear o_x3 s_x3
  have s_h0 := bt.size
  go_wp2_with fail
  have u_w_h0 := fun k hk => (o_w.lt k hk).2
  have u_g_h0 := fun k hk => (o_g.lt k hk).2
  refine (toIntS_any _ z0 _ r0 hn0).mono ?_
  rintro e w27 ⟨a_h0, c_h0, rfl, o_h0, b27⟩
  replace bt := bt.trans (b27.mono bt.size)
  replace r0 := hr0.below bt
  replace r1 := hr1.below bt
  replace r2 := hr2.below bt
  replace r3 := hr3.below bt
  replace o_w := o_w.below b27
  replace o_g := o_g.below b27
  clear b27
  have s_h1 := bt.size
  go_wp2_with fail
  have u_w_h1 := fun k hk => (o_w.lt k hk).2
  have u_g_h1 := fun k hk => (o_g.lt k hk).2
  have u_h0_h1 := fun k hk => (o_h0.lt k hk).2
  refine (toIntS_any _ z1 _ r1 hn1).mono ?_
  rintro e w28 ⟨a_h1, c_h1, rfl, o_h1, b28⟩
  replace bt := bt.trans (b28.mono bt.size)
  replace r0 := hr0.below bt
  replace r1 := hr1.below bt
  replace r2 := hr2.below bt
  replace r3 := hr3.below bt
  replace o_w := o_w.below b28
  replace o_g := o_g.below b28
  replace o_h0 := o_h0.below b28
  clear b28
  have s_h2 := bt.size
  go_wp2_with fail
  have u_w_h2 := fun k hk => (o_w.lt k hk).2
  have u_g_h2 := fun k hk => (o_g.lt k hk).2
  have u_h0_h2 := fun k hk => (o_h0.lt k hk).2
  have u_h1_h2 := fun k hk => (o_h1.lt k hk).2
  refine (toIntS_any _ z2 _ r2 hn2).mono ?_
  rintro e w29 ⟨a_h2, c_h2, rfl, o_h2, b29⟩
  replace bt := bt.trans (b29.mono bt.size)
  replace r0 := hr0.below bt
  replace r1 := hr1.below bt
  replace r2 := hr2.below bt
  replace r3 := hr3.below bt
  replace o_w := o_w.below b29
  replace o_g := o_g.below b29
  replace o_h0 := o_h0.below b29
  replace o_h1 := o_h1.below b29
  clear b29
  have s_h3 := bt.size
  go_wp2_with fail
  have u_w_h3 := fun k hk => (o_w.lt k hk).2
  have u_g_h3 := fun k hk => (o_g.lt k hk).2
  have u_h0_h3 := fun k hk => (o_h0.lt k hk).2
  have u_h1_h3 := fun k hk => (o_h1.lt k hk).2
  have u_h2_h3 := fun k hk => (o_h2.lt k hk).2
  refine (toIntS_any _ z3 _ r3 hn3).mono ?_
  rintro e w30 ⟨a_h3, c_h3, rfl, o_h3, b30⟩
  replace bt := bt.trans (b30.mono bt.size)
  replace r0 := hr0.below bt
  replace r1 := hr1.below bt
  replace r2 := hr2.below bt
  replace r3 := hr3.below bt
  replace o_w := o_w.below b30
  replace o_g := o_g.below b30
  replace o_h0 := o_h0.below b30
  replace o_h1 := o_h1.below b30
  replace o_h2 := o_h2.below b30
  clear b30
  have s_h := bt.size
  go_wp2_with fail
  have u_w_h := fun k hk => (o_w.lt k hk).2
  have u_g_h := fun k hk => (o_g.lt k hk).2
  have u_h0_h := fun k hk => (o_h0.lt k hk).2
  have u_h1_h := fun k hk => (o_h1.lt k hk).2
  have u_h2_h := fun k hk => (o_h2.lt k hk).2
  have u_h3_h := fun k hk => (o_h3.lt k hk).2
  refine (itjoin_any _ _ _ _ z0 z1 z2 z3 _ o_h0.row hn0 o_h1.row hn1 o_h2.row hn2 o_h3.row hn3).mono ?_
  rintro e w31 ⟨a_h, c_h, rfl, o_h, b31⟩
  replace bt := bt.trans (b31.mono bt.size)
  replace r0 := hr0.below bt
  replace r1 := hr1.below bt
  replace r2 := hr2.below bt
  replace r3 := hr3.below bt
  replace o_w := o_w.below b31
  replace o_g := o_g.below b31
  replace o_h0 := o_h0.below b31
  replace o_h1 := o_h1.below b31
  replace o_h2 := o_h2.below b31
  replace o_h3 := o_h3.below b31
  clear b31
  go_wp2_with fail
  refine (calls_below (eqIntS_any _ _ (tjoinL z0 z1 z2 z3) (tjoinL z0 z1 z2 z3) _ o_h.row o_w.row hl1 hl1)).mono ?_
  rintro e w32 ⟨rfl, b32⟩
  replace bt := bt.trans (b32.mono bt.size)
  replace r0 := hr0.below bt
  replace r1 := hr1.below bt
  replace r2 := hr2.below bt
  replace r3 := hr3.below bt
  replace o_w := o_w.below b32
  replace o_g := o_g.below b32
  replace o_h0 := o_h0.below b32
  replace o_h1 := o_h1.below b32
  replace o_h2 := o_h2.below b32
  replace o_h3 := o_h3.below b32
  replace o_h := o_h.below b32
  clear b32
  go_wp2_with fail
  refine (calls_same (heldIntS_any _ 1 (tjoinL z0 z1 z2 z3).length _ o_g.row hl1 (by omega) (by omega))).mono ?_
  rintro e w33 ⟨rfl, b33⟩
  replace bt := bt.trans (b33.mono bt.size)
  replace r0 := hr0.below bt
  replace r1 := hr1.below bt
  replace r2 := hr2.below bt
  replace r3 := hr3.below bt
  replace o_w := o_w.below b33
  replace o_g := o_g.below b33
  replace o_h0 := o_h0.below b33
  replace o_h1 := o_h1.below b33
  replace o_h2 := o_h2.below b33
  replace o_h3 := o_h3.below b33
  replace o_h := o_h.below b33
  clear b33
  go_wp2
  go_ret
  exact ⟨rfl, bt⟩

end Go.Proofs.Ytijmhpcipidgcaa
