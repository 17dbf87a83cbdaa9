/- Walk of the law FnExactPassWay: the program's PassWay returns what the reference's returns, for all arguments. -/
import Derived.Test.YtkhhloeemecokaaMatLaw
import Derived.Test.YtkhhloeemecokaaSWay
import Derived.OpenShut
namespace Go.Proofs.Ytkhhloeemecokaa
open Go.RowKit
set_option linter.unusedVariables false

set_option maxRecDepth 100000 in
set_option maxHeartbeats 2000000 in
theorem fnExactPassWay_walk (w : World) (v0 : Value) (z0 : List (List Int)) (hr0 : MRow w v0 z0) (_hm0 : z0.length ≤ maxLen) (_hz0 : ∀ z ∈ z0, z.length ≤ maxLen) (a1 : Int) (_hw1 : (Lit.int .i64 a1).wf = true) (a2 : Int) (_hw2 : (Lit.int .i64 a2).wf = true) :
    Calls Try.prog 5 #[v0, .int .i64 a1, .int .i64 a2] w fun e w' => e = .returned (.bool true) ∧ Below w.heap.size w w' := by
  obtain ⟨a0, cap0, rfl⟩ := hr0.shape
  have HSz := Lib.hid (szIntSS_any _ z0 w hr0 _hm0 _hz0)
  clear _hm0 _hz0
  have hw1 := bounds_i64 _hw1
  obtain ⟨hl1, hu1⟩ := hw1
  clear _hw1
  have hw2 := bounds_i64 _hw2
  obtain ⟨hl2, hu2⟩ := hw2
  clear _hw2
  have hq : ((1 + (((pwayL z0 a1 a2).length : Nat) : Int)) != (1 + (((pwayL z0 a1 a2).length : Nat) : Int))) = false := by simp
  have hx1 : ((pwayB z0 a1 a2) != (pwayB z0 a1 a2)) = false := by simp
  go_enter Try.func5, Try.ntmps5
  go_wp2_with fail
  refine HSz.out.mono ?_
  rintro e w0 ⟨⟨x, rfl, hx⟩, rfl⟩
  by_cases hneg : x < 0
  · go_wp2
    go_ret
    exact ⟨rfl, Below.refl _ _⟩
  obtain ⟨hn0, hm0⟩ : z0.length ≤ 1048576 ∧ tot z0 ≤ 1048576 := by have := hx.2.2 (by omega); omega
  clear hx HSz
  have hl : (pwayL z0 a1 a2).length ≤ 1048576 := by have := pwayL_len z0 a1 a2; omega
  have hlb : (pwayL z0 a1 a2).length ≤ 1099511627776 := by omega
  have bt : Below w.heap.size w w := Below.refl _ _
  have r0 := hr0
  have s_t := bt.size
  go_wp2_with fail
  refine (toIntSS_any _ z0 _ r0 hn0 hm0).mono ?_
  rintro e w1 ⟨a_t, c_t, rfl, o_t, b1⟩
  replace bt := bt.trans (b1.mono bt.size)
  replace r0 := hr0.below bt
  clear b1
  replace o_t := o_t.c
  have s_w := bt.size
  go_wp2_with fail
  refine (spway_any _ z0 a1 a2 _ o_t.m.mrow hn0 hm0).mono ?_
  rintro e w2 ⟨a_w, c_w, rfl, o_w, b2⟩
  replace bt := bt.trans (b2.mono bt.size)
  replace r0 := hr0.below bt
  replace o_t := o_t.below b2
  clear b2
  clear o_t s_t
  have s_x := bt.size
  go_wp2_with fail
  have u_w_x := fun k hk => (o_w.lt k hk).2
  refine (toIntSS_any _ z0 _ r0 hn0 hm0).mono ?_
  rintro e w3 ⟨a_x, c_x, rfl, o_x, b3⟩
  replace bt := bt.trans (b3.mono bt.size)
  replace r0 := hr0.below bt
  replace o_w := o_w.below b3
  clear b3
  replace o_x := o_x.c
  have s_g := bt.size
  go_wp2_with fail
  have u_w_g := fun k hk => (o_w.lt k hk).2
  refine (ipway_any _ z0 a1 a2 _ o_x.m.mrow hn0 hm0).mono ?_
  rintro e w4 ⟨a_g, c_g, rfl, o_g, b4⟩
  replace bt := bt.trans (b4.mono bt.size)
  replace r0 := hr0.below bt
  replace o_w := o_w.below b4
  replace o_x := o_x.below b4
  clear b4
  go_wp2_with fail
  refine (calls_below (eqIntS_any _ _ (pwayL z0 a1 a2) (pwayL z0 a1 a2) _ o_g.row o_w.row hlb hlb)).mono ?_
  rintro e w5 ⟨rfl, b5⟩
  replace bt := bt.trans (b5.mono bt.size)
  replace r0 := hr0.below bt
  replace o_w := o_w.below b5
  replace o_x := o_x.below b5
  replace o_g := o_g.below b5
  clear b5
  have s_y := bt.size
  go_wp2_with fail
  have u_w_y := fun k hk => (o_w.lt k hk).2
  have u_g_y := fun k hk => (o_g.lt k hk).2
  refine (toIntSS_any _ z0 _ r0 hn0 hm0).mono ?_
  rintro e w6 ⟨a_y, c_y, rfl, o_y, b6⟩
  replace bt := bt.trans (b6.mono bt.size)
  replace r0 := hr0.below bt
  replace o_w := o_w.below b6
  replace o_x := o_x.below b6
  replace o_g := o_g.below b6
  clear b6
  replace o_y := o_y.c
  go_wp2_with fail
  refine (eqIntSS_any _ _ z0 _ o_x.m.mrow o_y.m.mrow hn0 hm0).mono ?_
  rintro e w7 ⟨rfl, b7⟩
  replace bt := bt.trans (b7.mono bt.size)
  replace r0 := hr0.below bt
  replace o_w := o_w.below b7
  replace o_x := o_x.below b7
  replace o_g := o_g.below b7
  replace o_y := o_y.below b7
  clear b7
  clear o_y s_y
  have sx := bt.size
  go_wp2_with fail
  refine (markIntSS_any _ z0 _ _ _ o_x hn0 hm0).mono ?_
  rintro e w8 ⟨rfl, g8⟩
  replace bt := bt.trans ((g8.below o_x.base).mono s_x)
  replace r0 := hr0.below bt
  replace o_w := o_w.band g8 (fun k hk => .inl (u_w_x k hk))
  replace o_g := o_g.band g8 (fun k hk => .inr (o_g.lt k hk).1)
  clear g8 sx
  clear o_x s_x
  have hz1 : (1 : Int) + (tot z0 : Nat) ≤ 1048577 := by omega
  go_wp2_with fail
  refine (calls_below (eqIntS_any _ _ (pwayL z0 a1 a2) (pwayL z0 a1 a2) _ o_g.row o_w.row hlb hlb)).mono ?_
  rintro e w9 ⟨rfl, b9⟩
  replace bt := bt.trans (b9.mono bt.size)
  replace r0 := hr0.below bt
  replace o_w := o_w.below b9
  replace o_g := o_g.below b9
  clear b9
  go_wp2_with fail
  refine (markIntS_any _ (pwayL z0 a1 a2) _ _ _ o_g hlb (by omega) (by omega)).mono ?_
  rintro e w10 ⟨rfl, o_gm, g10⟩
  replace bt := bt.trans (below_of_grown g10 bt.size (fun k e => Nat.le_trans s_g (o_g.lt k e).1))
  replace r0 := hr0.below bt
  replace o_w := o_w.kept g10 (fun k hk e => by have h1 := u_w_g k hk; have h2 := (o_g.lt k e).1; omega)
  replace o_g := o_gm
  clear o_gm g10
  go_wp2_with fail
  refine (calls_same (heldIntS_any _ 1 (pwayL z0 a1 a2).length _ o_g.row hlb (by omega) (by omega))).mono ?_
  rintro e w11 ⟨rfl, b11⟩
  replace bt := bt.trans (b11.mono bt.size)
  replace r0 := hr0.below bt
  replace o_w := o_w.below b11
  replace o_g := o_g.below b11
  clear b11
  have s_h0 := bt.size
  go_wp2_with fail
  have u_w_h0 := fun k hk => (o_w.lt k hk).2
  have u_g_h0 := fun k hk => (o_g.lt k hk).2
  refine (toIntSS_any _ z0 _ r0 hn0 hm0).mono ?_
  rintro e w12 ⟨a_h0, c_h0, rfl, o_h0, b12⟩
  replace bt := bt.trans (b12.mono bt.size)
  replace r0 := hr0.below bt
  replace o_w := o_w.below b12
  replace o_g := o_g.below b12
  clear b12
  replace o_h0 := o_h0.c
  have s_h := bt.size
  go_wp2_with fail
  have u_w_h := fun k hk => (o_w.lt k hk).2
  have u_g_h := fun k hk => (o_g.lt k hk).2
  refine (ipway_any _ z0 a1 a2 _ o_h0.m.mrow hn0 hm0).mono ?_
  rintro e w13 ⟨a_h, c_h, rfl, o_h, b13⟩
  replace bt := bt.trans (b13.mono bt.size)
  replace r0 := hr0.below bt
  replace o_w := o_w.below b13
  replace o_g := o_g.below b13
  replace o_h0 := o_h0.below b13
  clear b13
  clear o_h0 s_h0
  go_wp2_with fail
  refine (calls_below (eqIntS_any _ _ (pwayL z0 a1 a2) (pwayL z0 a1 a2) _ o_h.row o_w.row hlb hlb)).mono ?_
  rintro e w14 ⟨rfl, b14⟩
  replace bt := bt.trans (b14.mono bt.size)
  replace r0 := hr0.below bt
  replace o_w := o_w.below b14
  replace o_g := o_g.below b14
  replace o_h := o_h.below b14
  clear b14
  go_wp2_with fail
  refine (calls_same (heldIntS_any _ 1 (pwayL z0 a1 a2).length _ o_g.row hlb (by omega) (by omega))).mono ?_
  rintro e w15 ⟨rfl, b15⟩
  replace bt := bt.trans (b15.mono bt.size)
  replace r0 := hr0.below bt
  replace o_w := o_w.below b15
  replace o_g := o_g.below b15
  replace o_h := o_h.below b15
  clear b15
  go_wp2
  go_ret
  exact ⟨rfl, bt⟩

end Go.Proofs.Ytkhhloeemecokaa
