/- Walk of the law FnExactThinGreedy: the program's ThinGreedy returns what the reference's returns, for all arguments. -/
import Derived.Test.YtijmhpcipidgcaaBase
import Derived.Test.YtijmhpcipidgcaaTGreedy2
import Derived.OpenShut
namespace Go.Proofs.Ytijmhpcipidgcaa
open Go.RowKit

set_option maxRecDepth 100000 in
set_option maxHeartbeats 1000000 in
theorem fnExactThinGreedy_walk (w : World) (v0 : Value) (z0 : List Int) (hr0 : Row w v0 z0) (_hm0 : z0.length ≤ maxLen) (_hf0 : ∀ n ∈ z0, (Lit.int .i64 n).wf = true) (a1 : Int) (_hw1 : (Lit.int .i64 a1).wf = true) :
    Calls Try.prog 10 #[v0, .int .i64 a1] w fun e w' => e = .returned (.bool true) ∧ Below w.heap.size w w' := by
  obtain ⟨a0, cap0, rfl⟩ := hr0.shape
  clear _hm0 _hf0
  by_cases hbig0 : 1048576 < z0.length
  · go_enter Try.func10, Try.ntmps10
    go_wp2
    go_ret
    exact ⟨rfl, Below.refl _ _⟩
  have hn0 : z0.length ≤ 1099511627776 := by omega
  have hw1 := bounds_i64 _hw1
  obtain ⟨hl1, hu1⟩ := hw1
  clear _hw1
  have hl : (tgreedyL z0 a1).length ≤ 1048576 := tgreedyL_len z0 a1 (by omega)
  have hl1 : (tgreedyL z0 a1).length ≤ 1099511627776 := by omega
  have hq : ((1 + (((tgreedyL z0 a1).length : Nat) : Int)) != (1 + (((tgreedyL z0 a1).length : Nat) : Int))) = false := by simp
  have hx1 : ((fewB z0 a1) != (fewB z0 a1)) = false := by simp
  have bt : Below w.heap.size w w := Below.refl _ _
  go_enter Try.func10, Try.ntmps10
  have r0 := hr0
  have s_t0 := bt.size
  go_wp2_with fail
  refine (toIntS_any _ z0 _ r0 hn0).mono ?_
  rintro e w1 ⟨a_t0, c_t0, rfl, o_t0, b1⟩
  replace bt := bt.trans (b1.mono bt.size)
  replace r0 := hr0.below bt
  clear b1
  have s_w := bt.size
  go_wp2_with fail
  have u_t0_w := fun k hk => (o_t0.lt k hk).2
  refine (stgreedy_any _ z0 a1 _ o_t0.row hn0).mono ?_
  rintro e w2 ⟨a_w, c_w, rfl, o_w, b2⟩
  replace bt := bt.trans (b2.mono bt.size)
  replace r0 := hr0.below bt
  replace o_t0 := o_t0.below b2
  clear b2
  clear o_t0 s_t0
  have s_x0 := bt.size
  go_wp2_with fail
  have u_w_x0 := fun k hk => (o_w.lt k hk).2
  refine (toIntS_any _ z0 _ r0 hn0).mono ?_
  rintro e w3 ⟨a_x0, c_x0, rfl, o_x0, b3⟩
  replace bt := bt.trans (b3.mono bt.size)
  replace r0 := hr0.below bt
  replace o_w := o_w.below b3
  clear b3
  have s_g := bt.size
  go_wp2_with fail
  have u_w_g := fun k hk => (o_w.lt k hk).2
  have u_x0_g := fun k hk => (o_x0.lt k hk).2
  refine (itgreedy_any _ z0 a1 _ o_x0.row hn0).mono ?_
  rintro e w4 ⟨a_g, c_g, rfl, o_g, b4⟩
  replace bt := bt.trans (b4.mono bt.size)
  replace r0 := hr0.below bt
  replace o_w := o_w.below b4
  replace o_x0 := o_x0.below b4
  clear b4
  go_wp2_with fail
  refine (calls_below (eqIntS_any _ _ (tgreedyL z0 a1) (tgreedyL z0 a1) _ o_g.row o_w.row hl1 hl1)).mono ?_
  rintro e w5 ⟨rfl, b5⟩
  replace bt := bt.trans (b5.mono bt.size)
  replace r0 := hr0.below bt
  replace o_w := o_w.below b5
  replace o_x0 := o_x0.below b5
  replace o_g := o_g.below b5
  clear b5
  have s_y0 := bt.size
  go_wp2_with fail
  have u_w_y0 := fun k hk => (o_w.lt k hk).2
  have u_x0_y0 := fun k hk => (o_x0.lt k hk).2
  have u_g_y0 := fun k hk => (o_g.lt k hk).2
  refine (toIntS_any _ z0 _ r0 hn0).mono ?_
  rintro e w6 ⟨a_y0, c_y0, rfl, o_y0, b6⟩
  replace bt := bt.trans (b6.mono bt.size)
  replace r0 := hr0.below bt
  replace o_w := o_w.below b6
  replace o_x0 := o_x0.below b6
  replace o_g := o_g.below b6
  clear b6
  go_wp2_with fail
  refine (calls_below (eqIntS_any _ _ z0 z0 _ o_x0.row o_y0.row hn0 hn0)).mono ?_
  rintro e w7 ⟨rfl, b7⟩
  replace bt := bt.trans (b7.mono bt.size)
  replace r0 := hr0.below bt
  replace o_w := o_w.below b7
  replace o_x0 := o_x0.below b7
  replace o_g := o_g.below b7
  replace o_y0 := o_y0.below b7
  clear b7
  clear o_y0 s_y0
  go_wp2_with fail
  refine (markIntS_any _ (z0) _ _ _ o_x0 hn0 (by omega) (by omega)).mono ?_
  rintro e w8 ⟨rfl, o_x0m, g8⟩
  replace bt := bt.trans (below_of_grown g8 bt.size (fun k e => Nat.le_trans s_x0 (o_x0.lt k e).1))
  replace r0 := hr0.below bt
  replace o_w := o_w.kept g8 (fun k hk e => by have h1 := u_w_x0 k hk; have h2 := (o_x0.lt k e).1; omega)
  replace o_g := o_g.grown g8 (fun k e => u_x0_g k e)
  replace o_x0 := o_x0m
  clear o_x0m g8
  go_wp2_with fail
  refine (calls_below (eqIntS_any _ _ (tgreedyL z0 a1) (tgreedyL z0 a1) _ o_g.row o_w.row hl1 hl1)).mono ?_
  rintro e w9 ⟨rfl, b9⟩
  replace bt := bt.trans (b9.mono bt.size)
  replace r0 := hr0.below bt
  replace o_w := o_w.below b9
  replace o_x0 := o_x0.below b9
  replace o_g := o_g.below b9
  clear b9
  go_wp2_with fail
  refine (markIntS_any _ (tgreedyL z0 a1) _ _ _ o_g hl1 (by omega) (by omega)).mono ?_
  rintro e w10 ⟨rfl, o_gm, g10⟩
  replace bt := bt.trans (below_of_grown g10 bt.size (fun k e => Nat.le_trans s_g (o_g.lt k e).1))
  replace r0 := hr0.below bt
  replace o_w := o_w.kept g10 (fun k hk e => by have h1 := u_w_g k hk; have h2 := (o_g.lt k e).1; omega)
  replace o_x0 := o_x0.kept g10 (fun k hk e => by have h1 := u_x0_g k hk; have h2 := (o_g.lt k e).1; omega)
  replace o_g := o_gm
  clear o_gm g10
  go_wp2_with fail
  refine (calls_same (heldIntS_any _ 1 (tgreedyL z0 a1).length _ o_g.row hl1 (by omega) (by omega))).mono ?_
  rintro e w11 ⟨rfl, b11⟩
  replace bt := bt.trans (b11.mono bt.size)
  replace r0 := hr0.below bt
  replace o_w := o_w.below b11
  replace o_x0 := o_x0.below b11
  replace o_g := o_g.below b11
  clear b11
  clear o_x0 s_x0
  have s_h0 := bt.size
  go_wp2_with fail
  have u_w_h0 := fun k hk => (o_w.lt k hk).2
  have u_g_h0 := fun k hk => (o_g.lt k hk).2
  refine (toIntS_any _ z0 _ r0 hn0).mono ?_
  rintro e w12 ⟨a_h0, c_h0, rfl, o_h0, b12⟩
  replace bt := bt.trans (b12.mono bt.size)
  replace r0 := hr0.below bt
  replace o_w := o_w.below b12
  replace o_g := o_g.below b12
  clear b12
  have s_h := bt.size
  go_wp2_with fail
  have u_w_h := fun k hk => (o_w.lt k hk).2
  have u_g_h := fun k hk => (o_g.lt k hk).2
  have u_h0_h := fun k hk => (o_h0.lt k hk).2
  refine (itgreedy_any _ z0 a1 _ o_h0.row hn0).mono ?_
  rintro e w13 ⟨a_h, c_h, rfl, o_h, b13⟩
  replace bt := bt.trans (b13.mono bt.size)
  replace r0 := hr0.below bt
  replace o_w := o_w.below b13
  replace o_g := o_g.below b13
  replace o_h0 := o_h0.below b13
  clear b13
  go_wp2_with fail
  refine (calls_below (eqIntS_any _ _ (tgreedyL z0 a1) (tgreedyL z0 a1) _ o_h.row o_w.row hl1 hl1)).mono ?_
  rintro e w14 ⟨rfl, b14⟩
  replace bt := bt.trans (b14.mono bt.size)
  replace r0 := hr0.below bt
  replace o_w := o_w.below b14
  replace o_g := o_g.below b14
  replace o_h0 := o_h0.below b14
  replace o_h := o_h.below b14
  clear b14
  go_wp2_with fail
  refine (calls_same (heldIntS_any _ 1 (tgreedyL z0 a1).length _ o_g.row hl1 (by omega) (by omega))).mono ?_
  rintro e w15 ⟨rfl, b15⟩
  replace bt := bt.trans (b15.mono bt.size)
  replace r0 := hr0.below bt
  replace o_w := o_w.below b15
  replace o_g := o_g.below b15
  replace o_h0 := o_h0.below b15
  replace o_h := o_h.below b15
  clear b15
  go_wp2
  go_ret
  exact ⟨rfl, bt⟩

end Go.Proofs.Ytijmhpcipidgcaa
