/- Walk of the law FnExactThinKeeps: the program's ThinKeeps returns what the reference's returns, for all arguments. -/
import Derived.Test.YtijmhpcipidgcaaBase
import Derived.Test.YtijmhpcipidgcaaTErr
import Derived.OpenShut
namespace Go.Proofs.Ytijmhpcipidgcaa
open Go.RowKit

set_option maxRecDepth 100000 in
set_option maxHeartbeats 1000000 in
theorem fnExactThinKeeps_walk (w : World) (v0 : Value) (z0 : List Int) (hr0 : Row w v0 z0) (_hm0 : z0.length ≤ maxLen) (_hf0 : ∀ n ∈ z0, (Lit.int .i64 n).wf = true) (v1 : Value) (z1 : List Int) (hr1 : Row w v1 z1) (_hm1 : z1.length ≤ maxLen) (_hf1 : ∀ n ∈ z1, (Lit.int .i64 n).wf = true) (a2 : Int) (_hw2 : (Lit.int .i64 a2).wf = true) :
    Calls Try.prog 8 #[v0, v1, .int .i64 a2] w fun e w' => e = .returned (.bool true) ∧ Below w.heap.size w w' := by
  obtain ⟨a0, cap0, rfl⟩ := hr0.shape
  obtain ⟨a1, cap1, rfl⟩ := hr1.shape
  clear _hm0 _hf0
  clear _hm1 _hf1
  by_cases hbig0 : 1048576 < z0.length
  · go_enter Try.func8, Try.ntmps8
    go_wp2
    go_ret
    exact ⟨rfl, Below.refl _ _⟩
  by_cases hbig1 : 1048576 < z1.length
  · go_enter Try.func8, Try.ntmps8
    go_wp2
    go_ret
    exact ⟨rfl, Below.refl _ _⟩
  have hn0 : z0.length ≤ 1099511627776 := by omega
  have hn1 : z1.length ≤ 1099511627776 := by omega
  have hw2 := bounds_i64 _hw2
  obtain ⟨hl2, hu2⟩ := hw2
  clear _hw2
  have hx0 : ((keepB z0 z1 a2) != (keepB z0 z1 a2)) = false := by simp
  have bt : Below w.heap.size w w := Below.refl _ _
  go_enter Try.func8, Try.ntmps8
  have r0 := hr0
  have r1 := hr1
  have s_t0 := bt.size
  go_wp2_with fail
  refine (toIntS_any _ z0 _ r0 hn0).mono ?_
  rintro e w1 ⟨a_t0, c_t0, rfl, o_t0, b1⟩
  replace bt := bt.trans (b1.mono bt.size)
  replace r0 := hr0.below bt
  replace r1 := hr1.below bt
  clear b1
  have s_t1 := bt.size
  go_wp2_with fail
  have u_t0_t1 := fun k hk => (o_t0.lt k hk).2
  refine (toIntS_any _ z1 _ r1 hn1).mono ?_
  rintro e w2 ⟨a_t1, c_t1, rfl, o_t1, b2⟩
  replace bt := bt.trans (b2.mono bt.size)
  replace r0 := hr0.below bt
  replace r1 := hr1.below bt
  replace o_t0 := o_t0.below b2
  clear b2
  go_wp2_with fail
  refine (skeep_any _ _ z0 z1 a2 _ o_t0.row hn0 o_t1.row hn1).mono ?_
  rintro e w3 ⟨rfl, b3⟩
  replace bt := bt.trans (b3.mono bt.size)
  replace r0 := hr0.below bt
  replace r1 := hr1.below bt
  replace o_t0 := o_t0.below b3
  replace o_t1 := o_t1.below b3
  clear b3
  clear o_t0 s_t0
  clear o_t1 s_t1
  have s_x0 := bt.size
  go_wp2_with fail
  refine (toIntS_any _ z0 _ r0 hn0).mono ?_
  rintro e w4 ⟨a_x0, c_x0, rfl, o_x0, b4⟩
  replace bt := bt.trans (b4.mono bt.size)
  replace r0 := hr0.below bt
  replace r1 := hr1.below bt
  clear b4
  have s_x1 := bt.size
  go_wp2_with fail
  have u_x0_x1 := fun k hk => (o_x0.lt k hk).2
  refine (toIntS_any _ z1 _ r1 hn1).mono ?_
  rintro e w5 ⟨a_x1, c_x1, rfl, o_x1, b5⟩
  replace bt := bt.trans (b5.mono bt.size)
  replace r0 := hr0.below bt
  replace r1 := hr1.below bt
  replace o_x0 := o_x0.below b5
  clear b5
  go_wp2_with fail
  refine (ikeep_any _ _ z0 z1 a2 _ o_x0.row hn0 o_x1.row hn1).mono ?_
  rintro e w6 ⟨rfl, b6⟩
  replace bt := bt.trans (b6.mono bt.size)
  replace r0 := hr0.below bt
  replace r1 := hr1.below bt
  replace o_x0 := o_x0.below b6
  replace o_x1 := o_x1.below b6
  clear b6
  have s_y0 := bt.size
  go_wp2_with fail
  have u_x0_y0 := fun k hk => (o_x0.lt k hk).2
  have u_x1_y0 := fun k hk => (o_x1.lt k hk).2
  refine (toIntS_any _ z0 _ r0 hn0).mono ?_
  rintro e w7 ⟨a_y0, c_y0, rfl, o_y0, b7⟩
  replace bt := bt.trans (b7.mono bt.size)
  replace r0 := hr0.below bt
  replace r1 := hr1.below bt
  replace o_x0 := o_x0.below b7
  replace o_x1 := o_x1.below b7
  clear b7
  go_wp2_with fail
  refine (calls_below (eqIntS_any _ _ z0 z0 _ o_x0.row o_y0.row hn0 hn0)).mono ?_
  rintro e w8 ⟨rfl, b8⟩
  replace bt := bt.trans (b8.mono bt.size)
  replace r0 := hr0.below bt
  replace r1 := hr1.below bt
  replace o_x0 := o_x0.below b8
  replace o_x1 := o_x1.below b8
  replace o_y0 := o_y0.below b8
  clear b8
  clear o_y0 s_y0
  have s_y1 := bt.size
  go_wp2_with fail
  have u_x0_y1 := fun k hk => (o_x0.lt k hk).2
  have u_x1_y1 := fun k hk => (o_x1.lt k hk).2
  refine (toIntS_any _ z1 _ r1 hn1).mono ?_
  rintro e w9 ⟨a_y1, c_y1, rfl, o_y1, b9⟩
  replace bt := bt.trans (b9.mono bt.size)
  replace r0 := hr0.below bt
  replace r1 := hr1.below bt
  replace o_x0 := o_x0.below b9
  replace o_x1 := o_x1.below b9
  clear b9
  go_wp2_with fail
  refine (calls_below (eqIntS_any _ _ z1 z1 _ o_x1.row o_y1.row hn1 hn1)).mono ?_
  rintro e w10 ⟨rfl, b10⟩
  replace bt := bt.trans (b10.mono bt.size)
  replace r0 := hr0.below bt
  replace r1 := hr1.below bt
  replace o_x0 := o_x0.below b10
  replace o_x1 := o_x1.below b10
  replace o_y1 := o_y1.below b10
  clear b10
  clear o_y1 s_y1
  go_wp2
  go_ret
  exact ⟨rfl, bt⟩

end Go.Proofs.Ytijmhpcipidgcaa
