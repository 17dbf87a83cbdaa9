/- Walk of the law FnExactProfileWatch: the program's ProfileWatch returns what the reference's returns, for all arguments. -/
import Derived.Test.YtlmigoplffdpiaaBase
import Derived.Test.YtlmigoplffdpiaaIWatch
import Derived.OpenShut
namespace Go.Proofs.Ytlmigoplffdpiaa
open Go.RowKit

set_option maxRecDepth 100000 in
set_option maxHeartbeats 1000000 in
theorem fnExactProfileWatch_walk (w : World) (v0 : Value) (z0 : List Int) (hr0 : Row w v0 z0) (_hm0 : z0.length ≤ maxLen) (_hf0 : ∀ n ∈ z0, (Lit.int .i64 n).wf = true) :
    Calls Try.prog 3 #[v0] w fun e w' => e = .returned (.bool true) ∧ Below w.heap.size w w' := by
  obtain ⟨a0, cap0, rfl⟩ := hr0.shape
  clear _hm0 _hf0
  by_cases hbig0 : 1048576 < z0.length
  · go_enter Try.func3, Try.ntmps3
    go_wp2
    go_ret
    exact ⟨rfl, Below.refl _ _⟩
  have hn0 : z0.length ≤ 1099511627776 := by omega
  have hx0 : ((watchV z0) != (watchV z0)) = false := by simp
  have bt : Below w.heap.size w w := Below.refl _ _
  go_enter Try.func3, Try.ntmps3
  have r0 := hr0
  have s_t0 := bt.size
  go_wp2_with fail
  refine (toIntS_any _ z0 _ r0 hn0).mono ?_
  rintro e w1 ⟨a_t0, c_t0, rfl, o_t0, b1⟩
  replace bt := bt.trans (b1.mono bt.size)
  replace r0 := hr0.below bt
  clear b1
  go_wp2_with fail
  refine (swatch_any _ z0 _ o_t0.row hn0).mono ?_
  rintro e w2 ⟨rfl, b2⟩
  replace bt := bt.trans (b2.mono bt.size)
  replace r0 := hr0.below bt
  replace o_t0 := o_t0.below b2
  clear b2
  clear o_t0 s_t0
  have s_x0 := bt.size
  go_wp2_with fail
  refine (toIntS_any _ z0 _ r0 hn0).mono ?_
  rintro e w3 ⟨a_x0, c_x0, rfl, o_x0, b3⟩
  replace bt := bt.trans (b3.mono bt.size)
  replace r0 := hr0.below bt
  clear b3
  go_wp2_with fail
  refine (iwatch_any _ z0 _ o_x0.row hn0).mono ?_
  rintro e w4 ⟨rfl, b4⟩
  replace bt := bt.trans (b4.mono bt.size)
  replace r0 := hr0.below bt
  replace o_x0 := o_x0.below b4
  clear b4
  have s_y0 := bt.size
  go_wp2_with fail
  have u_x0_y0 := fun k hk => (o_x0.lt k hk).2
  refine (toIntS_any _ z0 _ r0 hn0).mono ?_
  rintro e w5 ⟨a_y0, c_y0, rfl, o_y0, b5⟩
  replace bt := bt.trans (b5.mono bt.size)
  replace r0 := hr0.below bt
  replace o_x0 := o_x0.below b5
  clear b5
  go_wp2_with fail
  refine (calls_below (eqIntS_any _ _ z0 z0 _ o_x0.row o_y0.row hn0 hn0)).mono ?_
  rintro e w6 ⟨rfl, b6⟩
  replace bt := bt.trans (b6.mono bt.size)
  replace r0 := hr0.below bt
  replace o_x0 := o_x0.below b6
  replace o_y0 := o_y0.below b6
  clear b6
  clear o_y0 s_y0
  go_wp2
  go_ret
  exact ⟨rfl, bt⟩

end Go.Proofs.Ytlmigoplffdpiaa
