/- Walk of the law FnExactPeakProminence: the program's PeakProminence returns what the reference's returns, for all arguments. -/
import Derived.Test.YtkhhloeemecokaaMatLaw
import Derived.Test.YtkhhloeemecokaaSPeak
import Derived.OpenShut
namespace Go.Proofs.Ytkhhloeemecokaa
open Go.RowKit
set_option linter.unusedVariables false

set_option maxRecDepth 100000 in
set_option maxHeartbeats 2000000 in
theorem fnExactPeakProminence_walk (w : World) (v0 : Value) (z0 : List (List Int)) (hr0 : MRow w v0 z0) (_hm0 : z0.length ≤ maxLen) (_hz0 : ∀ z ∈ z0, z.length ≤ maxLen) (a1 : Int) (_hw1 : (Lit.int .i64 a1).wf = true) :
    Calls Try.prog 7 #[v0, .int .i64 a1] w fun e w' => e = .returned (.bool true) ∧ Below w.heap.size w w' := by
  obtain ⟨a0, cap0, rfl⟩ := hr0.shape
  have HSz := Lib.hid (szIntSS_any _ z0 w hr0 _hm0 _hz0)
  clear _hm0 _hz0
  have hw1 := bounds_i64 _hw1
  obtain ⟨hl1, hu1⟩ := hw1
  clear _hw1
  have hx0 : ((promV z0 a1) != (promV z0 a1)) = false := by simp
  go_enter Try.func7, Try.ntmps7
  go_wp2_with fail
  refine HSz.out.mono ?_
  rintro e w0 ⟨⟨x, rfl, hx⟩, rfl⟩
  by_cases hneg : x < 0
  · go_wp2
    go_ret
    exact ⟨rfl, Below.refl _ _⟩
  obtain ⟨hn0, hm0⟩ : z0.length ≤ 1048576 ∧ tot z0 ≤ 1048576 := by have := hx.2.2 (by omega); omega
  clear hx HSz
  have bt : Below w.heap.size w w := Below.refl _ _
  have r0 := hr0
  have s_t := bt.size
  go_wp2_with fail
  refine (toIntSS_any _ z0 _ r0 hn0 hm0).mono ?_
  rintro e w1 ⟨a_t, c_t, rfl, o_t, b1⟩
  replace bt := bt.trans (b1.mono bt.size)
  replace r0 := hr0.below bt
  clear b1
  replace o_t := o_t.c
  go_wp2_with fail
  refine (speakProm_any _ z0 a1 _ o_t.m.mrow hn0 hm0).mono ?_
  rintro e w2 ⟨rfl, b2⟩
  replace bt := bt.trans (b2.mono bt.size)
  replace r0 := hr0.below bt
  replace o_t := o_t.below b2
  clear b2
  clear o_t s_t
  have s_x := bt.size
  go_wp2_with fail
  refine (toIntSS_any _ z0 _ r0 hn0 hm0).mono ?_
  rintro e w3 ⟨a_x, c_x, rfl, o_x, b3⟩
  replace bt := bt.trans (b3.mono bt.size)
  replace r0 := hr0.below bt
  clear b3
  replace o_x := o_x.c
  go_wp2_with fail
  refine (pprom_any _ z0 a1 _ o_x.m.mrow hn0 hm0).mono ?_
  rintro e w4 ⟨rfl, b4⟩
  replace bt := bt.trans (b4.mono bt.size)
  replace r0 := hr0.below bt
  replace o_x := o_x.below b4
  clear b4
  have s_y := bt.size
  go_wp2_with fail
  refine (toIntSS_any _ z0 _ r0 hn0 hm0).mono ?_
  rintro e w5 ⟨a_y, c_y, rfl, o_y, b5⟩
  replace bt := bt.trans (b5.mono bt.size)
  replace r0 := hr0.below bt
  replace o_x := o_x.below b5
  clear b5
  replace o_y := o_y.c
  go_wp2_with fail
  refine (eqIntSS_any _ _ z0 _ o_x.m.mrow o_y.m.mrow hn0 hm0).mono ?_
  rintro e w6 ⟨rfl, b6⟩
  replace bt := bt.trans (b6.mono bt.size)
  replace r0 := hr0.below bt
  replace o_x := o_x.below b6
  replace o_y := o_y.below b6
  clear b6
  clear o_y s_y
  go_wp2
  go_ret
  exact ⟨rfl, bt⟩

end Go.Proofs.Ytkhhloeemecokaa
