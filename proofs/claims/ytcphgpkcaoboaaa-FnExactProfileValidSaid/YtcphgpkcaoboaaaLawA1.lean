/- Walk of the law FnExactProfileValid. -/
import Derived.Test.YtcphgpkcaoboaaaBase
import Derived.Test.YtcphgpkcaoboaaaValid
namespace Go.Proofs.Ytcphgpkcaoboaaa
open Go.RowKit

theorem fnExactProfileValid_walk (w : World) (v : Value) (z : List Int) (hr : Row w v z) (_hm : z.length ≤ maxLen) (_hf : ∀ n ∈ z, (Lit.int .i64 n).wf = true) :
    Calls Try.prog 3 #[v] w fun e w' => e = .returned (.bool true) ∧ Below w.heap.size w w' := by
  obtain ⟨a, cap, rfl⟩ := hr.shape
  clear _hm _hf
  by_cases hbig : 1048576 < z.length
  · go_enter Try.func3, Try.ntmps3
    go_wp2
    go_ret
    exact ⟨rfl, Below.refl _ _⟩
  · have hn : z.length ≤ 1099511627776 := by omega
    have hx : (validB z != validB z) = false := by simp
    go_enter Try.func3, Try.ntmps3
    go_wp2_with fail
    refine (toIntS_any _ z _ hr hn).mono ?_
    rintro e w1 ⟨a1, c1, rfl, o1, b1⟩
    go_wp2_with fail
    refine (svalid_any _ z _ o1.row hn).mono ?_
    rintro e w' ⟨rfl, rfl⟩
    go_wp2_with fail
    refine (toIntS_any _ z _ (hr.below b1) hn).mono ?_
    rintro e w2 ⟨a2, c2, rfl, o2, b2⟩
    go_wp2_with fail
    refine (ivalid_any _ z _ o2.row hn).mono ?_
    rintro e w' ⟨rfl, rfl⟩
    go_wp2_with fail
    refine (toIntS_any _ z _ ((hr.below b1).below b2) hn).mono ?_
    rintro e w3 ⟨a3, c3, rfl, o3, b3⟩
    go_wp2_with fail
    refine (eqIntS_any _ _ z z _ (o2.below b3).row o3.row hn hn).mono ?_
    rintro e w' ⟨rfl, q, rfl⟩
    go_wp2
    go_ret
    exact ⟨rfl, below_drewN ((b1.trans (b2.mono b1.size)).trans (b3.mono (Nat.le_trans b1.size b2.size))) _⟩

end Go.Proofs.Ytcphgpkcaoboaaa
