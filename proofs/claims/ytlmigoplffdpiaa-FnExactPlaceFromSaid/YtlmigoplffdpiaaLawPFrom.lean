/- Walk of the law FnExactPlaceFrom: the program's PlaceFrom returns what the reference's returns, for all arguments. -/
import Derived.Test.YtlmigoplffdpiaaIPFrom
namespace Go.Proofs.Ytlmigoplffdpiaa
open Go.RowKit

set_option maxHeartbeats 1000000 in
theorem fnExactPlaceFrom_walk (w : World) (a0 : ByteArray) (_h0 : a0.size ≤ maxLen) :
    Calls Try.prog 6 #[.string a0] w fun e w' => e = .returned (.bool true) ∧ Below w.heap.size w w' := by
  obtain ⟨a, b, o, hv⟩ := pfrom_ex a0
  by_cases hbig : 1048576 < a0.size
  · have hb1 : (1048576 : Int) < (a0.size : Int) := by omega
    clear hv
    go_enter Try.func6, Try.ntmps6
    go_wp2
    go_ret
    exact ⟨rfl, Below.refl _ _⟩
  · have hb1 : ¬ (1048576 : Int) < (a0.size : Int) := by omega
    have HS := Lib.hid (fun wx => spfrom_any a0 a b o wx (by omega) hv)
    have HI := Lib.hid (fun wx => ipfrom_any a0 a b o wx (by omega) hv)
    clear _h0 hv
    have x1 : (a != a) = false := by simp
    have x2 : (b != b) = false := by simp
    have x3 : (o != o) = false := by simp
    go_enter Try.func6, Try.ntmps6
    go_wp2_with fail
    refine (HS.out _).mono ?_
    rintro e w1 ⟨rfl, hb⟩
    have HB := Lib.hid hb
    clear hb
    go_wp2_with fail
    refine (HI.out _).mono ?_
    rintro e w2 ⟨rfl, hb⟩
    have HB2 := Lib.hid (HB.out.trans (hb.mono HB.out.size))
    clear hb
    go_wp2
    go_ret
    exact ⟨rfl, HB2.out⟩

end Go.Proofs.Ytlmigoplffdpiaa
