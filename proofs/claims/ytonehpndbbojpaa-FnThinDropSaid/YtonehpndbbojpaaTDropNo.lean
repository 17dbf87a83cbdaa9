/- ThinDrop of the reference at what is no thinned profile. -/
import Derived.Test.YtonehpndbbojpaaTDrop
namespace Go.Proofs.Ytonehpndbbojpaa
open Go.RowKit

set_option maxHeartbeats 400000 in
theorem stdrop_no (v u : Value) (p l : List Int) (k : Int) (w : World) (hr : Row w v p) (hn : p.length ≤ 1099511627776) (hs : Row w u l) (hm : l.length ≤ 1099511627776) (hv : thinB p l = false) :
    Calls Try.prog 35 #[v, u, .int .i64 k] w (GivesRowB (tdropL p l k) (tdropB p l k) w) := by
  have HV := Lib.hid (calls_below (sthinv_any v u p l w hr hn hs hm))
  have HB := Lib.hid (show tdropB p l k = false by simp [tdropB, hv])
  rw [hv] at HV
  clear hv
  rw [tdropL_no HB.out, HB.out]
  go_enter Try.func35, Try.ntmps35
  go_wp2_with (go_at_call 20; refine HV.out.mono ?_; rintro e w' ⟨rfl, hb⟩)
  go_ret2
  exact GivesRowB.of (Own.emptyLit _ _ hb.size) (Below.alloc hb hb.size _)

end Go.Proofs.Ytonehpndbbojpaa
