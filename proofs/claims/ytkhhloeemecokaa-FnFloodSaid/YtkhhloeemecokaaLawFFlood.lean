/- Walk of the law FnFlood: water parts two cells above their pass. -/
import Derived.Test.YtkhhloeemecokaaDPair2
import Derived.Test.YtkhhloeemecokaaIPFlood
import Derived.Test.YtkhhloeemecokaaSPFlood
import Derived.Test.YtkhhloeemecokaaIBet
namespace Go.Proofs.Ytkhhloeemecokaa
open Go.RowKit

set_option maxRecDepth 100000 in
set_option maxHeartbeats 2000000 in
theorem fnFlood_walk (w : World) (v0 : Value) (z0 : List Int) (hr0 : RowB w v0 z0) (_hm0 : z0.length ≤ maxLen) (hf0 : ∀ n ∈ z0, (Lit.int .u8 n).wf = true) :
    Calls Try.prog 3 #[v0] w fun e w' => e = .returned (.bool true) ∧ Below w.heap.size w w' := by
  have HDr := Lib.hid (dPeakFlood_any v0 z0 w hr0 hf0)
  obtain ⟨a0, cap0, rfl, -, -, -⟩ := hr0
  clear _hm0 hf0
  by_cases hbig : 1048576 < z0.length
  · go_enter Try.func3, Try.ntmps3
    go_wp2
    go_ret
    exact ⟨rfl, Below.refl _ _⟩
  go_enter Try.func3, Try.ntmps3
  have BT := Lib.hid (Below.refl w.heap.size w)
  go_wp2_with fail
  refine (HDr.out).mono ?_
  rintro e w1 ⟨g, a_g, c_g, n, x, y, rfl, hn, hs, hM, hb⟩
  replace BT := Lib.hid (BT.out.trans (hb.mono BT.out.size))
  have R_g := Lib.hid hM
  have HN := Lib.hid hn
  have HS := Lib.hid hs
  clear hM hn hs HDr
  clear hb
  have HL := Lib.hid (show g.length ≤ 1048576 from by have := HS.out.2.1; omega)
  have HT := Lib.hid HS.out.tot
  obtain ⟨p, hp⟩ : ∃ p, p = pbV g x y := ⟨_, rfl⟩
  have HI := Lib.hid (show ∀ wx, MRow wx (.slice a_g n c_g) g → Calls Try.prog 9 #[.slice a_g n c_g, .int .i64 x, .int .i64 y] wx (fun e w' => e = .returned (.int .i64 p) ∧ Below wx.heap.size wx w') from fun wx hr => by rw [hp]; exact ipflood_any _ g x y wx hr HL.out HT.out)
  have HJ := Lib.hid (show ∀ wx, MRow wx (.slice a_g n c_g) g → Calls Try.prog 10 #[.slice a_g n c_g, .int .i64 x, .int .i64 y] wx (fun e w' => e = .returned (.int .i64 p) ∧ Below wx.heap.size wx w') from fun wx hr => by rw [hp]; exact spflood_any _ g x y wx hr HL.out HT.out)
  have HB := Lib.hid (show ∀ wx, MRow wx (.slice a_g n c_g) g → Calls Try.prog 11 #[.slice a_g n c_g, .int .i64 x, .int .i64 y] wx (fun e w' => e = .returned (.int .i64 p) ∧ Below wx.heap.size wx w') from fun wx hr => by rw [hp]; exact ipbet_any _ g x y wx hr HL.out HT.out)
  clear hp
  by_cases hp0 : p < 0
  · skip
    go_wp2_with fail
    refine (HI.out _ R_g.out).mono ?_
    rintro e w2 ⟨rfl, hb⟩
    replace R_g := Lib.hid (R_g.out.below hb)
    replace BT := Lib.hid (BT.out.trans (hb.mono BT.out.size))
    clear hb
    go_wp2_with fail
    refine (HJ.out _ R_g.out).mono ?_
    rintro e w3 ⟨rfl, hb⟩
    replace R_g := Lib.hid (R_g.out.below hb)
    replace BT := Lib.hid (BT.out.trans (hb.mono BT.out.size))
    clear hb
    go_wp2
    go_ret
    exact ⟨rfl, BT.out⟩
  · skip
    go_wp2_with fail
    refine (HI.out _ R_g.out).mono ?_
    rintro e w4 ⟨rfl, hb⟩
    replace R_g := Lib.hid (R_g.out.below hb)
    replace BT := Lib.hid (BT.out.trans (hb.mono BT.out.size))
    clear hb
    go_wp2_with fail
    refine (HJ.out _ R_g.out).mono ?_
    rintro e w5 ⟨rfl, hb⟩
    replace R_g := Lib.hid (R_g.out.below hb)
    replace BT := Lib.hid (BT.out.trans (hb.mono BT.out.size))
    clear hb
    go_wp2_with fail
    refine (HB.out _ R_g.out).mono ?_
    rintro e w6 ⟨rfl, hb⟩
    replace R_g := Lib.hid (R_g.out.below hb)
    replace BT := Lib.hid (BT.out.trans (hb.mono BT.out.size))
    clear hb
    go_wp2
    go_ret
    exact ⟨rfl, BT.out⟩

end Go.Proofs.Ytkhhloeemecokaa
