/- Contracts of the draws of a profile and points. -/
import Derived.Test.YtbehpooapnjpeaaDDraw
import Derived.Test.YtbehpooapnjpeaaDProf
namespace Go.Proofs.Ytbehpooapnjpeaa
open Go.RowKit

/-- A profile and two numbers. -/
def GivesPII (w : World) (e : Ending) (w' : World) : Prop :=
  ∃ ps av cv x y, e = .returned (.tuple #[.slice av ps.length cv, .int .i64 x, .int .i64 y]) ∧ ps.length ≤ 9 ∧ Row w' (.slice av ps.length cv) ps ∧ -1 ≤ x ∧ x ≤ 9 ∧ -1 ≤ y ∧ y ≤ 9 ∧ Below w.heap.size w w'
theorem GivesPII.of {w w' : World} {ps : List Int} {av : Option Addr} {cv n : Nat} (hn : n = ps.length) (h1 : n ≤ 9) (h3 : Own w' w.heap.size (.slice av n cv) ps) {x y : Int} (hx : -1 ≤ x) (hy : x ≤ 9) (hx' : -1 ≤ y) (hy' : y ≤ 9) (h6 : Below w.heap.size w w') : GivesPII w (.returned (.tuple #[.slice av n cv, .int .i64 x, .int .i64 y])) w' := by
  subst hn; exact ⟨ps, av, cv, x, y, rfl, h1, h3.row, hx, hy, hx', hy', h6⟩
theorem GivesP.of {w w' : World} {ps : List Int} {av : Option Addr} {cv n : Nat} (hn : n = ps.length) (h1 : n ≤ 40) (h3 : Own w' w.heap.size (.slice av n cv) ps) (h6 : Below w.heap.size w w') : GivesP w (.returned (.slice av n cv)) w' := by
  subst hn; exact ⟨ps, av, cv, rfl, h1, h3, h6⟩

set_option maxHeartbeats 1000000 in
theorem dProfileSees_any (v : Value) (zs : List Int) (w : World) (hr : RowB w v zs) (hf : ∀ n ∈ zs, (Lit.int .u8 n).wf = true) :
    Calls Try.prog 21 #[v] w (GivesPII w) := by
  have HO := Lib.hid (open_any v zs w hr hf)
  clear hr hf
  go_enter Try.func21, Try.ntmps21
  go_wp2_with fail
  refine HO.out.mono ?_
  rintro e w1 ⟨a, m, cap, hm, hb, rfl, hrd⟩
  have HB := Lib.hid hb
  have hs := hrd.2.2.size
  have D1 := Lib.hid (Drawn.refl hrd)
  clear hb hrd HO
  go_wp2_with fail
  refine (prof_any w a m cap w.heap.size 0 9 w1 _ HB.out hm D1.out (by omega) (by omega) (by omega)).mono ?_
  rintro e w2 ⟨ps1, av1, cv1, rfl, hl1, ho, hd⟩
  have hsz1 := D1.out.size
  have D2 := Lib.hid (D1.out.trans hd)
  clear hd D1
  have O1 := Lib.hid (ho.mono (Nat.le_trans hs hsz1))
  clear ho
  obtain ⟨n1, hN⟩ : ∃ n, n = ps1.length := ⟨_, rfl⟩
  rw [← hN] at O1 hl1 ⊢
  have HN1 := Lib.hid hN
  clear hN
  go_wp2_with fail
  refine (at_any w a m cap w.heap.size 50 n1 w1 _ HB.out hm D2.out (by omega) (by omega)).mono ?_
  rintro e w3 ⟨x2, hx2, hy2, rfl, hd⟩
  replace O1 := Lib.hid (O1.out.over D2.out hd)
  have hsz2 := D2.out.size
  have D3 := Lib.hid (D2.out.trans hd)
  clear hd D2
  go_wp2_with fail
  refine (at_any w a m cap w.heap.size 60 n1 w1 _ HB.out hm D3.out (by omega) (by omega)).mono ?_
  rintro e w4 ⟨x3, hx3, hy3, rfl, hd⟩
  replace O1 := Lib.hid (O1.out.over D3.out hd)
  have hsz3 := D3.out.size
  have D4 := Lib.hid (D3.out.trans hd)
  clear hd D3
  go_wp2
  go_ret3
  exact GivesPII.of HN1.out (by omega) O1.out (by omega) (by omega) (by omega) (by omega) D4.out.bel
theorem dProfileEye_any (v : Value) (zs : List Int) (w : World) (hr : RowB w v zs) (hf : ∀ n ∈ zs, (Lit.int .u8 n).wf = true) :
    Calls Try.prog 24 #[v] w (GivesPII w) := by
  have HO := Lib.hid (dProfileSees_any v zs w hr hf)
  clear hr hf
  go_enter Try.func24, Try.ntmps24
  go_wp2_with fail
  refine HO.out.mono ?_
  rintro e w1 ⟨ps, av, cv, x, y, rfl, hl, hr, h1, h2, h3, h4, hb⟩
  obtain ⟨n, hN⟩ : ∃ n, n = ps.length := ⟨_, rfl⟩
  rw [← hN] at hr hl ⊢
  have HN := Lib.hid hN
  have HR := Lib.hid hr
  clear hN hr HO
  go_wp2
  go_ret3
  have h := HN.out
  subst h
  exact ⟨ps, av, cv, x, y, rfl, hl, HR.out, h1, h2, h3, h4, hb⟩

set_option maxHeartbeats 1000000 in
theorem dProfileSeen_any (v : Value) (zs : List Int) (w : World) (hr : RowB w v zs) (hf : ∀ n ∈ zs, (Lit.int .u8 n).wf = true) :
    Calls Try.prog 32 #[v] w (GivesPN (-1) 9 w) := by
  have HO := Lib.hid (open_any v zs w hr hf)
  clear hr hf
  go_enter Try.func32, Try.ntmps32
  go_wp2_with fail
  refine HO.out.mono ?_
  rintro e w1 ⟨a, m, cap, hm, hb, rfl, hrd⟩
  have HB := Lib.hid hb
  have hs := hrd.2.2.size
  have D1 := Lib.hid (Drawn.refl hrd)
  clear hb hrd HO
  go_wp2_with fail
  refine (prof_any w a m cap w.heap.size 0 9 w1 _ HB.out hm D1.out (by omega) (by omega) (by omega)).mono ?_
  rintro e w2 ⟨ps1, av1, cv1, rfl, hl1, ho, hd⟩
  have hsz1 := D1.out.size
  have D2 := Lib.hid (D1.out.trans hd)
  clear hd D1
  have O1 := Lib.hid (ho.mono (Nat.le_trans hs hsz1))
  clear ho
  obtain ⟨n1, hN⟩ : ∃ n, n = ps1.length := ⟨_, rfl⟩
  rw [← hN] at O1 hl1 ⊢
  have HN1 := Lib.hid hN
  clear hN
  go_wp2_with fail
  refine (at_any w a m cap w.heap.size 50 n1 w1 _ HB.out hm D2.out (by omega) (by omega)).mono ?_
  rintro e w3 ⟨x2, hx2, hy2, rfl, hd⟩
  replace O1 := Lib.hid (O1.out.over D2.out hd)
  have hsz2 := D2.out.size
  have D3 := Lib.hid (D2.out.trans hd)
  clear hd D2
  go_wp2
  go_ret2
  exact GivesPN.of HN1.out (by omega) O1.out (by omega) (by omega) D3.out.bel
set_option maxHeartbeats 1000000 in
theorem dProfileTilt_any (v : Value) (zs : List Int) (w : World) (hr : RowB w v zs) (hf : ∀ n ∈ zs, (Lit.int .u8 n).wf = true) :
    Calls Try.prog 38 #[v] w (GivesPN (-11) 11 w) := by
  have HO := Lib.hid (open_any v zs w hr hf)
  clear hr hf
  go_enter Try.func38, Try.ntmps38
  go_wp2_with fail
  refine HO.out.mono ?_
  rintro e w1 ⟨a, m, cap, hm, hb, rfl, hrd⟩
  have HB := Lib.hid hb
  have hs := hrd.2.2.size
  have D1 := Lib.hid (Drawn.refl hrd)
  clear hb hrd HO
  go_wp2_with fail
  refine (prof_any w a m cap w.heap.size 0 8 w1 _ HB.out hm D1.out (by omega) (by omega) (by omega)).mono ?_
  rintro e w2 ⟨ps1, av1, cv1, rfl, hl1, ho, hd⟩
  have hsz1 := D1.out.size
  have D2 := Lib.hid (D1.out.trans hd)
  clear hd D1
  have O1 := Lib.hid (ho.mono (Nat.le_trans hs hsz1))
  clear ho
  obtain ⟨n1, hN⟩ : ∃ n, n = ps1.length := ⟨_, rfl⟩
  rw [← hN] at O1 hl1 ⊢
  have HN1 := Lib.hid hN
  clear hN
  go_wp2_with fail
  refine (pickD w a m cap w.heap.size 50 23 w1 _ HB.out hm D2.out (by omega) (by omega) (by omega)).mono ?_
  rintro e w3 ⟨c2, hc2, rfl, hd⟩
  replace O1 := Lib.hid (O1.out.over D2.out hd)
  have hsz2 := D2.out.size
  have D3 := Lib.hid (D2.out.trans hd)
  clear hd D2
  go_wp2
  go_ret2
  exact GivesPN.of HN1.out (by omega) O1.out (by omega) (by omega) D3.out.bel
set_option maxHeartbeats 1000000 in
theorem dProfileWatch_any (v : Value) (zs : List Int) (w : World) (hr : RowB w v zs) (hf : ∀ n ∈ zs, (Lit.int .u8 n).wf = true) :
    Calls Try.prog 45 #[v] w (GivesP w) := by
  have HO := Lib.hid (open_any v zs w hr hf)
  clear hr hf
  go_enter Try.func45, Try.ntmps45
  go_wp2_with fail
  refine HO.out.mono ?_
  rintro e w1 ⟨a, m, cap, hm, hb, rfl, hrd⟩
  have HB := Lib.hid hb
  have hs := hrd.2.2.size
  have D1 := Lib.hid (Drawn.refl hrd)
  clear hb hrd HO
  go_wp2_with fail
  refine (pickD w a m cap w.heap.size 0 16 w1 _ HB.out hm D1.out (by omega) (by omega) (by omega)).mono ?_
  rintro e w2 ⟨c1, hc1, rfl, hd⟩
  have hsz1 := D1.out.size
  have D2 := Lib.hid (D1.out.trans hd)
  clear hd D1
  by_cases h0 : c1 = 0
  · have e1 : ((c1 : Int) == 0) = true := by simp; omega
    clear h0
    go_wp2_with fail
    refine (prof_any w a m cap w.heap.size 1 16 w1 _ HB.out hm D2.out (by omega) (by omega) (by omega)).mono ?_
    rintro e w3 ⟨ps, av, cv, rfl, hl, ho, hd⟩
    have hsz := D2.out.size
    have D3 := Lib.hid (D2.out.trans hd)
    have O := Lib.hid (ho.mono (Nat.le_trans hs hsz))
    obtain ⟨n, hN⟩ : ∃ n, n = ps.length := ⟨_, rfl⟩
    rw [← hN] at O hl ⊢
    have HN := Lib.hid hN
    clear hN ho hd
    go_wp2
    go_ret
    exact GivesP.of HN.out (by omega) O.out D3.out.bel
  · have e1 : ((c1 : Int) == 0) = false := by simp; omega
    clear h0
    go_wp2_with fail
    refine (prof_any w a m cap w.heap.size 1 9 w1 _ HB.out hm D2.out (by omega) (by omega) (by omega)).mono ?_
    rintro e w3 ⟨ps, av, cv, rfl, hl, ho, hd⟩
    have hsz := D2.out.size
    have D3 := Lib.hid (D2.out.trans hd)
    have O := Lib.hid (ho.mono (Nat.le_trans hs hsz))
    obtain ⟨n, hN⟩ : ∃ n, n = ps.length := ⟨_, rfl⟩
    rw [← hN] at O hl ⊢
    have HN := Lib.hid hN
    clear hN ho hd
    go_wp2
    go_ret
    exact GivesP.of HN.out (by omega) O.out D3.out.bel
end Go.Proofs.Ytbehpooapnjpeaa
