/- Contracts of the draws of thinned profiles. -/
import Derived.Test.YtonehpndbbojpaaDThin
namespace Go.Proofs.Ytonehpndbbojpaa
open Go.RowKit

theorem Own.lit3 (w : World) (B : Nat) (x y z : Int) (hB : B ≤ w.heap.size) : Own (w.alloc (.cells #[.int .i64 x, .int .i64 y, .int .i64 z] 3)) B (.slice (some ⟨w.heap.size, 0, none⟩) 3 3) [x, y, z] :=
  World.ownsRow_lit (e := 3) (size := 1) w #[.int .i64 x, .int .i64 y, .int .i64 z] 3 hB (by decide) rfl

/-- A profile and points. -/
def GivesT (w : World) (e : Ending) (w' : World) : Prop :=
  ∃ ps ls av cv al cl, e = .returned (.tuple #[.slice av ps.length cv, .slice al ls.length cl]) ∧ ps.length ≤ 8 ∧ ls.length ≤ 8 ∧ Row w' (.slice av ps.length cv) ps ∧ Row w' (.slice al ls.length cl) ls ∧
    (thinB ps ls = true → Own w' w.heap.size (.slice al ls.length cl) ls) ∧ Below w.heap.size w w'
theorem GivesT.of {w w' : World} {ps ls : List Int} {av al : Option Addr} {cv cl n k : Nat} (hn : n = ps.length) (hk : k = ls.length) (h1 : n ≤ 8) (h2 : k ≤ 8) (h3 : Own w' w.heap.size (.slice av n cv) ps) {B : Nat} (h4 : Sub w' B (.slice al k cl) ls)
    (h5 : thinB ps ls = true → Own w' w.heap.size (.slice al k cl) ls) (h6 : Below w.heap.size w w') : GivesT w (.returned (.tuple #[.slice av n cv, .slice al k cl])) w' := by
  subst hn hk; exact ⟨ps, ls, av, cv, al, cl, rfl, h1, h2, h3.row, h4.row, h5, h6⟩
/-- A profile, points and a number. -/
def GivesTN (lo hi : Int) (w : World) (e : Ending) (w' : World) : Prop :=
  ∃ ps ls av cv al cl x, e = .returned (.tuple #[.slice av ps.length cv, .slice al ls.length cl, .int .i64 x]) ∧ ps.length ≤ 8 ∧ ls.length ≤ 8 ∧ Row w' (.slice av ps.length cv) ps ∧ Row w' (.slice al ls.length cl) ls ∧
    (thinB ps ls = true → Own w' w.heap.size (.slice al ls.length cl) ls) ∧ lo ≤ x ∧ x ≤ hi ∧ Below w.heap.size w w'
theorem GivesTN.of {w w' : World} {lo hi : Int} {ps ls : List Int} {av al : Option Addr} {cv cl n k : Nat} (hn : n = ps.length) (hk : k = ls.length) (h1 : n ≤ 8) (h2 : k ≤ 8) (h3 : Own w' w.heap.size (.slice av n cv) ps) {B : Nat} (h4 : Sub w' B (.slice al k cl) ls)
    (h5 : thinB ps ls = true → Own w' w.heap.size (.slice al k cl) ls) {x : Int} (hx : lo ≤ x) (hy : x ≤ hi) (h6 : Below w.heap.size w w') : GivesTN lo hi w (.returned (.tuple #[.slice av n cv, .slice al k cl, .int .i64 x])) w' := by
  subst hn hk; exact ⟨ps, ls, av, cv, al, cl, x, rfl, h1, h2, h3.row, h4.row, h5, hx, hy, h6⟩

set_option maxHeartbeats 1000000 in
theorem err_any (w0 : World) (a : Option Addr) (m cap R q : Nat) (w1 w : World) (hb : Bytes w0 a m) (hm : m ≤ 2000) (hr : Drawn w0 a m cap R w1 q w) (hq : q ≤ 10000) :
    Calls Try.prog 66 #[.pointer (some ⟨R, 0, none⟩)] w (GivesNum w0 a m cap R q (-1) 100 w) := by
  have HD0 := Lib.hid (show Drawn w0 a m cap R w q w from by obtain ⟨h0, ⟨q', h1, h2⟩, h3⟩ := hr; exact (Drawn.refl h2).more h1)
  have HB := Lib.hid hb
  clear hr hb
  go_enter Try.func66, Try.ntmps66
  go_wp2_with fail
  refine (pickD w0 a m cap R q 20 w _ HB.out hm HD0.out (by omega) (by omega) (by omega)).mono ?_
  rintro e w2 ⟨d, hdd, rfl, hd2⟩
  have HD2 := Lib.hid (HD0.out.trans hd2)
  clear hd2
  by_cases d0 : d = 0
  · have b0 : ((d : Int) == 0) = true := by simp; omega
    clear d0
    have HD7 := Lib.hid (HD2.out.alloc (.cells #[.int .i64 (-1), .int .i64 99, .int .i64 100] 3))
    have HL7 := Lib.hid (Own.lit3 w2 w.heap.size (-1) 99 100 HD2.out.size)
    go_wp2_with fail
    refine (pickD w0 a m cap R (q + 1) 3 w _ HB.out hm HD7.out (by omega) (by omega) (by omega)).mono ?_
    rintro e w8 ⟨d2, hdd2, rfl, hd8⟩
    have HD8 := Lib.hid (HD7.out.trans hd8)
    have HL8 := Lib.hid (HL7.out.over HD7.out hd8)
    clear hd8 HD7 HL7
    have hd3 : d2 = 0 ∨ d2 = 1 ∨ d2 = 2 := by omega
    rcases hd3 with rfl | rfl | rfl
    · have t0 : w8.cell? ⟨w2.heap.size, 0, none⟩ = some (.int .i64 (-1)) := HL8.out.cellAt 0 (by omega)
      go_wp2
      go_ret
      exact ⟨-1, by omega, by omega, rfl, HD8.out.more (by omega)⟩
    · have t0 : w8.cell? ⟨w2.heap.size, 1, none⟩ = some (.int .i64 99) := HL8.out.cellAt 1 (by omega)
      go_wp2
      go_ret
      exact ⟨99, by omega, by omega, rfl, HD8.out.more (by omega)⟩
    · have t0 : w8.cell? ⟨w2.heap.size, 2, none⟩ = some (.int .i64 100) := HL8.out.cellAt 2 (by omega)
      go_wp2
      go_ret
      exact ⟨100, by omega, by omega, rfl, HD8.out.more (by omega)⟩
  · have b0 : ((d : Int) == 0) = false := by simp; omega
    go_wp2_with fail
    refine (pickD w0 a m cap R (q + 1) 7 w _ HB.out hm HD2.out (by omega) (by omega) (by omega)).mono ?_
    rintro e w8 ⟨d2, hdd2, rfl, hd8⟩
    go_wp2
    go_ret
    exact ⟨d2, by omega, by omega, rfl, (HD2.out.trans hd8).more (by omega)⟩

set_option maxHeartbeats 1000000 in
theorem dThinValid_any (v : Value) (zs : List Int) (w : World) (hr : RowB w v zs) (hf : ∀ n ∈ zs, (Lit.int .u8 n).wf = true) :
    Calls Try.prog 19 #[v] w (GivesT w) := by
  have HO := Lib.hid (open_any v zs w hr hf)
  clear hr hf
  go_enter Try.func19, Try.ntmps19
  go_wp2_with fail
  refine HO.out.mono ?_
  rintro e w1 ⟨a, m, cap, hm, hb, rfl, hrd⟩
  have HB := Lib.hid hb
  have hs := hrd.2.2.size
  have D1 := Lib.hid (Drawn.refl hrd)
  clear hb hrd HO
  go_wp2_with fail
  refine (thin_any w a m cap w.heap.size 0 w1 _ HB.out hm D1.out (by omega)).mono ?_
  rintro e w2 ⟨ps1, ls1, av1, cv1, al1, cl1, rfl, hl1, hk1, ho, ⟨B1, hB1, hsu⟩, hi, hd⟩
  have hsz1 := D1.out.size
  have D2 := Lib.hid (D1.out.trans hd)
  clear hd D1
  have O1 := Lib.hid (ho.mono (Nat.le_trans hs hsz1))
  clear ho
  have S1 := Lib.hid hsu
  have I1 := Lib.hid (fun h => (hi h).mono (Nat.le_trans hs hsz1))
  clear hsu hi
  obtain ⟨n1, hN⟩ : ∃ n, n = ps1.length := ⟨_, rfl⟩
  rw [← hN] at O1 hl1 ⊢
  have HN1 := Lib.hid hN
  clear hN
  obtain ⟨m1, hN⟩ : ∃ n, n = ls1.length := ⟨_, rfl⟩
  rw [← hN] at S1 I1 hk1 ⊢
  have HM1 := Lib.hid hN
  clear hN
  go_wp2
  go_ret2
  exact GivesT.of HN1.out HM1.out hl1 hk1 O1.out S1.out I1.out D2.out.bel
set_option maxHeartbeats 1000000 in
theorem dThinError_any (v : Value) (zs : List Int) (w : World) (hr : RowB w v zs) (hf : ∀ n ∈ zs, (Lit.int .u8 n).wf = true) :
    Calls Try.prog 27 #[v] w (GivesT w) := by
  have HO := Lib.hid (open_any v zs w hr hf)
  clear hr hf
  go_enter Try.func27, Try.ntmps27
  go_wp2_with fail
  refine HO.out.mono ?_
  rintro e w1 ⟨a, m, cap, hm, hb, rfl, hrd⟩
  have HB := Lib.hid hb
  have hs := hrd.2.2.size
  have D1 := Lib.hid (Drawn.refl hrd)
  clear hb hrd HO
  go_wp2_with fail
  refine (thin_any w a m cap w.heap.size 0 w1 _ HB.out hm D1.out (by omega)).mono ?_
  rintro e w2 ⟨ps1, ls1, av1, cv1, al1, cl1, rfl, hl1, hk1, ho, ⟨B1, hB1, hsu⟩, hi, hd⟩
  have hsz1 := D1.out.size
  have D2 := Lib.hid (D1.out.trans hd)
  clear hd D1
  have O1 := Lib.hid (ho.mono (Nat.le_trans hs hsz1))
  clear ho
  have S1 := Lib.hid hsu
  have I1 := Lib.hid (fun h => (hi h).mono (Nat.le_trans hs hsz1))
  clear hsu hi
  obtain ⟨n1, hN⟩ : ∃ n, n = ps1.length := ⟨_, rfl⟩
  rw [← hN] at O1 hl1 ⊢
  have HN1 := Lib.hid hN
  clear hN
  obtain ⟨m1, hN⟩ : ∃ n, n = ls1.length := ⟨_, rfl⟩
  rw [← hN] at S1 I1 hk1 ⊢
  have HM1 := Lib.hid hN
  clear hN
  go_wp2
  go_ret2
  exact GivesT.of HN1.out HM1.out hl1 hk1 O1.out S1.out I1.out D2.out.bel
set_option maxHeartbeats 1000000 in
theorem dThinProfile_any (v : Value) (zs : List Int) (w : World) (hr : RowB w v zs) (hf : ∀ n ∈ zs, (Lit.int .u8 n).wf = true) :
    Calls Try.prog 23 #[v] w (GivesT w) := by
  have HO := Lib.hid (open_any v zs w hr hf)
  clear hr hf
  go_enter Try.func23, Try.ntmps23
  go_wp2_with fail
  refine HO.out.mono ?_
  rintro e w1 ⟨a, m, cap, hm, hb, rfl, hrd⟩
  have HB := Lib.hid hb
  have hs := hrd.2.2.size
  have D1 := Lib.hid (Drawn.refl hrd)
  clear hb hrd HO
  go_wp2_with fail
  refine (thin_any w a m cap w.heap.size 0 w1 _ HB.out hm D1.out (by omega)).mono ?_
  rintro e w2 ⟨ps1, ls1, av1, cv1, al1, cl1, rfl, hl1, hk1, ho, ⟨B1, hB1, hsu⟩, hi, hd⟩
  have hsz1 := D1.out.size
  have D2 := Lib.hid (D1.out.trans hd)
  clear hd D1
  have O1 := Lib.hid (ho.mono (Nat.le_trans hs hsz1))
  clear ho
  have S1 := Lib.hid hsu
  have I1 := Lib.hid (fun h => (hi h).mono (Nat.le_trans hs hsz1))
  clear hsu hi
  obtain ⟨n1, hN⟩ : ∃ n, n = ps1.length := ⟨_, rfl⟩
  rw [← hN] at O1 hl1 ⊢
  have HN1 := Lib.hid hN
  clear hN
  obtain ⟨m1, hN⟩ : ∃ n, n = ls1.length := ⟨_, rfl⟩
  rw [← hN] at S1 I1 hk1 ⊢
  have HM1 := Lib.hid hN
  clear hN
  go_wp2
  go_ret2
  exact GivesT.of HN1.out HM1.out hl1 hk1 O1.out S1.out I1.out D2.out.bel
set_option maxHeartbeats 1000000 in
theorem dThinKeeps_any (v : Value) (zs : List Int) (w : World) (hr : RowB w v zs) (hf : ∀ n ∈ zs, (Lit.int .u8 n).wf = true) :
    Calls Try.prog 42 #[v] w (GivesTN (-1) 100 w) := by
  have HO := Lib.hid (open_any v zs w hr hf)
  clear hr hf
  go_enter Try.func42, Try.ntmps42
  go_wp2_with fail
  refine HO.out.mono ?_
  rintro e w1 ⟨a, m, cap, hm, hb, rfl, hrd⟩
  have HB := Lib.hid hb
  have hs := hrd.2.2.size
  have D1 := Lib.hid (Drawn.refl hrd)
  clear hb hrd HO
  go_wp2_with fail
  refine (thin_any w a m cap w.heap.size 0 w1 _ HB.out hm D1.out (by omega)).mono ?_
  rintro e w2 ⟨ps1, ls1, av1, cv1, al1, cl1, rfl, hl1, hk1, ho, ⟨B1, hB1, hsu⟩, hi, hd⟩
  have hsz1 := D1.out.size
  have D2 := Lib.hid (D1.out.trans hd)
  clear hd D1
  have O1 := Lib.hid (ho.mono (Nat.le_trans hs hsz1))
  clear ho
  have S1 := Lib.hid hsu
  have I1 := Lib.hid (fun h => (hi h).mono (Nat.le_trans hs hsz1))
  clear hsu hi
  obtain ⟨n1, hN⟩ : ∃ n, n = ps1.length := ⟨_, rfl⟩
  rw [← hN] at O1 hl1 ⊢
  have HN1 := Lib.hid hN
  clear hN
  obtain ⟨m1, hN⟩ : ∃ n, n = ls1.length := ⟨_, rfl⟩
  rw [← hN] at S1 I1 hk1 ⊢
  have HM1 := Lib.hid hN
  clear hN
  go_wp2_with fail
  refine (err_any w a m cap w.heap.size 100 w1 _ HB.out hm D2.out (by omega)).mono ?_
  rintro e w3 ⟨x2, hx2, hy2, rfl, hd⟩
  replace O1 := Lib.hid (O1.out.over D2.out hd)
  replace S1 := Lib.hid (S1.out.over D2.out hd)
  replace I1 := Lib.hid (fun h => (I1.out h).over D2.out hd)
  have hsz2 := D2.out.size
  have D3 := Lib.hid (D2.out.trans hd)
  clear hd D2
  go_wp2
  go_ret3
  exact GivesTN.of HN1.out HM1.out hl1 hk1 O1.out S1.out I1.out (by omega) (by omega) D3.out.bel
set_option maxHeartbeats 1000000 in
theorem dThinDrop_any (v : Value) (zs : List Int) (w : World) (hr : RowB w v zs) (hf : ∀ n ∈ zs, (Lit.int .u8 n).wf = true) :
    Calls Try.prog 33 #[v] w (GivesTN (-1) 8 w) := by
  have HO := Lib.hid (open_any v zs w hr hf)
  clear hr hf
  go_enter Try.func33, Try.ntmps33
  go_wp2_with fail
  refine HO.out.mono ?_
  rintro e w1 ⟨a, m, cap, hm, hb, rfl, hrd⟩
  have HB := Lib.hid hb
  have hs := hrd.2.2.size
  have D1 := Lib.hid (Drawn.refl hrd)
  clear hb hrd HO
  go_wp2_with fail
  refine (thin_any w a m cap w.heap.size 0 w1 _ HB.out hm D1.out (by omega)).mono ?_
  rintro e w2 ⟨ps1, ls1, av1, cv1, al1, cl1, rfl, hl1, hk1, ho, ⟨B1, hB1, hsu⟩, hi, hd⟩
  have hsz1 := D1.out.size
  have D2 := Lib.hid (D1.out.trans hd)
  clear hd D1
  have O1 := Lib.hid (ho.mono (Nat.le_trans hs hsz1))
  clear ho
  have S1 := Lib.hid hsu
  have I1 := Lib.hid (fun h => (hi h).mono (Nat.le_trans hs hsz1))
  clear hsu hi
  obtain ⟨n1, hN⟩ : ∃ n, n = ps1.length := ⟨_, rfl⟩
  rw [← hN] at O1 hl1 ⊢
  have HN1 := Lib.hid hN
  clear hN
  obtain ⟨m1, hN⟩ : ∃ n, n = ls1.length := ⟨_, rfl⟩
  rw [← hN] at S1 I1 hk1 ⊢
  have HM1 := Lib.hid hN
  clear hN
  go_wp2_with fail
  refine (pickD w a m cap w.heap.size 100 ((m1 : Int) + 1) w1 _ HB.out hm D2.out (by omega) (by omega) (by omega)).mono ?_
  rintro e w3 ⟨c2, hc2, rfl, hd⟩
  replace O1 := Lib.hid (O1.out.over D2.out hd)
  replace S1 := Lib.hid (S1.out.over D2.out hd)
  replace I1 := Lib.hid (fun h => (I1.out h).over D2.out hd)
  have hsz2 := D2.out.size
  have D3 := Lib.hid (D2.out.trans hd)
  clear hd D2
  go_wp2_with fail
  refine (pickD w a m cap w.heap.size 101 12 w1 _ HB.out hm D3.out (by omega) (by omega) (by omega)).mono ?_
  rintro e w4 ⟨c3, hc3, rfl, hd⟩
  replace O1 := Lib.hid (O1.out.over D3.out hd)
  replace S1 := Lib.hid (S1.out.over D3.out hd)
  replace I1 := Lib.hid (fun h => (I1.out h).over D3.out hd)
  have hsz3 := D3.out.size
  have D4 := Lib.hid (D3.out.trans hd)
  clear hd D3
  go_wp2
  go_ret3
  exact GivesTN.of HN1.out HM1.out hl1 hk1 O1.out S1.out I1.out (by omega) (by omega) D4.out.bel
/-- A profile and a number. -/
def GivesPN (lo hi : Int) (w : World) (e : Ending) (w' : World) : Prop :=
  ∃ ps av cv x, e = .returned (.tuple #[.slice av ps.length cv, .int .i64 x]) ∧ ps.length ≤ 9 ∧ Row w' (.slice av ps.length cv) ps ∧ lo ≤ x ∧ x ≤ hi ∧ Below w.heap.size w w'
theorem GivesPN.of {w w' : World} {lo hi : Int} {ps : List Int} {av : Option Addr} {cv n : Nat} (hn : n = ps.length) (h1 : n ≤ 9) (h3 : Own w' w.heap.size (.slice av n cv) ps) {x : Int} (hx : lo ≤ x) (hy : x ≤ hi) (h6 : Below w.heap.size w w') : GivesPN lo hi w (.returned (.tuple #[.slice av n cv, .int .i64 x])) w' := by
  subst hn; exact ⟨ps, av, cv, x, rfl, h1, h3.row, hx, hy, h6⟩
/-- What l92Line gives. -/
def GivesDLine (w0 : World) (a : Option Addr) (m cap R : Nat) (q : Nat) (w : World) (e : Ending) (w' : World) : Prop :=
  ∃ zs av cv x, e = .returned (.tuple #[.slice av zs.length cv, .int .i64 x]) ∧ zs.length ≤ 9 ∧ Own w' w.heap.size (.slice av zs.length cv) zs ∧ -1 ≤ x ∧ x ≤ 100 ∧ Drawn w0 a m cap R w (q + 60) w'
theorem line_any (w0 : World) (a : Option Addr) (m cap R q : Nat) (w1 w : World) (hb : Bytes w0 a m) (hm : m ≤ 2000) (hr : Drawn w0 a m cap R w1 q w) (hq : q ≤ 9000) :
    Calls Try.prog 62 #[.pointer (some ⟨R, 0, none⟩)] w (GivesDLine w0 a m cap R q w) := by
  have HB := Lib.hid hb
  have HP := Lib.hid (prof_any w0 a m cap R q 9 w1 w hb hm hr (by omega) (by omega) (by omega))
  clear hr hb
  go_enter Try.func62, Try.ntmps62
  go_wp2_with fail
  refine HP.out.mono ?_
  rintro e w2 ⟨ps, av, cv, rfl, hl, ho, hd⟩
  have HE := Lib.hid (err_any w0 a m cap R (q + 50) w w2 HB.out hm hd (by omega))
  have HD := Lib.hid hd
  have HW := Lib.hid ho
  clear hd ho HP
  obtain ⟨n, hN⟩ : ∃ n, n = ps.length := ⟨_, rfl⟩
  rw [← hN] at hl HW ⊢
  have HN := Lib.hid hN
  clear hN
  go_wp2_with fail
  refine HE.out.mono ?_
  rintro e w3 ⟨x, hx, hy, rfl, hd⟩
  have HD3 := Lib.hid (HD.out.trans hd)
  have HW3 := Lib.hid (HW.out.over HD.out hd)
  clear hd HE
  go_wp2
  go_ret2
  have h := HN.out
  subst h
  exact ⟨ps, av, cv, x, rfl, hl, HW3.out, hx, hy, HD3.out⟩

set_option maxHeartbeats 1000000 in
theorem dThinFewest_any (v : Value) (zs : List Int) (w : World) (hr : RowB w v zs) (hf : ∀ n ∈ zs, (Lit.int .u8 n).wf = true) :
    Calls Try.prog 36 #[v] w (GivesPN (-1) 100 w) := by
  have HO := Lib.hid (open_any v zs w hr hf)
  clear hr hf
  go_enter Try.func36, Try.ntmps36
  go_wp2_with fail
  refine HO.out.mono ?_
  rintro e w1 ⟨a, m, cap, hm, hb, rfl, hrd⟩
  have HB := Lib.hid hb
  have hs := hrd.2.2.size
  have D1 := Lib.hid (Drawn.refl hrd)
  clear hb hrd HO
  go_wp2_with fail
  refine (line_any w a m cap w.heap.size 0 w1 _ HB.out hm D1.out (by omega)).mono ?_
  rintro e w2 ⟨ps1, av1, cv1, x1, rfl, hl1, ho, hx1, hy1, hd⟩
  have hsz1 := D1.out.size
  have D2 := Lib.hid (D1.out.trans hd)
  clear hd D1
  have O1 := Lib.hid (ho.mono (Nat.le_trans hs hsz1))
  clear ho
  obtain ⟨n1, hN⟩ : ∃ n, n = ps1.length := ⟨_, rfl⟩
  rw [← hN] at O1 hl1 ⊢
  have HN1 := Lib.hid hN
  clear hN
  go_wp2
  go_ret2
  exact GivesPN.of HN1.out (by omega) O1.out (by omega) (by omega) D2.out.bel
set_option maxHeartbeats 1000000 in
theorem dThinBest_any (v : Value) (zs : List Int) (w : World) (hr : RowB w v zs) (hf : ∀ n ∈ zs, (Lit.int .u8 n).wf = true) :
    Calls Try.prog 48 #[v] w (GivesPN (-1) 100 w) := by
  have HO := Lib.hid (open_any v zs w hr hf)
  clear hr hf
  go_enter Try.func48, Try.ntmps48
  go_wp2_with fail
  refine HO.out.mono ?_
  rintro e w1 ⟨a, m, cap, hm, hb, rfl, hrd⟩
  have HB := Lib.hid hb
  have hs := hrd.2.2.size
  have D1 := Lib.hid (Drawn.refl hrd)
  clear hb hrd HO
  go_wp2_with fail
  refine (line_any w a m cap w.heap.size 0 w1 _ HB.out hm D1.out (by omega)).mono ?_
  rintro e w2 ⟨ps1, av1, cv1, x1, rfl, hl1, ho, hx1, hy1, hd⟩
  have hsz1 := D1.out.size
  have D2 := Lib.hid (D1.out.trans hd)
  clear hd D1
  have O1 := Lib.hid (ho.mono (Nat.le_trans hs hsz1))
  clear ho
  obtain ⟨n1, hN⟩ : ∃ n, n = ps1.length := ⟨_, rfl⟩
  rw [← hN] at O1 hl1 ⊢
  have HN1 := Lib.hid hN
  clear hN
  go_wp2
  go_ret2
  exact GivesPN.of HN1.out (by omega) O1.out (by omega) (by omega) D2.out.bel
set_option maxHeartbeats 1000000 in
theorem dThinGreedy_any (v : Value) (zs : List Int) (w : World) (hr : RowB w v zs) (hf : ∀ n ∈ zs, (Lit.int .u8 n).wf = true) :
    Calls Try.prog 44 #[v] w (GivesPN (-1) 100 w) := by
  have HO := Lib.hid (open_any v zs w hr hf)
  clear hr hf
  go_enter Try.func44, Try.ntmps44
  go_wp2_with fail
  refine HO.out.mono ?_
  rintro e w1 ⟨a, m, cap, hm, hb, rfl, hrd⟩
  have HB := Lib.hid hb
  have hs := hrd.2.2.size
  have D1 := Lib.hid (Drawn.refl hrd)
  clear hb hrd HO
  go_wp2_with fail
  refine (line_any w a m cap w.heap.size 0 w1 _ HB.out hm D1.out (by omega)).mono ?_
  rintro e w2 ⟨ps1, av1, cv1, x1, rfl, hl1, ho, hx1, hy1, hd⟩
  have hsz1 := D1.out.size
  have D2 := Lib.hid (D1.out.trans hd)
  clear hd D1
  have O1 := Lib.hid (ho.mono (Nat.le_trans hs hsz1))
  clear ho
  obtain ⟨n1, hN⟩ : ∃ n, n = ps1.length := ⟨_, rfl⟩
  rw [← hN] at O1 hl1 ⊢
  have HN1 := Lib.hid hN
  clear hN
  go_wp2
  go_ret2
  exact GivesPN.of HN1.out (by omega) O1.out (by omega) (by omega) D2.out.bel
set_option maxHeartbeats 1000000 in
theorem dThinLeast_any (v : Value) (zs : List Int) (w : World) (hr : RowB w v zs) (hf : ∀ n ∈ zs, (Lit.int .u8 n).wf = true) :
    Calls Try.prog 39 #[v] w (GivesPN 0 30 w) := by
  have HO := Lib.hid (open_any v zs w hr hf)
  clear hr hf
  go_enter Try.func39, Try.ntmps39
  go_wp2_with fail
  refine HO.out.mono ?_
  rintro e w1 ⟨a, m, cap, hm, hb, rfl, hrd⟩
  have HB := Lib.hid hb
  have hs := hrd.2.2.size
  have D1 := Lib.hid (Drawn.refl hrd)
  clear hb hrd HO
  go_wp2_with fail
  refine (prof_any w a m cap w.heap.size 0 8 w1 _ HB.out hm D1.out (by omega) (by omega) (by omega)).mono ?_
  rintro e w2 ⟨ps1, av1, cv1, rfl, hl1, ho, hd⟩
  have hsz1 := D1.out.size
  have D2 := Lib.hid (D1.out.trans hd)
  clear hd D1
  have O1 := Lib.hid (ho.mono (Nat.le_trans hs hsz1))
  clear ho
  obtain ⟨n1, hN⟩ : ∃ n, n = ps1.length := ⟨_, rfl⟩
  rw [← hN] at O1 hl1 ⊢
  have HN1 := Lib.hid hN
  clear hN
  go_wp2_with fail
  refine (pickD w a m cap w.heap.size 50 5 w1 _ HB.out hm D2.out (by omega) (by omega) (by omega)).mono ?_
  rintro e w3 ⟨c2, hc2, rfl, hd⟩
  replace O1 := Lib.hid (O1.out.over D2.out hd)
  have hsz2 := D2.out.size
  have D3 := Lib.hid (D2.out.trans hd)
  clear hd D2
  go_wp2_with fail
  refine (pickD w a m cap w.heap.size 51 12 w1 _ HB.out hm D3.out (by omega) (by omega) (by omega)).mono ?_
  rintro e w4 ⟨c3, hc3, rfl, hd⟩
  replace O1 := Lib.hid (O1.out.over D3.out hd)
  have hsz3 := D3.out.size
  have D4 := Lib.hid (D3.out.trans hd)
  clear hd D3
  go_wp2_with fail
  refine (pickD w a m cap w.heap.size 52 20 w1 _ HB.out hm D4.out (by omega) (by omega) (by omega)).mono ?_
  rintro e w5 ⟨c4, hc4, rfl, hd⟩
  replace O1 := Lib.hid (O1.out.over D4.out hd)
  have hsz4 := D4.out.size
  have D5 := Lib.hid (D4.out.trans hd)
  clear hd D4
  go_wp2
  go_ret2
  exact GivesPN.of HN1.out (by omega) O1.out (by omega) (by omega) D5.out.bel
end Go.Proofs.Ytonehpndbbojpaa
