/- Contracts of the draws of one profile. -/
import Derived.Test.YtbehpooapnjpeaaProf
namespace Go.Proofs.Ytbehpooapnjpeaa
open Go.RowKit

/-- What a draw of a profile gives. -/
def GivesP (w : World) (e : Ending) (w' : World) : Prop :=
  ∃ zs av cv, e = .returned (.slice av zs.length cv) ∧ zs.length ≤ 40 ∧ Own w' w.heap.size (.slice av zs.length cv) zs ∧ Below w.heap.size w w'

theorem dProfileClimb_any (v : Value) (zs : List Int) (w : World) (hr : RowB w v zs) (hf : ∀ n ∈ zs, (Lit.int .u8 n).wf = true) :
    Calls Try.prog 14 #[v] w (GivesP w) := by
  have HO := Lib.hid (open_any v zs w hr hf)
  clear hr hf
  go_enter Try.func14, Try.ntmps14
  go_wp2_with fail
  refine HO.out.mono ?_
  rintro e w1 ⟨a, m, cap, hm, hb, rfl, hrd⟩
  have HP := Lib.hid (prof_any w a m cap w.heap.size 0 9 w1 w1 hb hm (Drawn.refl hrd) (by omega) (by omega) (by omega))
  have hs := hrd.2.2.size
  clear hb hrd
  go_wp2_with fail
  refine HP.out.mono ?_
  rintro e w2 ⟨ps, av, cv, rfl, hl, ho, hd⟩
  have HOw := Lib.hid (ho.mono hs)
  have HB := Lib.hid hd.bel
  have HL := Lib.hid hl
  clear ho hd hl
  obtain ⟨n, hN⟩ : ∃ n, n = ps.length := ⟨_, rfl⟩
  rw [← hN] at HOw ⊢
  have HN := Lib.hid hN
  clear hN
  go_wp2
  go_ret
  exact ⟨ps, av, cv, by rw [← HN.out]; rfl, by have := HL.out; omega, by rw [← HN.out]; exact HOw.out, HB.out⟩

theorem dProfileBack_any (v : Value) (zs : List Int) (w : World) (hr : RowB w v zs) (hf : ∀ n ∈ zs, (Lit.int .u8 n).wf = true) :
    Calls Try.prog 17 #[v] w (GivesP w) := by
  have HO := Lib.hid (open_any v zs w hr hf)
  clear hr hf
  go_enter Try.func17, Try.ntmps17
  go_wp2_with fail
  refine HO.out.mono ?_
  rintro e w1 ⟨a, m, cap, hm, hb, rfl, hrd⟩
  have HP := Lib.hid (prof_any w a m cap w.heap.size 0 9 w1 w1 hb hm (Drawn.refl hrd) (by omega) (by omega) (by omega))
  have hs := hrd.2.2.size
  clear hb hrd
  go_wp2_with fail
  refine HP.out.mono ?_
  rintro e w2 ⟨ps, av, cv, rfl, hl, ho, hd⟩
  have HOw := Lib.hid (ho.mono hs)
  have HB := Lib.hid hd.bel
  have HL := Lib.hid hl
  clear ho hd hl
  obtain ⟨n, hN⟩ : ∃ n, n = ps.length := ⟨_, rfl⟩
  rw [← hN] at HOw ⊢
  have HN := Lib.hid hN
  clear hN
  go_wp2
  go_ret
  exact ⟨ps, av, cv, by rw [← HN.out]; rfl, by have := HL.out; omega, by rw [← HN.out]; exact HOw.out, HB.out⟩

theorem dProfilePairs_any (v : Value) (zs : List Int) (w : World) (hr : RowB w v zs) (hf : ∀ n ∈ zs, (Lit.int .u8 n).wf = true) :
    Calls Try.prog 28 #[v] w (GivesP w) := by
  have HO := Lib.hid (open_any v zs w hr hf)
  clear hr hf
  go_enter Try.func28, Try.ntmps28
  go_wp2_with fail
  refine HO.out.mono ?_
  rintro e w1 ⟨a, m, cap, hm, hb, rfl, hrd⟩
  have HP := Lib.hid (prof_any w a m cap w.heap.size 0 9 w1 w1 hb hm (Drawn.refl hrd) (by omega) (by omega) (by omega))
  have hs := hrd.2.2.size
  clear hb hrd
  go_wp2_with fail
  refine HP.out.mono ?_
  rintro e w2 ⟨ps, av, cv, rfl, hl, ho, hd⟩
  have HOw := Lib.hid (ho.mono hs)
  have HB := Lib.hid hd.bel
  have HL := Lib.hid hl
  clear ho hd hl
  obtain ⟨n, hN⟩ : ∃ n, n = ps.length := ⟨_, rfl⟩
  rw [← hN] at HOw ⊢
  have HN := Lib.hid hN
  clear hN
  go_wp2
  go_ret
  exact ⟨ps, av, cv, by rw [← HN.out]; rfl, by have := HL.out; omega, by rw [← HN.out]; exact HOw.out, HB.out⟩

theorem dProfileHull_any (v : Value) (zs : List Int) (w : World) (hr : RowB w v zs) (hf : ∀ n ∈ zs, (Lit.int .u8 n).wf = true) :
    Calls Try.prog 35 #[v] w (GivesP w) := by
  have HO := Lib.hid (open_any v zs w hr hf)
  clear hr hf
  go_enter Try.func35, Try.ntmps35
  go_wp2_with fail
  refine HO.out.mono ?_
  rintro e w1 ⟨a, m, cap, hm, hb, rfl, hrd⟩
  have HP := Lib.hid (prof_any w a m cap w.heap.size 0 9 w1 w1 hb hm (Drawn.refl hrd) (by omega) (by omega) (by omega))
  have hs := hrd.2.2.size
  clear hb hrd
  go_wp2_with fail
  refine HP.out.mono ?_
  rintro e w2 ⟨ps, av, cv, rfl, hl, ho, hd⟩
  have HOw := Lib.hid (ho.mono hs)
  have HB := Lib.hid hd.bel
  have HL := Lib.hid hl
  clear ho hd hl
  obtain ⟨n, hN⟩ : ∃ n, n = ps.length := ⟨_, rfl⟩
  rw [← hN] at HOw ⊢
  have HN := Lib.hid hN
  clear hN
  go_wp2
  go_ret
  exact ⟨ps, av, cv, by rw [← HN.out]; rfl, by have := HL.out; omega, by rw [← HN.out]; exact HOw.out, HB.out⟩

theorem dProfileBest_any (v : Value) (zs : List Int) (w : World) (hr : RowB w v zs) (hf : ∀ n ∈ zs, (Lit.int .u8 n).wf = true) :
    Calls Try.prog 41 #[v] w (GivesP w) := by
  have HO := Lib.hid (open_any v zs w hr hf)
  clear hr hf
  go_enter Try.func41, Try.ntmps41
  go_wp2_with fail
  refine HO.out.mono ?_
  rintro e w1 ⟨a, m, cap, hm, hb, rfl, hrd⟩
  have HP := Lib.hid (prof_any w a m cap w.heap.size 0 9 w1 w1 hb hm (Drawn.refl hrd) (by omega) (by omega) (by omega))
  have hs := hrd.2.2.size
  clear hb hrd
  go_wp2_with fail
  refine HP.out.mono ?_
  rintro e w2 ⟨ps, av, cv, rfl, hl, ho, hd⟩
  have HOw := Lib.hid (ho.mono hs)
  have HB := Lib.hid hd.bel
  have HL := Lib.hid hl
  clear ho hd hl
  obtain ⟨n, hN⟩ : ∃ n, n = ps.length := ⟨_, rfl⟩
  rw [← hN] at HOw ⊢
  have HN := Lib.hid hN
  clear hN
  go_wp2
  go_ret
  exact ⟨ps, av, cv, by rw [← HN.out]; rfl, by have := HL.out; omega, by rw [← HN.out]; exact HOw.out, HB.out⟩


end Go.Proofs.Ytbehpooapnjpeaa
