/- Walk of the law FnThinLeast: more points keep a lesser error. -/
import Derived.Test.YtonehpndbbojpaaDDraw
import Derived.Test.YtonehpndbbojpaaTLeast
import Derived.Test.YtonehpndbbojpaaPlainX
namespace Go.Proofs.Ytonehpndbbojpaa
open Go.RowKit

set_option maxRecDepth 100000 in
set_option maxHeartbeats 4000000 in
theorem fnThinLeast_walk (w : World) (v0 : Value) (z0 : List Int) (hr0 : RowB w v0 z0) (_hm0 : z0.length ≤ maxLen) (hf0 : ∀ n ∈ z0, (Lit.int .u8 n).wf = true) :
    Calls Try.prog 10 #[v0] w fun e w' => e = .returned (.bool true) ∧ Below w.heap.size w w' := by
  have HDr := Lib.hid (dThinLeast_any v0 z0 w hr0 hf0)
  obtain ⟨a0, cap0, rfl, -, -, -⟩ := hr0
  clear _hm0 hf0
  by_cases hbig : 1048576 < z0.length
  · go_enter Try.func10, Try.ntmps10
    go_wp2
    go_ret
    exact ⟨rfl, Below.refl _ _⟩
  go_enter Try.func10, Try.ntmps10
  have BT := Lib.hid (Below.refl w.heap.size w)
  go_wp2_with fail
  refine HDr.out.mono ?_
  rintro e w1 ⟨p, a_p, c_p, n, rfl, hlp, hR_p, hn0, hn1, hb⟩
  have R_p := Lib.hid hR_p
  replace BT := Lib.hid (BT.out.trans (hb.mono BT.out.size))
  clear hR_p hb HDr
  go_wp2_with fail
  refine (itleast_any _ p n _ R_p.out (by omega)).mono ?_
  rintro e w2 ⟨rfl, hb⟩
  replace R_p := Lib.hid (R_p.out.below hb)
  replace BT := Lib.hid (BT.out.trans (hb.mono BT.out.size))
  clear hb
  go_wp2_with fail
  refine (stleast_any _ p n _ R_p.out (by omega)).mono ?_
  rintro e w3 ⟨rfl, hb⟩
  replace R_p := Lib.hid (R_p.out.below hb)
  replace BT := Lib.hid (BT.out.trans (hb.mono BT.out.size))
  clear hb
  cases hB : leastT p n
  · rw [leastV_no hB]
    clear hB
    go_wp2
    go_ret
    exact ⟨rfl, BT.out⟩
  · have HB := Lib.hid (least_laws hB)
    clear hB
    obtain ⟨E, hE⟩ : ∃ E, E = leastV p n := ⟨_, rfl⟩
    obtain ⟨M, hM⟩ : ∃ M, M = leastV p (n + 1) := ⟨_, rfl⟩
    rw [← hE, ← hM] at HB
    rw [← hE]
    have HM := Lib.hid (itleast_any _ p (n + 1) _ R_p.out (by omega))
    rw [← hM] at HM
    clear hE hM
    have b1 := HB.out.1
    have b2 := HB.out.2.1
    have b3 : decide (E < 0) = false := by simp; omega
    go_wp2_with fail
    refine (HM.out).mono ?_
    rintro e w4 ⟨rfl, hb⟩
    replace R_p := Lib.hid (R_p.out.below hb)
    replace BT := Lib.hid (BT.out.trans (hb.mono BT.out.size))
    clear hb
    obtain ⟨F, hF⟩ : ∃ F, F = fewV p E := ⟨_, rfl⟩
    have HF := Lib.hid (itfew_any _ p E _ R_p.out (by omega))
    rw [← hF] at HF HB
    clear hF
    have b4 : decide (F ≤ n) = true := by simp; exact HB.out.2.2.1
    go_wp2_with fail
    refine (HF.out).mono ?_
    rintro e w5 ⟨rfl, hb⟩
    replace R_p := Lib.hid (R_p.out.below hb)
    replace BT := Lib.hid (BT.out.trans (hb.mono BT.out.size))
    clear hb
    by_cases h0 : E = 0
    · have b5 : (E == 0) = true := by simp; omega
      clear h0
      by_cases hn : n = 20
      · have b7 : (n == 20) = true := by simp; omega
        clear hn
        go_wp2
        go_ret
        exact ⟨rfl, BT.out⟩
      · have b7 : (n == 20) = false := by simp; omega
        have hr := HB.out.2.2.2.2.resolve_left hn
        have b8 : decide (0 ≤ M) = true := by simp; omega
        have b9 : decide (M ≤ E) = true := by simp; omega
        clear hn hr
        go_wp2
        go_ret
        exact ⟨rfl, BT.out⟩
    · have b5 : (E == 0) = false := by simp; omega
      have hr := HB.out.2.2.2.1.resolve_left h0
      have HG := Lib.hid (itfew_any _ p (E - 1) _ R_p.out (by omega))
      obtain ⟨G, hG⟩ : ∃ G, G = fewV p (E - 1) := ⟨_, rfl⟩
      rw [← hG] at HG hr
      clear hG h0
      have b6 : decide (n < G) = true := by simp; omega
      clear hr
      go_wp2_with fail
      refine (HG.out).mono ?_
      rintro e w6 ⟨rfl, hb⟩
      replace R_p := Lib.hid (R_p.out.below hb)
      replace BT := Lib.hid (BT.out.trans (hb.mono BT.out.size))
      clear hb
      by_cases hn : n = 20
      · have b7 : (n == 20) = true := by simp; omega
        clear hn
        go_wp2
        go_ret
        exact ⟨rfl, BT.out⟩
      · have b7 : (n == 20) = false := by simp; omega
        have hr := HB.out.2.2.2.2.resolve_left hn
        have b8 : decide (0 ≤ M) = true := by simp; omega
        have b9 : decide (M ≤ E) = true := by simp; omega
        clear hn hr
        go_wp2
        go_ret
        exact ⟨rfl, BT.out⟩

end Go.Proofs.Ytonehpndbbojpaa
