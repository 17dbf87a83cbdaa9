/- Contracts: ThinFewest of the program and of the reference. -/
import Derived.Test.YtonehpndbbojpaaFew
namespace Go.Proofs.Ytonehpndbbojpaa
open Go.RowKit

theorem fewL_len {p : List Int} {e : Int} (hv : validB p = true) (he : 0 ≤ e) : 1 ≤ (fewL p e).length ∧ (fewL p e).length ≤ p.length := by
  have := valid_len hv
  exact costN_bd (p := p) he (i := 0) (by omega)
theorem few_no1 {p : List Int} {e : Int} (h : validB p = false) : fewB p e = false := by simp [fewB, h]
theorem few_no2 {p : List Int} {e : Int} (h : errB e = false) : fewB p e = false := by simp [fewB, h]
theorem few_yes {p : List Int} {e : Int} (h : validB p = true) (h' : errB e = true) : fewB p e = true := by simp [fewB, h, h']
theorem errB_bd {e : Int} (h : errB e = true) : 0 ≤ e ∧ e ≤ 99 := by simpa [errB, inB] using h

theorem itfew_any (v : Value) (p : List Int) (e : Int) (w : World) (hr : Row w v p) (hn : p.length ≤ 1099511627776) :
    Calls Try.prog 37 #[v, .int .i64 e] w fun x w' => x = .returned (.int .i64 (fewV p e)) ∧ Below w.heap.size w w' := by
  have HV := Lib.hid (ivalid_any v p w hr hn)
  cases hv : validB p
  · have HB := Lib.hid (fewV_no (few_no1 (e := e) hv))
    rw [hv] at HV
    clear hv
    go_enter Try.func37, Try.ntmps37
    go_wp2_with (go_at_call 52; refine HV.out.mono ?_; rintro e w' ⟨rfl, rfl⟩)
    go_ret
    exact ⟨ret_int HB.out.symm, Below.refl _ _⟩
  · cases he : errB e
    · have HB := Lib.hid (fewV_no (few_no2 (p := p) he))
      rw [hv] at HV
      clear hv
      go_enter Try.func37, Try.ntmps37
      go_wp2_with (first | (go_at_call 52; refine HV.out.mono ?_; rintro e w' ⟨rfl, rfl⟩) | (go_at_call 58; refine (iserr_any _ _).mono ?_; rintro e w' ⟨rfl, rfl⟩))
      go_ret
      exact ⟨ret_int HB.out.symm, Below.refl _ _⟩
    · have he0 := (errB_bd he).1
      have hl := fewL_len hv he0
      have hl2 := valid_len hv
      have HB := Lib.hid (fewV_yes (few_yes hv he))
      have HF := Lib.hid (fewest_any v p e w hr hv he0)
      rw [hv] at HV
      clear hv
      go_enter Try.func37, Try.ntmps37
      go_wp2_with (first | (go_at_call 52; refine HV.out.mono ?_; rintro e w' ⟨rfl, rfl⟩) | (go_at_call 58; refine (iserr_any _ _).mono ?_; rintro e w' ⟨rfl, rfl⟩) | (go_at_call 63; refine HF.out.mono ?_; rintro x w2 ⟨ks, u, rfl, hks, hch, hb2⟩; (have HKs := Lib.hid (show ks.length = (fewL p e).length by rw [← hks]; simp)); (have HCh := Lib.hid hch); clear hks hch; (have hkl : ks.length ≤ 1099511627776 := by have := HKs.out; omega)) | (go_at_call 64; refine (count_any _ _ _ _ HCh.out hkl).mono ?_; rintro e w3 ⟨rfl, rfl⟩))
      go_ret
      exact ⟨ret_int (by rw [HB.out, HKs.out]), hb2⟩

theorem stfew_any (v : Value) (p : List Int) (e : Int) (w : World) (hr : Row w v p) (hn : p.length ≤ 1099511627776) :
    Calls Try.prog 38 #[v, .int .i64 e] w fun x w' => x = .returned (.int .i64 (fewV p e)) ∧ Below w.heap.size w w' := by
  have HV := Lib.hid (svalid_any v p w hr hn)
  cases hv : validB p
  · have HB := Lib.hid (fewV_no (few_no1 (e := e) hv))
    rw [hv] at HV
    clear hv
    go_enter Try.func38, Try.ntmps38
    go_wp2_with (go_at_call 53; refine HV.out.mono ?_; rintro e w' ⟨rfl, rfl⟩)
    go_ret
    exact ⟨ret_int HB.out.symm, Below.refl _ _⟩
  · cases he : inB e 0 99
    · have HB := Lib.hid (fewV_no (few_no2 (p := p) he))
      rw [hv] at HV
      clear hv
      go_enter Try.func38, Try.ntmps38
      go_wp2_with (first | (go_at_call 53; refine HV.out.mono ?_; rintro e w' ⟨rfl, rfl⟩) | (go_at_call 55; refine (in_any _ _ _ _).mono ?_; rintro e w' ⟨rfl, rfl⟩))
      go_ret
      exact ⟨ret_int HB.out.symm, Below.refl _ _⟩
    · have he0 := (errB_bd he).1
      have hl2 := valid_len hv
      have HB := Lib.hid (show fewV p e = (costsL p e).getD 0 0 by rw [fewV_yes (few_yes hv he), costsL_at p e 0 (by omega)]; rfl)
      have HF := Lib.hid (costs_any v p e w hr hv he0)
      have hcl := costsL_len p e
      rw [hv] at HV
      clear hv
      obtain ⟨L, hL⟩ : ∃ L, L = costsL p e := ⟨_, rfl⟩
      rw [← hL] at HB HF hcl
      have HL := Lib.hid (show 0 < L.length by omega)
      clear hL hcl
      unfold GivesRow at HF
      obtain ⟨n, hN⟩ : ∃ n, n = L.length := ⟨_, rfl⟩
      rw [← hN] at HF HL
      clear hN
      have h0 := HL.out
      obtain ⟨c, hc⟩ : ∃ c, c = L.getD 0 0 := ⟨_, rfl⟩
      rw [← hc] at HB
      have HCc := Lib.hid hc
      clear hc
      go_enter Try.func38, Try.ntmps38
      go_wp2_with (first | (go_at_call 53; refine HV.out.mono ?_; rintro e w' ⟨rfl, rfl⟩) | (go_at_call 55; refine (in_any _ _ _ _).mono ?_; rintro e w' ⟨rfl, rfl⟩) | (go_at_call 65; refine HF.out.mono ?_; rintro e w2 ⟨a2, cap2, rfl, ho2, hb2⟩; obtain ⟨g2, rfl⟩ := ho2.addr h0; (have k0 := ho2.cellAt 0 h0); rw [← HCc.out] at k0; clear ho2))
      go_ret
      exact ⟨ret_int HB.out.symm, hb2⟩

end Go.Proofs.Ytonehpndbbojpaa
