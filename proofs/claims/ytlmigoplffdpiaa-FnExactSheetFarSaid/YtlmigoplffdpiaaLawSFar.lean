/- Walk of the law FnExactSheetFar: the program's SheetFar returns what the reference's returns, for all arguments. -/
import Derived.Test.YtlmigoplffdpiaaIFar
namespace Go.Proofs.Ytlmigoplffdpiaa
open Go.RowKit

theorem far_ex (S T : ByteArray) : ∃ x, farV S T x := by
  rcases name_or S with ⟨c, r, h⟩ | h
  · rcases name_or T with ⟨c', r', h'⟩ | h'
    · exact ⟨_, .inl ⟨c, r, c', r', h, h', rfl⟩⟩
    · exact ⟨_, .inr ⟨.inr h', rfl⟩⟩
  · exact ⟨_, .inr ⟨.inl h, rfl⟩⟩

set_option maxHeartbeats 1000000 in
theorem fnExactSheetFar_walk (w : World) (a0 : ByteArray) (_h0 : a0.size ≤ maxLen) (a1 : ByteArray) (_h1 : a1.size ≤ maxLen) :
    Calls Try.prog 5 #[.string a0, .string a1] w fun e w' => e = .returned (.bool true) ∧ Below w.heap.size w w' := by
  obtain ⟨x, hv⟩ := far_ex a0 a1
  have HS := Lib.hid (fun wx => sfar_any a0 a1 x wx hv)
  have HI := Lib.hid (fun wx => ifar_any a0 a1 x wx hv)
  clear hv
  obtain ⟨n, hn⟩ : ∃ n, n = a0.size := ⟨_, rfl⟩
  obtain ⟨m, hm⟩ : ∃ m, m = a1.size := ⟨_, rfl⟩
  by_cases hbig : 1048576 < a0.size
  · have hb1 : (1048576 : Int) < (a0.size : Int) := by omega
    clear hn hm
    go_enter Try.func5, Try.ntmps5
    go_wp2
    go_ret
    exact ⟨rfl, Below.refl _ _⟩
  · have hb1 : ¬ (1048576 : Int) < (a0.size : Int) := by omega
    by_cases hbig2 : 1048576 < a1.size
    · have hb2 : (1048576 : Int) < (a1.size : Int) := by omega
      clear hn hm
      go_enter Try.func5, Try.ntmps5
      go_wp2
      go_ret
      exact ⟨rfl, Below.refl _ _⟩
    · have hb2 : ¬ (1048576 : Int) < (a1.size : Int) := by omega
      clear hn hm _h0 _h1
      have x1 : (x == x) = true := by simp
      go_enter Try.func5, Try.ntmps5
      go_wp2_with fail
      refine (HS.out _).mono ?_
      rintro e w1 ⟨rfl, hb⟩
      have HB := Lib.hid hb
      clear hb
      go_wp2_with fail
      refine (HI.out _).mono ?_
      rintro e w2 ⟨rfl, hb⟩
      have HB2 := Lib.hid (HB.out.trans (hb.mono HB.out.size))
      clear hb
      go_wp2
      go_ret
      exact ⟨rfl, HB2.out⟩

end Go.Proofs.Ytlmigoplffdpiaa
