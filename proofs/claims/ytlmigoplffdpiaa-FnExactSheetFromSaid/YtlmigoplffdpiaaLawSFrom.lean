/- Walk of the law FnExactSheetFrom: the program's SheetFrom returns what the reference's returns, for all arguments. -/
import Derived.Test.YtlmigoplffdpiaaSheet
namespace Go.Proofs.Ytlmigoplffdpiaa
open Go.RowKit

theorem from_ex (S : ByteArray) : ∃ a b o, fromV S a b o := by
  rcases name_or S with ⟨c, r, h⟩ | h
  · exact ⟨_, _, _, .inl ⟨c, r, h, rfl, rfl, rfl⟩⟩
  · exact ⟨_, _, _, .inr ⟨h, rfl, rfl, rfl⟩⟩

set_option maxHeartbeats 1000000 in
theorem fnExactSheetFrom_walk (w : World) (a0 : ByteArray) (_h0 : a0.size ≤ maxLen) :
    Calls Try.prog 4 #[.string a0] w fun e w' => e = .returned (.bool true) ∧ Below w.heap.size w w' := by
  obtain ⟨a, b, o, hv⟩ := from_ex a0
  have HS := Lib.hid (fun wx => sfrom_any a0 a b o wx hv)
  have HI := Lib.hid (fun wx => ifrom_any a0 a b o wx hv)
  clear hv
  obtain ⟨n, hn⟩ : ∃ n, n = a0.size := ⟨_, rfl⟩
  by_cases hbig : 1048576 < a0.size
  · have hb1 : (1048576 : Int) < (a0.size : Int) := by omega
    go_enter Try.func4, Try.ntmps4
    go_wp2
    go_ret
    exact ⟨rfl, Below.refl _ _⟩
  · have hb1 : ¬ (1048576 : Int) < (a0.size : Int) := by omega
    clear hn _h0
    have x1 : (a != a) = false := by simp
    have x2 : (b != b) = false := by simp
    have x3 : (o != o) = false := by simp
    go_enter Try.func4, Try.ntmps4
    go_wp2_with fail
    refine (HS.out _).mono ?_
    rintro e w1 ⟨rfl, hb⟩
    have HB := Lib.hid hb
    clear hb
    go_wp2_with fail
    refine (HI.out _).mono ?_
    rintro e w2 ⟨rfl, hb⟩
    have HB2 := Lib.hid (HB.out.trans (hb.mono HB.out.size))
    clear hb
    go_wp2
    go_ret
    exact ⟨rfl, HB2.out⟩

end Go.Proofs.Ytlmigoplffdpiaa
