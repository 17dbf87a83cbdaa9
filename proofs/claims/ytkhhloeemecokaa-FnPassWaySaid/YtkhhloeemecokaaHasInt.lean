/- Contract: hasInt of the laws, where the number is in the list. -/
import Derived.Test.YtkhhloeemecokaaBase
namespace Go.Proofs.Ytkhhloeemecokaa
open Go.RowKit
set_option linter.unusedVariables false

theorem hasInt_any (v : Value) (zs : List Int) (x : Int) (w : World) (hr : Row w v zs) (hm : x ∈ zs) (hl : zs.length ≤ 1000) :
    Calls Try.prog 17 #[v, .int .i64 x] w fun e w' => e = .returned (.bool true) ∧ Below w.heap.size w w' := by
  obtain ⟨a, cap, rfl⟩ := hr.shape
  obtain ⟨n, hn⟩ : ∃ n, n = zs.length := ⟨_, rfl⟩
  have HN := Lib.hid hn
  obtain ⟨k0, hk0, hkx⟩ := List.mem_iff_getElem.1 hm
  have HK := Lib.hid (show zs.getD k0 0 = x by rw [List.getD_eq_getElem?_getD, List.getElem?_eq_getElem hk0, hkx]; rfl)
  rw [← hn] at hr hl hk0 ⊢
  have HR := Lib.hid hr
  clear hr hn hm hkx
  go_enter Try.func17, Try.ntmps17
  go_wp2_with fail
  go_loopw [5] (fun q wr => ∃ m : Nat, m ≤ n ∧ q = .int .i64 m ∧ (∀ j, j < m → zs.getD j 0 ≠ x) ∧ wr = w) (fun q _ => n - (intOf q).toNat)
  case atStart => exact ⟨0, Nat.zero_le _, rfl, fun j hj => absurd hj (by omega), rfl⟩
  case round =>
    obtain ⟨m, hmn, rfl, hno, rfl⟩ := hrel
    have HNo := Lib.hid hno
    clear hno
    by_cases hlt : m < n
    · obtain ⟨-, hc⟩ := HR.out.cells
      obtain ⟨b, off, rfl, q1⟩ := hc m hlt
      obtain ⟨y, hy⟩ : ∃ y, y = zs.getD m 0 := ⟨_, rfl⟩
      rw [← hy] at q1
      have HY := Lib.hid hy
      have d1 : (m : Int) < (n : Int) := by omega
      clear hc hy
      by_cases e : y = x
      · go_wp2_with fail
        go_ret
        exact ⟨rfl, Below.refl _ _⟩
      · go_wp2_with fail
        go_roundw
        case rel => exact ⟨m + 1, by omega, by go_num, fun j hj => by by_cases e2 : j = m; subst e2; rw [← HY.out]; exact e; exact HNo.out j (by omega), trivial⟩
        case measure => simp [intOf]; omega
    · exact absurd HK.out (HNo.out k0 (by omega))

end Go.Proofs.Ytkhhloeemecokaa
