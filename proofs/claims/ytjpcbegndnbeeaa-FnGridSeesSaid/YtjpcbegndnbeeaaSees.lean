/- Contracts: ProfileSees of the program and of the reference. -/
import Derived.Test.YtjpcbegndnbeeaaGround
import Derived.Test.YtjpcbegndnbeeaaSSees
namespace Go.Proofs.Ytjpcbegndnbeeaa
open Go.RowKit

theorem has_split {p : List Int} {i : Int} (h : hasB p i = true) : ∃ k : Nat, i = k ∧ k < p.length ∧ validB p = true := by
  rw [hasB_iff] at h
  obtain ⟨h0, h1, h2⟩ := h
  exact ⟨i.toNat, by omega, by omega, h0⟩

theorem ssees_b (v : Value) (p : List Int) (i k : Nat) (e : Int) (w : World) (hr : Row w v p) (hv : validB p = true) (hi : i < p.length) (hk : k < p.length) (e0 : 0 ≤ e) (e1 : e ≤ 50) :
    Calls Try.prog 50 #[v, .int .i64 i, .int .i64 k, .int .i64 e] w fun e' w' => e' = .returned (.bool (seesB p i k e)) ∧ Below w.heap.size w w' :=
  calls_below (ssees_any v p i k e w hr hv hi hk e0 e1)



end Go.Proofs.Ytjpcbegndnbeeaa
