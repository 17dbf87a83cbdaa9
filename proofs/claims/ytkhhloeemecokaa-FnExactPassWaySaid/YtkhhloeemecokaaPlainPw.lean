/- Plain words: two cells of a grid, and the pass between them. -/
import Derived.Test.YtkhhloeemecokaaPlainKey
namespace Go.Proofs.Ytkhhloeemecokaa

def inG (g : List (List Int)) (i : Int) : Bool := decide (0 ≤ i ∧ i < ((g.length * colsG g : Nat) : Int))
def pwayB (g : List (List Int)) (a b : Int) : Bool := gvalB g && (inG g a && inG g b)
noncomputable def pbV (g : List (List Int)) (a b : Int) : Int := if pwayB g a b = true then passV (nearL g.length (colsG g)) (hgtG g (colsG g)) a.toNat b.toNat else -1
theorem pway_val {g : List (List Int)} {a b : Int} (h : gvalB g = false) : pwayB g a b = false := by simp [pwayB, h]
theorem pway_a {g : List (List Int)} {a b : Int} {N : Nat} (hN : N = g.length * colsG g) (h : ¬ (0 ≤ a ∧ a < (N : Int))) : pwayB g a b = false := by
  rw [hN] at h
  unfold pwayB inG
  rw [decide_eq_false h]
  simp
theorem pway_b {g : List (List Int)} {a b : Int} {N : Nat} (hN : N = g.length * colsG g) (h : ¬ (0 ≤ b ∧ b < (N : Int))) : pwayB g a b = false := by
  rw [hN] at h
  unfold pwayB inG
  rw [decide_eq_false h]
  simp
theorem pway_in {g : List (List Int)} {a b N : Nat} (hv : gvalB g = true) (hN : N = g.length * colsG g) (ha : a < N) (hb : b < N) : pwayB g a b = true := by
  unfold pwayB inG
  rw [hv, ← hN, decide_eq_true (show 0 ≤ (a : Int) ∧ (a : Int) < (N : Int) from ⟨by omega, by omega⟩), decide_eq_true (show 0 ≤ (b : Int) ∧ (b : Int) < (N : Int) from ⟨by omega, by omega⟩)]
  rfl

end Go.Proofs.Ytkhhloeemecokaa
