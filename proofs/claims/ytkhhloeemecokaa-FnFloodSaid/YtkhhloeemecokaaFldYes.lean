/- Contract: fieldOf of the program, at a grid and at none. -/
import Derived.Test.YtkhhloeemecokaaFldOf
namespace Go.Proofs.Ytkhhloeemecokaa
open Go.RowKit
set_option linter.unusedVariables false

theorem fld_yes {v : Value} {g : List (List Int)} {w : World} (hr : MRow w v g) (hv : gvalB g = true) (n C N : Nat) (hn : n = g.length) (hC : C = colsG g) (hN : N = n * C) (h1 : g.length ≤ 1048576) (h2 : tot g ≤ 1048576) :
    Calls Try.prog 36 #[v] w fun e w' => ∃ G, e = .returned (.tuple #[.agg #[.int .i64 n, .int .i64 C, .slice (some ⟨G, 0, none⟩) N N], .bool true]) ∧ Own w' w.heap.size (.slice (some ⟨G, 0, none⟩) N N) (flatG g n C N) ∧ Below w.heap.size w w' := by
  refine (fieldOf_any v g w hr h1 h2).mono ?_
  rintro e w' ⟨⟨-, G, he, ho⟩ | ⟨hf, -⟩, hb⟩
  · rw [hN, hn, hC]
    exact ⟨G, he, ho, hb⟩
  · rw [hv] at hf; cases hf
theorem fld_no {v : Value} {g : List (List Int)} {w : World} (hr : MRow w v g) (hv : gvalB g = false) (h1 : g.length ≤ 1048576) (h2 : tot g ≤ 1048576) :
    Calls Try.prog 36 #[v] w fun e w' => e = .returned (.tuple #[.agg #[.int .i64 0, .int .i64 0, .slice none 0 0], .bool false]) ∧ Below w.heap.size w w' := by
  refine (fieldOf_any v g w hr h1 h2).mono ?_
  rintro e w' ⟨⟨hf, -⟩ | ⟨-, he⟩, hb⟩
  · rw [hv] at hf; cases hf
  · exact ⟨he, hb⟩

end Go.Proofs.Ytkhhloeemecokaa
