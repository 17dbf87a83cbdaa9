/-
  No cell of these rows narrows 'for every input' (looked for: loops, veiled, ifaces, maps, wideKeys, modest, calm, conditions, laid).
  DERIVED. THE GIVEN ROWS OF THIS SEAT. 4 by the template 'for every input the law returns true; each argument reads behind the call as it read before'; 0 by the template 'total and deterministic' (their statements: YtlmigoplffdpiaaTotals.lean).
  GIVEN WITH THE SEED: the statements are not yours to turn. If you find one false, say at which input.
  Laid BY PROGRAM, IN A SANDBOX (cutbox-rows.mjs): the forced cells as the released guide's own fill.sh prints them over the translation 2c84369ed6b792ee… (all of the seat's roots in one cut). By AI agents, Wed Nov 11 2026. No macro, syntax, notation, axiom, sorry.
-/
import Derived.Test.YtlmigoplffdpiaaChecked
import GoSem.Claim
import GoSem.ClaimJoined
import GoSem.ClaimMapViews
import Derived.JoinedTies
import Derived.KernelRfl
namespace Go.Proofs.Ytlmigoplffdpiaa
/- THE CELL 'sum', in the pinned program and in every row, IS THE sha256 OF THE DUMP (.gsa) THAT YtlmigoplffdpiaaProg.lean LOADS. Nothing in Lean hashes anything: it is a label: what it is worth is what the hold of that sum in a sandbox is worth. -/
noncomputable def Try.pinned : Pinned := { name := "ytlmigoplffdpiaa", sum := "2c84369ed6b792ee087bd763761ec05a52ef725bca40ea887bc1879fa39a6718", checked := Try.checked }
namespace Rows
def none {H : Type} : Left H := { results := [], args := [] }

/-- 'laws.FnExactProfileWatch': WHATEVER THE INPUT: true; the input reads as it did. -/
def fnExactProfileWatchSpec : ChangeSpec := { name := "fnExactProfileWatch", fn := fun _ => fun
  | [d] => { results := [.lit (.bool true)], args := [d] }
  | _ => none }
def fnExactProfileWatchRow : OpenClaim := { program := "ytlmigoplffdpiaa", sum := "2c84369ed6b792ee087bd763761ec05a52ef725bca40ea887bc1879fa39a6718", func := "loop.example/reliefmaps/laws.FnExactProfileWatch", spec := "fnExactProfileWatch", unfollowed := true, recurses := true, apart := false }
def FnExactProfileWatchSaid : Prop := fnExactProfileWatchRow.holds Try.pinned (OpenSpec.ofChange fnExactProfileWatchSpec)

/-- ITS FALSE NEIGHBOUR: 'it returns false'. Refute it at one input. -/
def fnExactProfileWatchWrong : ChangeSpec := { name := "fnExactProfileWatch", fn := fun _ => fun
  | [d] => { results := [.lit (.bool false)], args := [d] }
  | _ => none }
def FnExactProfileWatchWrongFalsely : Prop := fnExactProfileWatchRow.holds Try.pinned (OpenSpec.ofChange fnExactProfileWatchWrong)

/-- 'laws.FnExactSheetFrom': WHATEVER THE INPUT: true; the input reads as it did. -/
def fnExactSheetFromSpec : ChangeSpec := { name := "fnExactSheetFrom", fn := fun _ => fun
  | [d] => { results := [.lit (.bool true)], args := [d] }
  | _ => none }
def fnExactSheetFromRow : OpenClaim := { program := "ytlmigoplffdpiaa", sum := "2c84369ed6b792ee087bd763761ec05a52ef725bca40ea887bc1879fa39a6718", func := "loop.example/reliefmaps/laws.FnExactSheetFrom", spec := "fnExactSheetFrom", recurses := true, apart := false }
def FnExactSheetFromSaid : Prop := fnExactSheetFromRow.holds Try.pinned (OpenSpec.ofChange fnExactSheetFromSpec)

/-- ITS FALSE NEIGHBOUR: 'it returns false'. Refute it at one input. -/
def fnExactSheetFromWrong : ChangeSpec := { name := "fnExactSheetFrom", fn := fun _ => fun
  | [d] => { results := [.lit (.bool false)], args := [d] }
  | _ => none }
def FnExactSheetFromWrongFalsely : Prop := fnExactSheetFromRow.holds Try.pinned (OpenSpec.ofChange fnExactSheetFromWrong)

/-- 'laws.FnExactSheetFar': WHATEVER THE INPUT: true; the input reads as it did. -/
def fnExactSheetFarSpec : ChangeSpec := { name := "fnExactSheetFar", fn := fun _ => fun
  | [d1, d2] => { results := [.lit (.bool true)], args := [d1, d2] }
  | _ => none }
def fnExactSheetFarRow : OpenClaim := { program := "ytlmigoplffdpiaa", sum := "2c84369ed6b792ee087bd763761ec05a52ef725bca40ea887bc1879fa39a6718", func := "loop.example/reliefmaps/laws.FnExactSheetFar", spec := "fnExactSheetFar", recurses := true, apart := false }
def FnExactSheetFarSaid : Prop := fnExactSheetFarRow.holds Try.pinned (OpenSpec.ofChange fnExactSheetFarSpec)

/-- ITS FALSE NEIGHBOUR: 'it returns false'. Refute it at one input. -/
def fnExactSheetFarWrong : ChangeSpec := { name := "fnExactSheetFar", fn := fun _ => fun
  | [d1, d2] => { results := [.lit (.bool false)], args := [d1, d2] }
  | _ => none }
def FnExactSheetFarWrongFalsely : Prop := fnExactSheetFarRow.holds Try.pinned (OpenSpec.ofChange fnExactSheetFarWrong)

/-- 'laws.FnExactPlaceFrom': WHATEVER THE INPUT: true; the input reads as it did. -/
def fnExactPlaceFromSpec : ChangeSpec := { name := "fnExactPlaceFrom", fn := fun _ => fun
  | [d] => { results := [.lit (.bool true)], args := [d] }
  | _ => none }
def fnExactPlaceFromRow : OpenClaim := { program := "ytlmigoplffdpiaa", sum := "2c84369ed6b792ee087bd763761ec05a52ef725bca40ea887bc1879fa39a6718", func := "loop.example/reliefmaps/laws.FnExactPlaceFrom", spec := "fnExactPlaceFrom", unfollowed := true, recurses := true, apart := false }
def FnExactPlaceFromSaid : Prop := fnExactPlaceFromRow.holds Try.pinned (OpenSpec.ofChange fnExactPlaceFromSpec)

/-- ITS FALSE NEIGHBOUR: 'it returns false'. Refute it at one input. -/
def fnExactPlaceFromWrong : ChangeSpec := { name := "fnExactPlaceFrom", fn := fun _ => fun
  | [d] => { results := [.lit (.bool false)], args := [d] }
  | _ => none }
def FnExactPlaceFromWrongFalsely : Prop := fnExactPlaceFromRow.holds Try.pinned (OpenSpec.ofChange fnExactPlaceFromWrong)

/- THE SECOND FORM. 'bulk': how many values and letters a reading holds, each counted each time it is reached (what is shared counts as often as it is met; a slice's spare places count too). A statement '..UptoSaid' is the law's where the arguments, and the package variables that the reading takes, are together of bulk at most 1048576: NARROWER than '..Said'. Prove '..Said' where nothing that the law and all that it calls make is longer than what came in: it says more and counts as full. Else prove '..UptoSaid'. A law counts once. -/
mutual
def uptoBulk {H : Type} : DataW H → Nat
  | .lit (.string bytes) => bytes.length + 1
  | .lit _ => 1
  | .nil => 1
  | .ptr d => uptoBulk d + 1
  | .slice elems spare => uptoBulkAll elems + uptoBulkAll spare + 1
  | .agg parts => uptoBulkAll parts + 1
  | .iface _ d => uptoBulk d + 1
  | .map entries => uptoBulkEntries entries + 1
  | .held _ => 1
def uptoBulkAll {H : Type} : List (DataW H) → Nat
  | [] => 0
  | d :: r => uptoBulk d + uptoBulkAll r
def uptoBulkEntries {H : Type} : List (Lit × DataW H) → Nat
  | [] => 0
  | x :: r => uptoBulkEntry x + uptoBulkEntries r
def uptoBulkEntry {H : Type} : Lit × DataW H → Nat
  | (.string bytes, d) => bytes.length + uptoBulk d + 1
  | (_, d) => uptoBulk d + 1
 end
def uptoSmall : (H : Type) → List (DataW H) → Bool := fun _ ds => decide (uptoBulkAll ds ≤ 1048576)
def OpenSpec.upto (s : _root_.Go.ChangeSpec) : _root_.Go.OpenSpec := { _root_.Go.OpenSpec.ofChange s with cond := some uptoSmall }

/-- 'laws.FnExactProfileWatch', WHERE WHAT IT READS IS OF BULK AT MOST 1048576: true; the input reads as it did. -/
def fnExactProfileWatchUptoRow : OpenClaim := { program := "ytlmigoplffdpiaa", sum := "2c84369ed6b792ee087bd763761ec05a52ef725bca40ea887bc1879fa39a6718", func := "loop.example/reliefmaps/laws.FnExactProfileWatch", spec := "fnExactProfileWatch", unfollowed := true, recurses := true, apart := false, narrowed := true }
def FnExactProfileWatchUptoSaid : Prop := fnExactProfileWatchUptoRow.holds Try.pinned (OpenSpec.upto fnExactProfileWatchSpec)

/-- 'laws.FnExactSheetFrom', WHERE WHAT IT READS IS OF BULK AT MOST 1048576: true; the input reads as it did. -/
def fnExactSheetFromUptoRow : OpenClaim := { program := "ytlmigoplffdpiaa", sum := "2c84369ed6b792ee087bd763761ec05a52ef725bca40ea887bc1879fa39a6718", func := "loop.example/reliefmaps/laws.FnExactSheetFrom", spec := "fnExactSheetFrom", recurses := true, apart := false, narrowed := true }
def FnExactSheetFromUptoSaid : Prop := fnExactSheetFromUptoRow.holds Try.pinned (OpenSpec.upto fnExactSheetFromSpec)

/-- 'laws.FnExactSheetFar', WHERE WHAT IT READS IS OF BULK AT MOST 1048576: true; the input reads as it did. -/
def fnExactSheetFarUptoRow : OpenClaim := { program := "ytlmigoplffdpiaa", sum := "2c84369ed6b792ee087bd763761ec05a52ef725bca40ea887bc1879fa39a6718", func := "loop.example/reliefmaps/laws.FnExactSheetFar", spec := "fnExactSheetFar", recurses := true, apart := false, narrowed := true }
def FnExactSheetFarUptoSaid : Prop := fnExactSheetFarUptoRow.holds Try.pinned (OpenSpec.upto fnExactSheetFarSpec)

/-- 'laws.FnExactPlaceFrom', WHERE WHAT IT READS IS OF BULK AT MOST 1048576: true; the input reads as it did. -/
def fnExactPlaceFromUptoRow : OpenClaim := { program := "ytlmigoplffdpiaa", sum := "2c84369ed6b792ee087bd763761ec05a52ef725bca40ea887bc1879fa39a6718", func := "loop.example/reliefmaps/laws.FnExactPlaceFrom", spec := "fnExactPlaceFrom", unfollowed := true, recurses := true, apart := false, narrowed := true }
def FnExactPlaceFromUptoSaid : Prop := fnExactPlaceFromUptoRow.holds Try.pinned (OpenSpec.upto fnExactPlaceFromSpec)

end Rows
end Go.Proofs.Ytlmigoplffdpiaa
