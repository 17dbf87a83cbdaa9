/-
  No cell of these rows narrows 'for every input' (looked for: loops, veiled, ifaces, maps, wideKeys, modest, calm, conditions, laid).
  DERIVED. THE GIVEN ROWS OF THIS SEAT. 4 by the template 'for every input the law returns true; each argument reads behind the call as it read before'; 0 by the template 'total and deterministic' (their statements: YtjpcbegndnbeeaaTotals.lean).
  GIVEN WITH THE SEED: the statements are not yours to turn. If you find one false, say at which input.
  Laid BY PROGRAM, IN A SANDBOX (cutbox-rows.mjs): the forced cells as the released guide's own fill.sh prints them over the translation 5741ada802e84cda… (all of the seat's roots in one cut). By AI agents, Wed Nov 11 2026. No macro, syntax, notation, axiom, sorry.
-/
import Derived.Test.YtjpcbegndnbeeaaChecked
import GoSem.Claim
import GoSem.ClaimJoined
import GoSem.ClaimMapViews
import Derived.JoinedTies
import Derived.KernelRfl
namespace Go.Proofs.Ytjpcbegndnbeeaa
/- THE CELL 'sum', in the pinned program and in every row, IS THE sha256 OF THE DUMP (.gsa) THAT YtjpcbegndnbeeaaProg.lean LOADS. Nothing in Lean hashes anything: it is a label: what it is worth is what the hold of that sum in a sandbox is worth. -/
noncomputable def Try.pinned : Pinned := { name := "ytjpcbegndnbeeaa", sum := "5741ada802e84cda7e0e204af937ab68b4db2cc85665814967159664621658c6", checked := Try.checked }
namespace Rows
def none {H : Type} : Left H := { results := [], args := [] }

/-- 'laws.FnExactProfileRow': WHATEVER THE INPUT: true; the input reads as it did. -/
def fnExactProfileRowSpec : ChangeSpec := { name := "fnExactProfileRow", fn := fun _ => fun
  | [d1, d2] => { results := [.lit (.bool true)], args := [d1, d2] }
  | _ => none }
def fnExactProfileRowRow : OpenClaim := { program := "ytjpcbegndnbeeaa", sum := "5741ada802e84cda7e0e204af937ab68b4db2cc85665814967159664621658c6", func := "loop.example/reliefmaps/laws.FnExactProfileRow", spec := "fnExactProfileRow", apart := false }
def FnExactProfileRowSaid : Prop := fnExactProfileRowRow.holds Try.pinned (OpenSpec.ofChange fnExactProfileRowSpec)

/-- ITS FALSE NEIGHBOUR: 'it returns false'. Refute it at one input. -/
def fnExactProfileRowWrong : ChangeSpec := { name := "fnExactProfileRow", fn := fun _ => fun
  | [d1, d2] => { results := [.lit (.bool false)], args := [d1, d2] }
  | _ => none }
def FnExactProfileRowWrongFalsely : Prop := fnExactProfileRowRow.holds Try.pinned (OpenSpec.ofChange fnExactProfileRowWrong)

/-- 'laws.FnExactGridSees': WHATEVER THE INPUT: true; the input reads as it did. -/
def fnExactGridSeesSpec : ChangeSpec := { name := "fnExactGridSees", fn := fun _ => fun
  | [d] => { results := [.lit (.bool true)], args := [d] }
  | _ => none }
def fnExactGridSeesRow : OpenClaim := { program := "ytjpcbegndnbeeaa", sum := "5741ada802e84cda7e0e204af937ab68b4db2cc85665814967159664621658c6", func := "loop.example/reliefmaps/laws.FnExactGridSees", spec := "fnExactGridSees", unfollowed := true, recurses := true, apart := false }
def FnExactGridSeesSaid : Prop := fnExactGridSeesRow.holds Try.pinned (OpenSpec.ofChange fnExactGridSeesSpec)

/-- ITS FALSE NEIGHBOUR: 'it returns false'. Refute it at one input. -/
def fnExactGridSeesWrong : ChangeSpec := { name := "fnExactGridSees", fn := fun _ => fun
  | [d] => { results := [.lit (.bool false)], args := [d] }
  | _ => none }
def FnExactGridSeesWrongFalsely : Prop := fnExactGridSeesRow.holds Try.pinned (OpenSpec.ofChange fnExactGridSeesWrong)

/-- 'laws.FnRow': WHATEVER THE INPUT: true; the input reads as it did. -/
def fnRowSpec : ChangeSpec := { name := "fnRow", fn := fun _ => fun
  | [d] => { results := [.lit (.bool true)], args := [d] }
  | _ => none }
def fnRowRow : OpenClaim := { program := "ytjpcbegndnbeeaa", sum := "5741ada802e84cda7e0e204af937ab68b4db2cc85665814967159664621658c6", func := "loop.example/reliefmaps/laws.FnRow", spec := "fnRow", unfollowed := true, recurses := true, apart := false }
def FnRowSaid : Prop := fnRowRow.holds Try.pinned (OpenSpec.ofChange fnRowSpec)

/-- ITS FALSE NEIGHBOUR: 'it returns false'. Refute it at one input. -/
def fnRowWrong : ChangeSpec := { name := "fnRow", fn := fun _ => fun
  | [d] => { results := [.lit (.bool false)], args := [d] }
  | _ => none }
def FnRowWrongFalsely : Prop := fnRowRow.holds Try.pinned (OpenSpec.ofChange fnRowWrong)

/-- 'laws.FnGridSees': WHATEVER THE INPUT: true; the input reads as it did. -/
def fnGridSeesSpec : ChangeSpec := { name := "fnGridSees", fn := fun _ => fun
  | [d] => { results := [.lit (.bool true)], args := [d] }
  | _ => none }
def fnGridSeesRow : OpenClaim := { program := "ytjpcbegndnbeeaa", sum := "5741ada802e84cda7e0e204af937ab68b4db2cc85665814967159664621658c6", func := "loop.example/reliefmaps/laws.FnGridSees", spec := "fnGridSees", unfollowed := true, recurses := true, apart := false }
def FnGridSeesSaid : Prop := fnGridSeesRow.holds Try.pinned (OpenSpec.ofChange fnGridSeesSpec)

/-- ITS FALSE NEIGHBOUR: 'it returns false'. Refute it at one input. -/
def fnGridSeesWrong : ChangeSpec := { name := "fnGridSees", fn := fun _ => fun
  | [d] => { results := [.lit (.bool false)], args := [d] }
  | _ => none }
def FnGridSeesWrongFalsely : Prop := fnGridSeesRow.holds Try.pinned (OpenSpec.ofChange fnGridSeesWrong)

/- THE SECOND FORM. 'bulk': how many values and letters a reading holds, each counted each time it is reached (what is shared counts as often as it is met; a slice's spare places count too). A statement '..UptoSaid' is the law's where the arguments, and the package variables that the reading takes, are together of bulk at most 1048576: NARROWER than '..Said'. Prove '..Said' where nothing that the law and all that it calls make is longer than what came in: it says more and counts as full. Else prove '..UptoSaid'. A law counts once. -/
mutual
def uptoBulk {H : Type} : DataW H → Nat
  | .lit (.string bytes) => bytes.length + 1
  | .lit _ => 1
  | .nil => 1
  | .ptr d => uptoBulk d + 1
  | .slice elems spare => uptoBulkAll elems + uptoBulkAll spare + 1
  | .agg parts => uptoBulkAll parts + 1
  | .iface _ d => uptoBulk d + 1
  | .map entries => uptoBulkEntries entries + 1
  | .held _ => 1
def uptoBulkAll {H : Type} : List (DataW H) → Nat
  | [] => 0
  | d :: r => uptoBulk d + uptoBulkAll r
def uptoBulkEntries {H : Type} : List (Lit × DataW H) → Nat
  | [] => 0
  | x :: r => uptoBulkEntry x + uptoBulkEntries r
def uptoBulkEntry {H : Type} : Lit × DataW H → Nat
  | (.string bytes, d) => bytes.length + uptoBulk d + 1
  | (_, d) => uptoBulk d + 1
 end
def uptoSmall : (H : Type) → List (DataW H) → Bool := fun _ ds => decide (uptoBulkAll ds ≤ 1048576)
def OpenSpec.upto (s : _root_.Go.ChangeSpec) : _root_.Go.OpenSpec := { _root_.Go.OpenSpec.ofChange s with cond := some uptoSmall }

/-- 'laws.FnExactProfileRow', WHERE WHAT IT READS IS OF BULK AT MOST 1048576: true; the input reads as it did. -/
def fnExactProfileRowUptoRow : OpenClaim := { program := "ytjpcbegndnbeeaa", sum := "5741ada802e84cda7e0e204af937ab68b4db2cc85665814967159664621658c6", func := "loop.example/reliefmaps/laws.FnExactProfileRow", spec := "fnExactProfileRow", apart := false, narrowed := true }
def FnExactProfileRowUptoSaid : Prop := fnExactProfileRowUptoRow.holds Try.pinned (OpenSpec.upto fnExactProfileRowSpec)

/-- 'laws.FnExactGridSees', WHERE WHAT IT READS IS OF BULK AT MOST 1048576: true; the input reads as it did. -/
def fnExactGridSeesUptoRow : OpenClaim := { program := "ytjpcbegndnbeeaa", sum := "5741ada802e84cda7e0e204af937ab68b4db2cc85665814967159664621658c6", func := "loop.example/reliefmaps/laws.FnExactGridSees", spec := "fnExactGridSees", unfollowed := true, recurses := true, apart := false, narrowed := true }
def FnExactGridSeesUptoSaid : Prop := fnExactGridSeesUptoRow.holds Try.pinned (OpenSpec.upto fnExactGridSeesSpec)

/-- 'laws.FnRow', WHERE WHAT IT READS IS OF BULK AT MOST 1048576: true; the input reads as it did. -/
def fnRowUptoRow : OpenClaim := { program := "ytjpcbegndnbeeaa", sum := "5741ada802e84cda7e0e204af937ab68b4db2cc85665814967159664621658c6", func := "loop.example/reliefmaps/laws.FnRow", spec := "fnRow", unfollowed := true, recurses := true, apart := false, narrowed := true }
def FnRowUptoSaid : Prop := fnRowUptoRow.holds Try.pinned (OpenSpec.upto fnRowSpec)

/-- 'laws.FnGridSees', WHERE WHAT IT READS IS OF BULK AT MOST 1048576: true; the input reads as it did. -/
def fnGridSeesUptoRow : OpenClaim := { program := "ytjpcbegndnbeeaa", sum := "5741ada802e84cda7e0e204af937ab68b4db2cc85665814967159664621658c6", func := "loop.example/reliefmaps/laws.FnGridSees", spec := "fnGridSees", unfollowed := true, recurses := true, apart := false, narrowed := true }
def FnGridSeesUptoSaid : Prop := fnGridSeesUptoRow.holds Try.pinned (OpenSpec.upto fnGridSeesSpec)

end Rows
end Go.Proofs.Ytjpcbegndnbeeaa
