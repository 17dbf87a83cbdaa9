/-
  No cell of these rows narrows 'for every input' (looked for: loops, veiled, ifaces, maps, wideKeys, modest, calm, conditions, laid).
  DERIVED. THE GIVEN ROWS OF THIS SEAT. 6 by the template 'for every input the law returns true; each argument reads behind the call as it read before'; 0 by the template 'total and deterministic' (their statements: YtcphgpkcaoboaaaTotals.lean).
  GIVEN WITH THE SEED: the statements are not yours to turn. If you find one false, say at which input.
  Laid BY PROGRAM, IN A SANDBOX (cutbox-rows.mjs): the forced cells as the released guide's own fill.sh prints them over the translation 92d17916d1edd4b2… (all of the seat's roots in one cut). By AI agents, Wed Nov 11 2026. No macro, syntax, notation, axiom, sorry.
-/
import Derived.Test.YtcphgpkcaoboaaaChecked
import GoSem.Claim
import GoSem.ClaimJoined
import GoSem.ClaimMapViews
import Derived.JoinedTies
import Derived.KernelRfl
namespace Go.Proofs.Ytcphgpkcaoboaaa
/- THE CELL 'sum', in the pinned program and in every row, IS THE sha256 OF THE DUMP (.gsa) THAT YtcphgpkcaoboaaaProg.lean LOADS. Nothing in Lean hashes anything: it is a label: what it is worth is what the hold of that sum in a sandbox is worth. -/
noncomputable def Try.pinned : Pinned := { name := "ytcphgpkcaoboaaa", sum := "92d17916d1edd4b23b4a3247f485923ab065adfadd8c3f43443d38946efd5088", checked := Try.checked }
namespace Rows
def none {H : Type} : Left H := { results := [], args := [] }

/-- 'laws.FnExactProfileValid': WHATEVER THE INPUT: true; the input reads as it did. -/
def fnExactProfileValidSpec : ChangeSpec := { name := "fnExactProfileValid", fn := fun _ => fun
  | [d] => { results := [.lit (.bool true)], args := [d] }
  | _ => none }
def fnExactProfileValidRow : OpenClaim := { program := "ytcphgpkcaoboaaa", sum := "92d17916d1edd4b23b4a3247f485923ab065adfadd8c3f43443d38946efd5088", func := "loop.example/reliefmaps/laws.FnExactProfileValid", spec := "fnExactProfileValid", apart := false }
def FnExactProfileValidSaid : Prop := fnExactProfileValidRow.holds Try.pinned (OpenSpec.ofChange fnExactProfileValidSpec)

/-- ITS FALSE NEIGHBOUR: 'it returns false'. Refute it at one input. -/
def fnExactProfileValidWrong : ChangeSpec := { name := "fnExactProfileValid", fn := fun _ => fun
  | [d] => { results := [.lit (.bool false)], args := [d] }
  | _ => none }
def FnExactProfileValidWrongFalsely : Prop := fnExactProfileValidRow.holds Try.pinned (OpenSpec.ofChange fnExactProfileValidWrong)

/-- 'laws.FnExactProfileClimb': WHATEVER THE INPUT: true; the input reads as it did. -/
def fnExactProfileClimbSpec : ChangeSpec := { name := "fnExactProfileClimb", fn := fun _ => fun
  | [d] => { results := [.lit (.bool true)], args := [d] }
  | _ => none }
def fnExactProfileClimbRow : OpenClaim := { program := "ytcphgpkcaoboaaa", sum := "92d17916d1edd4b23b4a3247f485923ab065adfadd8c3f43443d38946efd5088", func := "loop.example/reliefmaps/laws.FnExactProfileClimb", spec := "fnExactProfileClimb", apart := false }
def FnExactProfileClimbSaid : Prop := fnExactProfileClimbRow.holds Try.pinned (OpenSpec.ofChange fnExactProfileClimbSpec)

/-- ITS FALSE NEIGHBOUR: 'it returns false'. Refute it at one input. -/
def fnExactProfileClimbWrong : ChangeSpec := { name := "fnExactProfileClimb", fn := fun _ => fun
  | [d] => { results := [.lit (.bool false)], args := [d] }
  | _ => none }
def FnExactProfileClimbWrongFalsely : Prop := fnExactProfileClimbRow.holds Try.pinned (OpenSpec.ofChange fnExactProfileClimbWrong)

/-- 'laws.FnExactThinValid': WHATEVER THE INPUT: true; the input reads as it did. -/
def fnExactThinValidSpec : ChangeSpec := { name := "fnExactThinValid", fn := fun _ => fun
  | [d1, d2] => { results := [.lit (.bool true)], args := [d1, d2] }
  | _ => none }
def fnExactThinValidRow : OpenClaim := { program := "ytcphgpkcaoboaaa", sum := "92d17916d1edd4b23b4a3247f485923ab065adfadd8c3f43443d38946efd5088", func := "loop.example/reliefmaps/laws.FnExactThinValid", spec := "fnExactThinValid", apart := false }
def FnExactThinValidSaid : Prop := fnExactThinValidRow.holds Try.pinned (OpenSpec.ofChange fnExactThinValidSpec)

/-- ITS FALSE NEIGHBOUR: 'it returns false'. Refute it at one input. -/
def fnExactThinValidWrong : ChangeSpec := { name := "fnExactThinValid", fn := fun _ => fun
  | [d1, d2] => { results := [.lit (.bool false)], args := [d1, d2] }
  | _ => none }
def FnExactThinValidWrongFalsely : Prop := fnExactThinValidRow.holds Try.pinned (OpenSpec.ofChange fnExactThinValidWrong)

/-- 'laws.FnExactProfileBack': WHATEVER THE INPUT: true; the input reads as it did. -/
def fnExactProfileBackSpec : ChangeSpec := { name := "fnExactProfileBack", fn := fun _ => fun
  | [d] => { results := [.lit (.bool true)], args := [d] }
  | _ => none }
def fnExactProfileBackRow : OpenClaim := { program := "ytcphgpkcaoboaaa", sum := "92d17916d1edd4b23b4a3247f485923ab065adfadd8c3f43443d38946efd5088", func := "loop.example/reliefmaps/laws.FnExactProfileBack", spec := "fnExactProfileBack", apart := false }
def FnExactProfileBackSaid : Prop := fnExactProfileBackRow.holds Try.pinned (OpenSpec.ofChange fnExactProfileBackSpec)

/-- ITS FALSE NEIGHBOUR: 'it returns false'. Refute it at one input. -/
def fnExactProfileBackWrong : ChangeSpec := { name := "fnExactProfileBack", fn := fun _ => fun
  | [d] => { results := [.lit (.bool false)], args := [d] }
  | _ => none }
def FnExactProfileBackWrongFalsely : Prop := fnExactProfileBackRow.holds Try.pinned (OpenSpec.ofChange fnExactProfileBackWrong)

/-- 'laws.FnExactThinHalf': WHATEVER THE INPUT: true; the input reads as it did. -/
def fnExactThinHalfSpec : ChangeSpec := { name := "fnExactThinHalf", fn := fun _ => fun
  | [d] => { results := [.lit (.bool true)], args := [d] }
  | _ => none }
def fnExactThinHalfRow : OpenClaim := { program := "ytcphgpkcaoboaaa", sum := "92d17916d1edd4b23b4a3247f485923ab065adfadd8c3f43443d38946efd5088", func := "loop.example/reliefmaps/laws.FnExactThinHalf", spec := "fnExactThinHalf", apart := false }
def FnExactThinHalfSaid : Prop := fnExactThinHalfRow.holds Try.pinned (OpenSpec.ofChange fnExactThinHalfSpec)

/-- ITS FALSE NEIGHBOUR: 'it returns false'. Refute it at one input. -/
def fnExactThinHalfWrong : ChangeSpec := { name := "fnExactThinHalf", fn := fun _ => fun
  | [d] => { results := [.lit (.bool false)], args := [d] }
  | _ => none }
def FnExactThinHalfWrongFalsely : Prop := fnExactThinHalfRow.holds Try.pinned (OpenSpec.ofChange fnExactThinHalfWrong)

/-- 'laws.FnExactProfileTilt': WHATEVER THE INPUT: true; the input reads as it did. -/
def fnExactProfileTiltSpec : ChangeSpec := { name := "fnExactProfileTilt", fn := fun _ => fun
  | [d1, d2] => { results := [.lit (.bool true)], args := [d1, d2] }
  | _ => none }
def fnExactProfileTiltRow : OpenClaim := { program := "ytcphgpkcaoboaaa", sum := "92d17916d1edd4b23b4a3247f485923ab065adfadd8c3f43443d38946efd5088", func := "loop.example/reliefmaps/laws.FnExactProfileTilt", spec := "fnExactProfileTilt", apart := false }
def FnExactProfileTiltSaid : Prop := fnExactProfileTiltRow.holds Try.pinned (OpenSpec.ofChange fnExactProfileTiltSpec)

/-- ITS FALSE NEIGHBOUR: 'it returns false'. Refute it at one input. -/
def fnExactProfileTiltWrong : ChangeSpec := { name := "fnExactProfileTilt", fn := fun _ => fun
  | [d1, d2] => { results := [.lit (.bool false)], args := [d1, d2] }
  | _ => none }
def FnExactProfileTiltWrongFalsely : Prop := fnExactProfileTiltRow.holds Try.pinned (OpenSpec.ofChange fnExactProfileTiltWrong)

/- THE SECOND FORM. 'bulk': how many values and letters a reading holds, each counted each time it is reached (what is shared counts as often as it is met; a slice's spare places count too). A statement '..UptoSaid' is the law's where the arguments, and the package variables that the reading takes, are together of bulk at most 1048576: NARROWER than '..Said'. Prove '..Said' where nothing that the law and all that it calls make is longer than what came in: it says more and counts as full. Else prove '..UptoSaid'. A law counts once. -/
mutual
def uptoBulk {H : Type} : DataW H → Nat
  | .lit (.string bytes) => bytes.length + 1
  | .lit _ => 1
  | .nil => 1
  | .ptr d => uptoBulk d + 1
  | .slice elems spare => uptoBulkAll elems + uptoBulkAll spare + 1
  | .agg parts => uptoBulkAll parts + 1
  | .iface _ d => uptoBulk d + 1
  | .map entries => uptoBulkEntries entries + 1
  | .held _ => 1
def uptoBulkAll {H : Type} : List (DataW H) → Nat
  | [] => 0
  | d :: r => uptoBulk d + uptoBulkAll r
def uptoBulkEntries {H : Type} : List (Lit × DataW H) → Nat
  | [] => 0
  | x :: r => uptoBulkEntry x + uptoBulkEntries r
def uptoBulkEntry {H : Type} : Lit × DataW H → Nat
  | (.string bytes, d) => bytes.length + uptoBulk d + 1
  | (_, d) => uptoBulk d + 1
 end
def uptoSmall : (H : Type) → List (DataW H) → Bool := fun _ ds => decide (uptoBulkAll ds ≤ 1048576)
def OpenSpec.upto (s : _root_.Go.ChangeSpec) : _root_.Go.OpenSpec := { _root_.Go.OpenSpec.ofChange s with cond := some uptoSmall }

/-- 'laws.FnExactProfileValid', WHERE WHAT IT READS IS OF BULK AT MOST 1048576: true; the input reads as it did. -/
def fnExactProfileValidUptoRow : OpenClaim := { program := "ytcphgpkcaoboaaa", sum := "92d17916d1edd4b23b4a3247f485923ab065adfadd8c3f43443d38946efd5088", func := "loop.example/reliefmaps/laws.FnExactProfileValid", spec := "fnExactProfileValid", apart := false, narrowed := true }
def FnExactProfileValidUptoSaid : Prop := fnExactProfileValidUptoRow.holds Try.pinned (OpenSpec.upto fnExactProfileValidSpec)

/-- 'laws.FnExactProfileClimb', WHERE WHAT IT READS IS OF BULK AT MOST 1048576: true; the input reads as it did. -/
def fnExactProfileClimbUptoRow : OpenClaim := { program := "ytcphgpkcaoboaaa", sum := "92d17916d1edd4b23b4a3247f485923ab065adfadd8c3f43443d38946efd5088", func := "loop.example/reliefmaps/laws.FnExactProfileClimb", spec := "fnExactProfileClimb", apart := false, narrowed := true }
def FnExactProfileClimbUptoSaid : Prop := fnExactProfileClimbUptoRow.holds Try.pinned (OpenSpec.upto fnExactProfileClimbSpec)

/-- 'laws.FnExactThinValid', WHERE WHAT IT READS IS OF BULK AT MOST 1048576: true; the input reads as it did. -/
def fnExactThinValidUptoRow : OpenClaim := { program := "ytcphgpkcaoboaaa", sum := "92d17916d1edd4b23b4a3247f485923ab065adfadd8c3f43443d38946efd5088", func := "loop.example/reliefmaps/laws.FnExactThinValid", spec := "fnExactThinValid", apart := false, narrowed := true }
def FnExactThinValidUptoSaid : Prop := fnExactThinValidUptoRow.holds Try.pinned (OpenSpec.upto fnExactThinValidSpec)

/-- 'laws.FnExactProfileBack', WHERE WHAT IT READS IS OF BULK AT MOST 1048576: true; the input reads as it did. -/
def fnExactProfileBackUptoRow : OpenClaim := { program := "ytcphgpkcaoboaaa", sum := "92d17916d1edd4b23b4a3247f485923ab065adfadd8c3f43443d38946efd5088", func := "loop.example/reliefmaps/laws.FnExactProfileBack", spec := "fnExactProfileBack", apart := false, narrowed := true }
def FnExactProfileBackUptoSaid : Prop := fnExactProfileBackUptoRow.holds Try.pinned (OpenSpec.upto fnExactProfileBackSpec)

/-- 'laws.FnExactThinHalf', WHERE WHAT IT READS IS OF BULK AT MOST 1048576: true; the input reads as it did. -/
def fnExactThinHalfUptoRow : OpenClaim := { program := "ytcphgpkcaoboaaa", sum := "92d17916d1edd4b23b4a3247f485923ab065adfadd8c3f43443d38946efd5088", func := "loop.example/reliefmaps/laws.FnExactThinHalf", spec := "fnExactThinHalf", apart := false, narrowed := true }
def FnExactThinHalfUptoSaid : Prop := fnExactThinHalfUptoRow.holds Try.pinned (OpenSpec.upto fnExactThinHalfSpec)

/-- 'laws.FnExactProfileTilt', WHERE WHAT IT READS IS OF BULK AT MOST 1048576: true; the input reads as it did. -/
def fnExactProfileTiltUptoRow : OpenClaim := { program := "ytcphgpkcaoboaaa", sum := "92d17916d1edd4b23b4a3247f485923ab065adfadd8c3f43443d38946efd5088", func := "loop.example/reliefmaps/laws.FnExactProfileTilt", spec := "fnExactProfileTilt", apart := false, narrowed := true }
def FnExactProfileTiltUptoSaid : Prop := fnExactProfileTiltUptoRow.holds Try.pinned (OpenSpec.upto fnExactProfileTiltSpec)

end Rows
end Go.Proofs.Ytcphgpkcaoboaaa
