/-
  No cell of these rows narrows 'for every input' (looked for: loops, veiled, ifaces, maps, wideKeys, modest, calm, conditions, laid).
  DERIVED. THE GIVEN ROWS OF THIS SEAT. 5 by the template 'for every input the law returns true; each argument reads behind the call as it read before'; 0 by the template 'total and deterministic' (their statements: YtkhhloeemecokaaTotals.lean).
  GIVEN WITH THE SEED: the statements are not yours to turn. If you find one false, say at which input.
  Laid BY PROGRAM, IN A SANDBOX (cutbox-rows.mjs): the forced cells as the released guide's own fill.sh prints them over the translation febb22aadf7e285f… (all of the seat's roots in one cut). By AI agents, Wed Nov 11 2026. No macro, syntax, notation, axiom, sorry.
-/
import Derived.Test.YtkhhloeemecokaaChecked
import GoSem.Claim
import GoSem.ClaimJoined
import GoSem.ClaimMapViews
import Derived.JoinedTies
import Derived.KernelRfl
namespace Go.Proofs.Ytkhhloeemecokaa
/- THE CELL 'sum', in the pinned program and in every row, IS THE sha256 OF THE DUMP (.gsa) THAT YtkhhloeemecokaaProg.lean LOADS. Nothing in Lean hashes anything: it is a label: what it is worth is what the hold of that sum in a sandbox is worth. -/
noncomputable def Try.pinned : Pinned := { name := "ytkhhloeemecokaa", sum := "febb22aadf7e285fe167950749a51b5f69a0a6eadcb6b3935765bd265aabc420", checked := Try.checked }
namespace Rows
def none {H : Type} : Left H := { results := [], args := [] }

/-- 'laws.FnFlood': WHATEVER THE INPUT: true; the input reads as it did. -/
def fnFloodSpec : ChangeSpec := { name := "fnFlood", fn := fun _ => fun
  | [d] => { results := [.lit (.bool true)], args := [d] }
  | _ => none }
def fnFloodRow : OpenClaim := { program := "ytkhhloeemecokaa", sum := "febb22aadf7e285fe167950749a51b5f69a0a6eadcb6b3935765bd265aabc420", func := "loop.example/reliefmaps/laws.FnFlood", spec := "fnFlood", unfollowed := true, recurses := true, apart := false }
def FnFloodSaid : Prop := fnFloodRow.holds Try.pinned (OpenSpec.ofChange fnFloodSpec)

/-- ITS FALSE NEIGHBOUR: 'it returns false'. Refute it at one input. -/
def fnFloodWrong : ChangeSpec := { name := "fnFlood", fn := fun _ => fun
  | [d] => { results := [.lit (.bool false)], args := [d] }
  | _ => none }
def FnFloodWrongFalsely : Prop := fnFloodRow.holds Try.pinned (OpenSpec.ofChange fnFloodWrong)

/-- 'laws.FnPassWay': WHATEVER THE INPUT: true; the input reads as it did. -/
def fnPassWaySpec : ChangeSpec := { name := "fnPassWay", fn := fun _ => fun
  | [d] => { results := [.lit (.bool true)], args := [d] }
  | _ => none }
def fnPassWayRow : OpenClaim := { program := "ytkhhloeemecokaa", sum := "febb22aadf7e285fe167950749a51b5f69a0a6eadcb6b3935765bd265aabc420", func := "loop.example/reliefmaps/laws.FnPassWay", spec := "fnPassWay", unfollowed := true, recurses := true, apart := false }
def FnPassWaySaid : Prop := fnPassWayRow.holds Try.pinned (OpenSpec.ofChange fnPassWaySpec)

/-- ITS FALSE NEIGHBOUR: 'it returns false'. Refute it at one input. -/
def fnPassWayWrong : ChangeSpec := { name := "fnPassWay", fn := fun _ => fun
  | [d] => { results := [.lit (.bool false)], args := [d] }
  | _ => none }
def FnPassWayWrongFalsely : Prop := fnPassWayRow.holds Try.pinned (OpenSpec.ofChange fnPassWayWrong)

/-- 'laws.FnExactPassWay': WHATEVER THE INPUT: true; the input reads as it did. -/
def fnExactPassWaySpec : ChangeSpec := { name := "fnExactPassWay", fn := fun _ => fun
  | [d1, d2, d3] => { results := [.lit (.bool true)], args := [d1, d2, d3] }
  | _ => none }
def fnExactPassWayRow : OpenClaim := { program := "ytkhhloeemecokaa", sum := "febb22aadf7e285fe167950749a51b5f69a0a6eadcb6b3935765bd265aabc420", func := "loop.example/reliefmaps/laws.FnExactPassWay", spec := "fnExactPassWay", unfollowed := true, recurses := true, apart := false }
def FnExactPassWaySaid : Prop := fnExactPassWayRow.holds Try.pinned (OpenSpec.ofChange fnExactPassWaySpec)

/-- ITS FALSE NEIGHBOUR: 'it returns false'. Refute it at one input. -/
def fnExactPassWayWrong : ChangeSpec := { name := "fnExactPassWay", fn := fun _ => fun
  | [d1, d2, d3] => { results := [.lit (.bool false)], args := [d1, d2, d3] }
  | _ => none }
def FnExactPassWayWrongFalsely : Prop := fnExactPassWayRow.holds Try.pinned (OpenSpec.ofChange fnExactPassWayWrong)

/-- 'laws.FnKey': WHATEVER THE INPUT: true; the input reads as it did. -/
def fnKeySpec : ChangeSpec := { name := "fnKey", fn := fun _ => fun
  | [d] => { results := [.lit (.bool true)], args := [d] }
  | _ => none }
def fnKeyRow : OpenClaim := { program := "ytkhhloeemecokaa", sum := "febb22aadf7e285fe167950749a51b5f69a0a6eadcb6b3935765bd265aabc420", func := "loop.example/reliefmaps/laws.FnKey", spec := "fnKey", unfollowed := true, recurses := true, apart := false }
def FnKeySaid : Prop := fnKeyRow.holds Try.pinned (OpenSpec.ofChange fnKeySpec)

/-- ITS FALSE NEIGHBOUR: 'it returns false'. Refute it at one input. -/
def fnKeyWrong : ChangeSpec := { name := "fnKey", fn := fun _ => fun
  | [d] => { results := [.lit (.bool false)], args := [d] }
  | _ => none }
def FnKeyWrongFalsely : Prop := fnKeyRow.holds Try.pinned (OpenSpec.ofChange fnKeyWrong)

/-- 'laws.FnExactPeakProminence': WHATEVER THE INPUT: true; the input reads as it did. -/
def fnExactPeakProminenceSpec : ChangeSpec := { name := "fnExactPeakProminence", fn := fun _ => fun
  | [d1, d2] => { results := [.lit (.bool true)], args := [d1, d2] }
  | _ => none }
def fnExactPeakProminenceRow : OpenClaim := { program := "ytkhhloeemecokaa", sum := "febb22aadf7e285fe167950749a51b5f69a0a6eadcb6b3935765bd265aabc420", func := "loop.example/reliefmaps/laws.FnExactPeakProminence", spec := "fnExactPeakProminence", unfollowed := true, recurses := true, apart := false }
def FnExactPeakProminenceSaid : Prop := fnExactPeakProminenceRow.holds Try.pinned (OpenSpec.ofChange fnExactPeakProminenceSpec)

/-- ITS FALSE NEIGHBOUR: 'it returns false'. Refute it at one input. -/
def fnExactPeakProminenceWrong : ChangeSpec := { name := "fnExactPeakProminence", fn := fun _ => fun
  | [d1, d2] => { results := [.lit (.bool false)], args := [d1, d2] }
  | _ => none }
def FnExactPeakProminenceWrongFalsely : Prop := fnExactPeakProminenceRow.holds Try.pinned (OpenSpec.ofChange fnExactPeakProminenceWrong)

/- THE SECOND FORM. 'bulk': how many values and letters a reading holds, each counted each time it is reached (what is shared counts as often as it is met; a slice's spare places count too). A statement '..UptoSaid' is the law's where the arguments, and the package variables that the reading takes, are together of bulk at most 1048576: NARROWER than '..Said'. Prove '..Said' where nothing that the law and all that it calls make is longer than what came in: it says more and counts as full. Else prove '..UptoSaid'. A law counts once. -/
mutual
def uptoBulk {H : Type} : DataW H → Nat
  | .lit (.string bytes) => bytes.length + 1
  | .lit _ => 1
  | .nil => 1
  | .ptr d => uptoBulk d + 1
  | .slice elems spare => uptoBulkAll elems + uptoBulkAll spare + 1
  | .agg parts => uptoBulkAll parts + 1
  | .iface _ d => uptoBulk d + 1
  | .map entries => uptoBulkEntries entries + 1
  | .held _ => 1
def uptoBulkAll {H : Type} : List (DataW H) → Nat
  | [] => 0
  | d :: r => uptoBulk d + uptoBulkAll r
def uptoBulkEntries {H : Type} : List (Lit × DataW H) → Nat
  | [] => 0
  | x :: r => uptoBulkEntry x + uptoBulkEntries r
def uptoBulkEntry {H : Type} : Lit × DataW H → Nat
  | (.string bytes, d) => bytes.length + uptoBulk d + 1
  | (_, d) => uptoBulk d + 1
 end
def uptoSmall : (H : Type) → List (DataW H) → Bool := fun _ ds => decide (uptoBulkAll ds ≤ 1048576)
def OpenSpec.upto (s : _root_.Go.ChangeSpec) : _root_.Go.OpenSpec := { _root_.Go.OpenSpec.ofChange s with cond := some uptoSmall }

/-- 'laws.FnFlood', WHERE WHAT IT READS IS OF BULK AT MOST 1048576: true; the input reads as it did. -/
def fnFloodUptoRow : OpenClaim := { program := "ytkhhloeemecokaa", sum := "febb22aadf7e285fe167950749a51b5f69a0a6eadcb6b3935765bd265aabc420", func := "loop.example/reliefmaps/laws.FnFlood", spec := "fnFlood", unfollowed := true, recurses := true, apart := false, narrowed := true }
def FnFloodUptoSaid : Prop := fnFloodUptoRow.holds Try.pinned (OpenSpec.upto fnFloodSpec)

/-- 'laws.FnPassWay', WHERE WHAT IT READS IS OF BULK AT MOST 1048576: true; the input reads as it did. -/
def fnPassWayUptoRow : OpenClaim := { program := "ytkhhloeemecokaa", sum := "febb22aadf7e285fe167950749a51b5f69a0a6eadcb6b3935765bd265aabc420", func := "loop.example/reliefmaps/laws.FnPassWay", spec := "fnPassWay", unfollowed := true, recurses := true, apart := false, narrowed := true }
def FnPassWayUptoSaid : Prop := fnPassWayUptoRow.holds Try.pinned (OpenSpec.upto fnPassWaySpec)

/-- 'laws.FnExactPassWay', WHERE WHAT IT READS IS OF BULK AT MOST 1048576: true; the input reads as it did. -/
def fnExactPassWayUptoRow : OpenClaim := { program := "ytkhhloeemecokaa", sum := "febb22aadf7e285fe167950749a51b5f69a0a6eadcb6b3935765bd265aabc420", func := "loop.example/reliefmaps/laws.FnExactPassWay", spec := "fnExactPassWay", unfollowed := true, recurses := true, apart := false, narrowed := true }
def FnExactPassWayUptoSaid : Prop := fnExactPassWayUptoRow.holds Try.pinned (OpenSpec.upto fnExactPassWaySpec)

/-- 'laws.FnKey', WHERE WHAT IT READS IS OF BULK AT MOST 1048576: true; the input reads as it did. -/
def fnKeyUptoRow : OpenClaim := { program := "ytkhhloeemecokaa", sum := "febb22aadf7e285fe167950749a51b5f69a0a6eadcb6b3935765bd265aabc420", func := "loop.example/reliefmaps/laws.FnKey", spec := "fnKey", unfollowed := true, recurses := true, apart := false, narrowed := true }
def FnKeyUptoSaid : Prop := fnKeyUptoRow.holds Try.pinned (OpenSpec.upto fnKeySpec)

/-- 'laws.FnExactPeakProminence', WHERE WHAT IT READS IS OF BULK AT MOST 1048576: true; the input reads as it did. -/
def fnExactPeakProminenceUptoRow : OpenClaim := { program := "ytkhhloeemecokaa", sum := "febb22aadf7e285fe167950749a51b5f69a0a6eadcb6b3935765bd265aabc420", func := "loop.example/reliefmaps/laws.FnExactPeakProminence", spec := "fnExactPeakProminence", unfollowed := true, recurses := true, apart := false, narrowed := true }
def FnExactPeakProminenceUptoSaid : Prop := fnExactPeakProminenceUptoRow.holds Try.pinned (OpenSpec.upto fnExactPeakProminenceSpec)

end Rows
end Go.Proofs.Ytkhhloeemecokaa
