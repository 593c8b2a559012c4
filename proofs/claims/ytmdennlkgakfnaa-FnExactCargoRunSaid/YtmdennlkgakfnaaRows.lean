/-
  No cell of these rows narrows 'for every input' (looked for: loops, veiled, ifaces, maps, wideKeys, modest, calm, conditions, laid).
  DERIVED. THE GIVEN ROWS OF THIS SEAT. 5 by the template 'for every input the law returns true; each argument reads behind the call as it read before'; 0 by the template 'total and deterministic' (their statements: YtmdennlkgakfnaaTotals.lean).
  GIVEN WITH THE SEED: the statements are not yours to turn. If you find one false, say at which input.
  Laid BY PROGRAM, IN A SANDBOX (cutbox-rows.mjs): the forced cells as the released guide's own fill.sh prints them over the translation cdaa85f3afee1f0f… (all of the seat's roots in one cut). By AI agents, Wed Nov 11 2026. No macro, syntax, notation, axiom, sorry.
-/
import Derived.Test.YtmdennlkgakfnaaChecked
import GoSem.Claim
import GoSem.ClaimJoined
import GoSem.ClaimMapViews
import Derived.JoinedTies
import Derived.KernelRfl
namespace Go.Proofs.Ytmdennlkgakfnaa
/- THE CELL 'sum', in the pinned program and in every row, IS THE sha256 OF THE DUMP (.gsa) THAT YtmdennlkgakfnaaProg.lean LOADS. Nothing in Lean hashes anything: it is a label: what it is worth is what the hold of that sum in a sandbox is worth. -/
noncomputable def Try.pinned : Pinned := { name := "ytmdennlkgakfnaa", sum := "cdaa85f3afee1f0f2a3d196efbe785ae504f48fff84dd019a0bd1d0f02866e0d", checked := Try.checked }
namespace Rows
def none {H : Type} : Left H := { results := [], args := [] }

/-- 'laws.FnSegments': WHATEVER THE INPUT: true; the input reads as it did. -/
def fnSegmentsSpec : ChangeSpec := { name := "fnSegments", fn := fun _ => fun
  | [d] => { results := [.lit (.bool true)], args := [d] }
  | _ => none }
def fnSegmentsRow : OpenClaim := { program := "ytmdennlkgakfnaa", sum := "cdaa85f3afee1f0f2a3d196efbe785ae504f48fff84dd019a0bd1d0f02866e0d", func := "loop.example/g00059/laws.FnSegments", spec := "fnSegments", inPlace := ["internal/abi.NoEscape"], unfollowed := true, recurses := true, apart := false }
def FnSegmentsSaid : Prop := fnSegmentsRow.holds Try.pinned (OpenSpec.ofChange fnSegmentsSpec)

/-- ITS FALSE NEIGHBOUR: 'it returns false'. Refute it at one input. -/
def fnSegmentsWrong : ChangeSpec := { name := "fnSegments", fn := fun _ => fun
  | [d] => { results := [.lit (.bool false)], args := [d] }
  | _ => none }
def FnSegmentsWrongFalsely : Prop := fnSegmentsRow.holds Try.pinned (OpenSpec.ofChange fnSegmentsWrong)

/-- 'laws.FnBerths': WHATEVER THE INPUT: true; the input reads as it did. -/
def fnBerthsSpec : ChangeSpec := { name := "fnBerths", fn := fun _ => fun
  | [d] => { results := [.lit (.bool true)], args := [d] }
  | _ => none }
def fnBerthsRow : OpenClaim := { program := "ytmdennlkgakfnaa", sum := "cdaa85f3afee1f0f2a3d196efbe785ae504f48fff84dd019a0bd1d0f02866e0d", func := "loop.example/g00059/laws.FnBerths", spec := "fnBerths", unfollowed := true, recurses := true, apart := false }
def FnBerthsSaid : Prop := fnBerthsRow.holds Try.pinned (OpenSpec.ofChange fnBerthsSpec)

/-- ITS FALSE NEIGHBOUR: 'it returns false'. Refute it at one input. -/
def fnBerthsWrong : ChangeSpec := { name := "fnBerths", fn := fun _ => fun
  | [d] => { results := [.lit (.bool false)], args := [d] }
  | _ => none }
def FnBerthsWrongFalsely : Prop := fnBerthsRow.holds Try.pinned (OpenSpec.ofChange fnBerthsWrong)

/-- 'laws.FnExactCargoRun': WHATEVER THE INPUT: true; the input reads as it did. -/
def fnExactCargoRunSpec : ChangeSpec := { name := "fnExactCargoRun", fn := fun _ => fun
  | [d1, d2, d3] => { results := [.lit (.bool true)], args := [d1, d2, d3] }
  | _ => none }
def fnExactCargoRunRow : OpenClaim := { program := "ytmdennlkgakfnaa", sum := "cdaa85f3afee1f0f2a3d196efbe785ae504f48fff84dd019a0bd1d0f02866e0d", func := "loop.example/g00059/laws.FnExactCargoRun", spec := "fnExactCargoRun", unfollowed := true, recurses := true, apart := false }
def FnExactCargoRunSaid : Prop := fnExactCargoRunRow.holds Try.pinned (OpenSpec.ofChange fnExactCargoRunSpec)

/-- ITS FALSE NEIGHBOUR: 'it returns false'. Refute it at one input. -/
def fnExactCargoRunWrong : ChangeSpec := { name := "fnExactCargoRun", fn := fun _ => fun
  | [d1, d2, d3] => { results := [.lit (.bool false)], args := [d1, d2, d3] }
  | _ => none }
def FnExactCargoRunWrongFalsely : Prop := fnExactCargoRunRow.holds Try.pinned (OpenSpec.ofChange fnExactCargoRunWrong)

/-- 'laws.FnExactBerthAll': WHATEVER THE INPUT: true; the input reads as it did. -/
def fnExactBerthAllSpec : ChangeSpec := { name := "fnExactBerthAll", fn := fun _ => fun
  | [d1, d2] => { results := [.lit (.bool true)], args := [d1, d2] }
  | _ => none }
def fnExactBerthAllRow : OpenClaim := { program := "ytmdennlkgakfnaa", sum := "cdaa85f3afee1f0f2a3d196efbe785ae504f48fff84dd019a0bd1d0f02866e0d", func := "loop.example/g00059/laws.FnExactBerthAll", spec := "fnExactBerthAll", unfollowed := true, recurses := true, apart := false }
def FnExactBerthAllSaid : Prop := fnExactBerthAllRow.holds Try.pinned (OpenSpec.ofChange fnExactBerthAllSpec)

/-- ITS FALSE NEIGHBOUR: 'it returns false'. Refute it at one input. -/
def fnExactBerthAllWrong : ChangeSpec := { name := "fnExactBerthAll", fn := fun _ => fun
  | [d1, d2] => { results := [.lit (.bool false)], args := [d1, d2] }
  | _ => none }
def FnExactBerthAllWrongFalsely : Prop := fnExactBerthAllRow.holds Try.pinned (OpenSpec.ofChange fnExactBerthAllWrong)

/-- 'laws.FnExactRunYard': WHATEVER THE INPUT: true; the input reads as it did. -/
def fnExactRunYardSpec : ChangeSpec := { name := "fnExactRunYard", fn := fun _ => fun
  | [d1, d2] => { results := [.lit (.bool true)], args := [d1, d2] }
  | _ => none }
def fnExactRunYardRow : OpenClaim := { program := "ytmdennlkgakfnaa", sum := "cdaa85f3afee1f0f2a3d196efbe785ae504f48fff84dd019a0bd1d0f02866e0d", func := "loop.example/g00059/laws.FnExactRunYard", spec := "fnExactRunYard", apart := false }
def FnExactRunYardSaid : Prop := fnExactRunYardRow.holds Try.pinned (OpenSpec.ofChange fnExactRunYardSpec)

/-- ITS FALSE NEIGHBOUR: 'it returns false'. Refute it at one input. -/
def fnExactRunYardWrong : ChangeSpec := { name := "fnExactRunYard", fn := fun _ => fun
  | [d1, d2] => { results := [.lit (.bool false)], args := [d1, d2] }
  | _ => none }
def FnExactRunYardWrongFalsely : Prop := fnExactRunYardRow.holds Try.pinned (OpenSpec.ofChange fnExactRunYardWrong)

/- THE SECOND FORM. 'bulk': how many values and letters a reading holds, each counted each time it is reached (what is shared counts as often as it is met; a slice's spare places count too). A statement '..UptoSaid' is the law's where the arguments, and the package variables that the reading takes, are together of bulk at most 1048576: NARROWER than '..Said'. Prove '..Said' where nothing that the law and all that it calls make is longer than what came in: it says more and counts as full. Else prove '..UptoSaid'. A law counts once. -/
mutual
def uptoBulk {H : Type} : DataW H → Nat
  | .lit (.string bytes) => bytes.length + 1
  | .lit _ => 1
  | .nil => 1
  | .ptr d => uptoBulk d + 1
  | .slice elems spare => uptoBulkAll elems + uptoBulkAll spare + 1
  | .agg parts => uptoBulkAll parts + 1
  | .iface _ d => uptoBulk d + 1
  | .map entries => uptoBulkEntries entries + 1
  | .held _ => 1
def uptoBulkAll {H : Type} : List (DataW H) → Nat
  | [] => 0
  | d :: r => uptoBulk d + uptoBulkAll r
def uptoBulkEntries {H : Type} : List (Lit × DataW H) → Nat
  | [] => 0
  | x :: r => uptoBulkEntry x + uptoBulkEntries r
def uptoBulkEntry {H : Type} : Lit × DataW H → Nat
  | (.string bytes, d) => bytes.length + uptoBulk d + 1
  | (_, d) => uptoBulk d + 1
 end
def uptoSmall : (H : Type) → List (DataW H) → Bool := fun _ ds => decide (uptoBulkAll ds ≤ 1048576)
def OpenSpec.upto (s : _root_.Go.ChangeSpec) : _root_.Go.OpenSpec := { _root_.Go.OpenSpec.ofChange s with cond := some uptoSmall }

/-- 'laws.FnSegments', WHERE WHAT IT READS IS OF BULK AT MOST 1048576: true; the input reads as it did. -/
def fnSegmentsUptoRow : OpenClaim := { program := "ytmdennlkgakfnaa", sum := "cdaa85f3afee1f0f2a3d196efbe785ae504f48fff84dd019a0bd1d0f02866e0d", func := "loop.example/g00059/laws.FnSegments", spec := "fnSegments", inPlace := ["internal/abi.NoEscape"], unfollowed := true, recurses := true, apart := false, narrowed := true }
def FnSegmentsUptoSaid : Prop := fnSegmentsUptoRow.holds Try.pinned (OpenSpec.upto fnSegmentsSpec)

/-- 'laws.FnBerths', WHERE WHAT IT READS IS OF BULK AT MOST 1048576: true; the input reads as it did. -/
def fnBerthsUptoRow : OpenClaim := { program := "ytmdennlkgakfnaa", sum := "cdaa85f3afee1f0f2a3d196efbe785ae504f48fff84dd019a0bd1d0f02866e0d", func := "loop.example/g00059/laws.FnBerths", spec := "fnBerths", unfollowed := true, recurses := true, apart := false, narrowed := true }
def FnBerthsUptoSaid : Prop := fnBerthsUptoRow.holds Try.pinned (OpenSpec.upto fnBerthsSpec)

/-- 'laws.FnExactCargoRun', WHERE WHAT IT READS IS OF BULK AT MOST 1048576: true; the input reads as it did. -/
def fnExactCargoRunUptoRow : OpenClaim := { program := "ytmdennlkgakfnaa", sum := "cdaa85f3afee1f0f2a3d196efbe785ae504f48fff84dd019a0bd1d0f02866e0d", func := "loop.example/g00059/laws.FnExactCargoRun", spec := "fnExactCargoRun", unfollowed := true, recurses := true, apart := false, narrowed := true }
def FnExactCargoRunUptoSaid : Prop := fnExactCargoRunUptoRow.holds Try.pinned (OpenSpec.upto fnExactCargoRunSpec)

/-- 'laws.FnExactBerthAll', WHERE WHAT IT READS IS OF BULK AT MOST 1048576: true; the input reads as it did. -/
def fnExactBerthAllUptoRow : OpenClaim := { program := "ytmdennlkgakfnaa", sum := "cdaa85f3afee1f0f2a3d196efbe785ae504f48fff84dd019a0bd1d0f02866e0d", func := "loop.example/g00059/laws.FnExactBerthAll", spec := "fnExactBerthAll", unfollowed := true, recurses := true, apart := false, narrowed := true }
def FnExactBerthAllUptoSaid : Prop := fnExactBerthAllUptoRow.holds Try.pinned (OpenSpec.upto fnExactBerthAllSpec)

/-- 'laws.FnExactRunYard', WHERE WHAT IT READS IS OF BULK AT MOST 1048576: true; the input reads as it did. -/
def fnExactRunYardUptoRow : OpenClaim := { program := "ytmdennlkgakfnaa", sum := "cdaa85f3afee1f0f2a3d196efbe785ae504f48fff84dd019a0bd1d0f02866e0d", func := "loop.example/g00059/laws.FnExactRunYard", spec := "fnExactRunYard", apart := false, narrowed := true }
def FnExactRunYardUptoSaid : Prop := fnExactRunYardUptoRow.holds Try.pinned (OpenSpec.upto fnExactRunYardSpec)

end Rows
end Go.Proofs.Ytmdennlkgakfnaa
