/-
  NARROWER THAN 'FOR EVERY INPUT', by the rows' own cells (each row's printed sentence says how): QueryNames: loops, laid · QueryLogic: loops, laid · QueryEvals: loops, laid.
  DERIVED. THE GIVEN ROWS OF THIS SEAT. 3 by the template 'for every input the law returns true; each argument reads behind the call as it read before'; 0 by the template 'total and deterministic' (their statements: YtbemeapjeipjlaaGreatDoorTotals.lean).
  GIVEN WITH THE SEED: the statements are not yours to turn. If you find one false, say at which input.
  Laid BY PROGRAM, IN A SANDBOX (cutbox-rows.mjs): the forced cells as the released guide's own fill.sh prints them over the translation 6d96166d5c63e658… (all of the seat's roots in one cut). By AI agents, Wed Nov 11 2026. No macro, syntax, notation, axiom, sorry.
-/
import Derived.Test.YtbemeapjeipjlaaGreatDoorChecked
import GoSem.Claim
import GoSem.ClaimJoined
import GoSem.ClaimMapViews
import Derived.JoinedTies
import Derived.KernelRfl
namespace Go.Proofs.YtbemeapjeipjlaaGreatDoor
/- THE CELL 'sum', in the pinned program and in every row, IS THE sha256 OF THE DUMP (.gsa) THAT YtbemeapjeipjlaaGreatDoorProg.lean LOADS. Nothing in Lean hashes anything: it is a label: what it is worth is what the hold of that sum in a sandbox is worth. -/
noncomputable def Tryz.pinned : Pinned := { name := "ytbemeapjeipjlaagreatdoor", sum := "6d96166d5c63e658db11342d0827952bdc669d76b5d0c4f16e2a2f5e636d9fdd", checked := Tryz.checked }
namespace Rows
def none {H : Type} : Left H := { results := [], args := [] }

/- WHAT THE LISTED PACKAGE-LEVEL VARIABLES READ AS WHEN THE CALL BEGINS. Each datum BY PROGRAM (the guide's laid-datum.mjs) off the statement by which the dump's own 'gosem.cut.vars' lays the variable. In a bare row this is a premise. The card (YtbemeapjeipjlaaGreatDoorCards.lean) ties it to the program's text. -/
def laid_tenon_query_words {H : Type} : DataW H := .slice [.lit (.string [111, 114]), .lit (.string [97, 110, 100]), .lit (.string [110, 111, 116]), .lit (.string [105, 110]), .lit (.string [105, 115]), .lit (.string [110, 105, 108]), .lit (.string [116, 114, 117, 101]), .lit (.string [102, 97, 108, 115, 101]), .lit (.string [115, 101, 108, 102]), .lit (.string [110, 97, 110])] []
def laid_tenon_query_kinds {H : Type} : DataW H := .slice [.lit (.string []), .lit (.string [110, 105, 108]), .lit (.string [98, 111, 111, 108]), .lit (.string [105, 110, 116]), .lit (.string [102, 108, 111, 97, 116]), .lit (.string [116, 101, 120, 116]), .lit (.string [98, 121, 116, 101, 115]), .lit (.string [114, 101, 102]), .lit (.string [108, 105, 115, 116]), .lit (.string [100, 105, 99, 116]), .lit (.string [114, 101, 99, 111, 114, 100])] []

/-- 'tenonlaw17.QueryNames': WHATEVER THE INPUT: true; the input reads as it did. -/
def queryNamesSpec : ChangeSpec := { name := "queryNames", fn := fun _ => fun
  | [d1, d2, d3] => { results := [.lit (.bool true)], args := [d1, d2, d3] }
  | _ => none }
def queryNamesRow : OpenClaim := { program := "ytbemeapjeipjlaagreatdoor", sum := "6d96166d5c63e658db11342d0827952bdc669d76b5d0c4f16e2a2f5e636d9fdd", func := "tenon/tenonlaw17.QueryNames", spec := "queryNames", inPlace := ["math.Float64bits", "math.Float64frombits", "math.archCeil", "math.archFloor", "math.archTrunc"], unfollowed := true, recurses := true, named := ["tenon/query.words", "tenon/query.kinds"], loops := true, apart := false, laid := [("tenon/query.words", laid_tenon_query_words), ("tenon/query.kinds", laid_tenon_query_kinds)] }
def QueryNamesSaid : Prop := queryNamesRow.holds Tryz.pinned (OpenSpec.ofChange queryNamesSpec)

/-- ITS FALSE NEIGHBOUR: 'it returns false'. Refute it at one input. -/
def queryNamesWrong : ChangeSpec := { name := "queryNames", fn := fun _ => fun
  | [d1, d2, d3] => { results := [.lit (.bool false)], args := [d1, d2, d3] }
  | _ => none }
def QueryNamesWrongFalsely : Prop := queryNamesRow.holds Tryz.pinned (OpenSpec.ofChange queryNamesWrong)

/-- 'tenonlaw17.QueryLogic': WHATEVER THE INPUT: true; the input reads as it did. -/
def queryLogicSpec : ChangeSpec := { name := "queryLogic", fn := fun _ => fun
  | [d1, d2, d3] => { results := [.lit (.bool true)], args := [d1, d2, d3] }
  | _ => none }
def queryLogicRow : OpenClaim := { program := "ytbemeapjeipjlaagreatdoor", sum := "6d96166d5c63e658db11342d0827952bdc669d76b5d0c4f16e2a2f5e636d9fdd", func := "tenon/tenonlaw17.QueryLogic", spec := "queryLogic", inPlace := ["math.Float64bits", "math.Float64frombits", "math.archCeil", "math.archFloor", "math.archTrunc"], unfollowed := true, recurses := true, named := ["tenon/query.words", "tenon/query.kinds"], loops := true, apart := false, laid := [("tenon/query.words", laid_tenon_query_words), ("tenon/query.kinds", laid_tenon_query_kinds)] }
def QueryLogicSaid : Prop := queryLogicRow.holds Tryz.pinned (OpenSpec.ofChange queryLogicSpec)

/-- ITS FALSE NEIGHBOUR: 'it returns false'. Refute it at one input. -/
def queryLogicWrong : ChangeSpec := { name := "queryLogic", fn := fun _ => fun
  | [d1, d2, d3] => { results := [.lit (.bool false)], args := [d1, d2, d3] }
  | _ => none }
def QueryLogicWrongFalsely : Prop := queryLogicRow.holds Tryz.pinned (OpenSpec.ofChange queryLogicWrong)

/-- 'tenonlaw17.QueryEvals': WHATEVER THE INPUT: true; the input reads as it did. -/
def queryEvalsSpec : ChangeSpec := { name := "queryEvals", fn := fun _ => fun
  | [d1, d2] => { results := [.lit (.bool true)], args := [d1, d2] }
  | _ => none }
def queryEvalsRow : OpenClaim := { program := "ytbemeapjeipjlaagreatdoor", sum := "6d96166d5c63e658db11342d0827952bdc669d76b5d0c4f16e2a2f5e636d9fdd", func := "tenon/tenonlaw17.QueryEvals", spec := "queryEvals", inPlace := ["math.Float64bits", "math.Float64frombits", "math.archCeil", "math.archFloor", "math.archTrunc"], unfollowed := true, recurses := true, named := ["tenon/query.words", "tenon/query.kinds"], loops := true, apart := false, laid := [("tenon/query.words", laid_tenon_query_words), ("tenon/query.kinds", laid_tenon_query_kinds)] }
def QueryEvalsSaid : Prop := queryEvalsRow.holds Tryz.pinned (OpenSpec.ofChange queryEvalsSpec)

/-- ITS FALSE NEIGHBOUR: 'it returns false'. Refute it at one input. -/
def queryEvalsWrong : ChangeSpec := { name := "queryEvals", fn := fun _ => fun
  | [d1, d2] => { results := [.lit (.bool false)], args := [d1, d2] }
  | _ => none }
def QueryEvalsWrongFalsely : Prop := queryEvalsRow.holds Tryz.pinned (OpenSpec.ofChange queryEvalsWrong)

/- THE SECOND FORM. 'bulk': how many values and letters a reading holds, each counted each time it is reached (what is shared counts as often as it is met; a slice's spare places count too). A statement '..UptoSaid' is the law's where the arguments, and the package variables that the reading takes, are together of bulk at most 1048576: NARROWER than '..Said'. Prove '..Said' where nothing that the law and all that it calls make is longer than what came in: it says more and counts as full. Else prove '..UptoSaid'. A law counts once. -/
mutual
def uptoBulk {H : Type} : DataW H → Nat
  | .lit (.string bytes) => bytes.length + 1
  | .lit _ => 1
  | .nil => 1
  | .ptr d => uptoBulk d + 1
  | .slice elems spare => uptoBulkAll elems + uptoBulkAll spare + 1
  | .agg parts => uptoBulkAll parts + 1
  | .iface _ d => uptoBulk d + 1
  | .map entries => uptoBulkEntries entries + 1
  | .held _ => 1
def uptoBulkAll {H : Type} : List (DataW H) → Nat
  | [] => 0
  | d :: r => uptoBulk d + uptoBulkAll r
def uptoBulkEntries {H : Type} : List (Lit × DataW H) → Nat
  | [] => 0
  | x :: r => uptoBulkEntry x + uptoBulkEntries r
def uptoBulkEntry {H : Type} : Lit × DataW H → Nat
  | (.string bytes, d) => bytes.length + uptoBulk d + 1
  | (_, d) => uptoBulk d + 1
 end
def uptoSmall : (H : Type) → List (DataW H) → Bool := fun _ ds => decide (uptoBulkAll ds ≤ 1048576)
def OpenSpec.upto (s : _root_.Go.ChangeSpec) : _root_.Go.OpenSpec := { _root_.Go.OpenSpec.ofChange s with cond := some uptoSmall }

/-- 'tenonlaw17.QueryNames', WHERE WHAT IT READS IS OF BULK AT MOST 1048576: true; the input reads as it did. -/
def queryNamesUptoRow : OpenClaim := { program := "ytbemeapjeipjlaagreatdoor", sum := "6d96166d5c63e658db11342d0827952bdc669d76b5d0c4f16e2a2f5e636d9fdd", func := "tenon/tenonlaw17.QueryNames", spec := "queryNames", inPlace := ["math.Float64bits", "math.Float64frombits", "math.archCeil", "math.archFloor", "math.archTrunc"], unfollowed := true, recurses := true, named := ["tenon/query.words", "tenon/query.kinds"], loops := true, apart := false, laid := [("tenon/query.words", laid_tenon_query_words), ("tenon/query.kinds", laid_tenon_query_kinds)], narrowed := true }
def QueryNamesUptoSaid : Prop := queryNamesUptoRow.holds Tryz.pinned (OpenSpec.upto queryNamesSpec)

/-- 'tenonlaw17.QueryLogic', WHERE WHAT IT READS IS OF BULK AT MOST 1048576: true; the input reads as it did. -/
def queryLogicUptoRow : OpenClaim := { program := "ytbemeapjeipjlaagreatdoor", sum := "6d96166d5c63e658db11342d0827952bdc669d76b5d0c4f16e2a2f5e636d9fdd", func := "tenon/tenonlaw17.QueryLogic", spec := "queryLogic", inPlace := ["math.Float64bits", "math.Float64frombits", "math.archCeil", "math.archFloor", "math.archTrunc"], unfollowed := true, recurses := true, named := ["tenon/query.words", "tenon/query.kinds"], loops := true, apart := false, laid := [("tenon/query.words", laid_tenon_query_words), ("tenon/query.kinds", laid_tenon_query_kinds)], narrowed := true }
def QueryLogicUptoSaid : Prop := queryLogicUptoRow.holds Tryz.pinned (OpenSpec.upto queryLogicSpec)

/-- 'tenonlaw17.QueryEvals', WHERE WHAT IT READS IS OF BULK AT MOST 1048576: true; the input reads as it did. -/
def queryEvalsUptoRow : OpenClaim := { program := "ytbemeapjeipjlaagreatdoor", sum := "6d96166d5c63e658db11342d0827952bdc669d76b5d0c4f16e2a2f5e636d9fdd", func := "tenon/tenonlaw17.QueryEvals", spec := "queryEvals", inPlace := ["math.Float64bits", "math.Float64frombits", "math.archCeil", "math.archFloor", "math.archTrunc"], unfollowed := true, recurses := true, named := ["tenon/query.words", "tenon/query.kinds"], loops := true, apart := false, laid := [("tenon/query.words", laid_tenon_query_words), ("tenon/query.kinds", laid_tenon_query_kinds)], narrowed := true }
def QueryEvalsUptoSaid : Prop := queryEvalsUptoRow.holds Tryz.pinned (OpenSpec.upto queryEvalsSpec)

end Rows
end Go.Proofs.YtbemeapjeipjlaaGreatDoor
