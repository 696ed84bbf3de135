/-
  NARROWER THAN 'FOR EVERY INPUT', by the rows' own cells (each row's printed sentence says how): CheckNets: laid · CheckGoals: laid · CheckMost: laid · ActiveClocks: laid · LuPlans: laid · ActivePlans: laid · LuJoins: laid · LuBelow: laid.
  DERIVED. THE GIVEN ROWS OF THIS SEAT. 8 by the template 'for every input the law returns true; each argument reads behind the call as it read before'; 0 by the template 'total and deterministic' (their statements: YtgmlimipejcpgaaGreatDoorTotals.lean).
  GIVEN WITH THE SEED: the statements are not yours to turn. If you find one false, say at which input.
  Laid BY PROGRAM, IN A SANDBOX (cutbox-rows.mjs): the forced cells as the released guide's own fill.sh prints them over the translation 509d69c455e13993… (all of the seat's roots in one cut). By AI agents, Wed Nov 11 2026. No macro, syntax, notation, axiom, sorry.
-/
import Derived.Test.YtgmlimipejcpgaaGreatDoorChecked
import GoSem.Claim
import GoSem.ClaimJoined
import GoSem.ClaimMapViews
import Derived.JoinedTies
import Derived.KernelRfl
namespace Go.Proofs.YtgmlimipejcpgaaGreatDoor
/- THE CELL 'sum', in the pinned program and in every row, IS THE sha256 OF THE DUMP (.gsa) THAT YtgmlimipejcpgaaGreatDoorProg.lean LOADS. Nothing in Lean hashes anything: it is a label: what it is worth is what the hold of that sum in a sandbox is worth. -/
noncomputable def Tryz.pinned : Pinned := { name := "ytgmlimipejcpgaagreatdoor", sum := "509d69c455e139933b9645208fb98e657b299c2b99ae33027a3bb6c47a1b98a7", checked := Tryz.checked }
namespace Rows
def none {H : Type} : Left H := { results := [], args := [] }

/- WHAT THE LISTED PACKAGE-LEVEL VARIABLES READ AS WHEN THE CALL BEGINS. Each datum BY PROGRAM (the guide's laid-datum.mjs) off the statement by which the dump's own 'gosem.cut.vars' lays the variable. In a bare row this is a premise. The card (YtgmlimipejcpgaaGreatDoorCards.lean) ties it to the program's text. -/
def laid_gnomon_expr_kinds {H : Type} : DataW H := .agg [.agg [.lit (.int .i64 0), .lit (.bool false), .lit (.bool false), .lit (.string []), .lit (.int .i64 0)], .agg [.lit (.int .i64 0), .lit (.bool false), .lit (.bool false), .lit (.string []), .lit (.int .i64 9)], .agg [.lit (.int .i64 0), .lit (.bool false), .lit (.bool false), .lit (.string []), .lit (.int .i64 9)], .agg [.lit (.int .i64 1), .lit (.bool false), .lit (.bool false), .lit (.string [45]), .lit (.int .i64 6)], .agg [.lit (.int .i64 2), .lit (.bool false), .lit (.bool false), .lit (.string [43]), .lit (.int .i64 4)], .agg [.lit (.int .i64 2), .lit (.bool false), .lit (.bool false), .lit (.string [45]), .lit (.int .i64 4)], .agg [.lit (.int .i64 2), .lit (.bool false), .lit (.bool false), .lit (.string [42]), .lit (.int .i64 5)], .agg [.lit (.int .i64 0), .lit (.bool true), .lit (.bool false), .lit (.string [116, 114, 117, 101]), .lit (.int .i64 9)], .agg [.lit (.int .i64 2), .lit (.bool true), .lit (.bool false), .lit (.string [60]), .lit (.int .i64 3)], .agg [.lit (.int .i64 2), .lit (.bool true), .lit (.bool false), .lit (.string [60, 61]), .lit (.int .i64 3)], .agg [.lit (.int .i64 2), .lit (.bool true), .lit (.bool false), .lit (.string [61, 61]), .lit (.int .i64 3)], .agg [.lit (.int .i64 2), .lit (.bool true), .lit (.bool false), .lit (.string [33, 61]), .lit (.int .i64 3)], .agg [.lit (.int .i64 1), .lit (.bool true), .lit (.bool true), .lit (.string [33]), .lit (.int .i64 9)], .agg [.lit (.int .i64 2), .lit (.bool true), .lit (.bool true), .lit (.string [38, 38]), .lit (.int .i64 2)], .agg [.lit (.int .i64 2), .lit (.bool true), .lit (.bool true), .lit (.string [124, 124]), .lit (.int .i64 1)]]
def laid_gnomon_lex_kept {H : Type} : DataW H := .agg [.lit (.string [99, 108, 111, 99, 107]), .lit (.string [105, 110, 116]), .lit (.string [99, 104, 97, 110]), .lit (.string [97, 117, 116, 111]), .lit (.string [108, 111, 99]), .lit (.string [101, 100, 103, 101]), .lit (.string [105, 110]), .lit (.string [105, 110, 118]), .lit (.string [119, 104, 101, 110]), .lit (.string [115, 121, 110, 99]), .lit (.string [100, 111]), .lit (.string [117, 114, 103, 101, 110, 116]), .lit (.string [99, 111, 109, 109, 105, 116, 116, 101, 100]), .lit (.string [116, 114, 117, 101]), .lit (.string [114, 101, 97, 99, 104]), .lit (.string [110, 101, 118, 101, 114])]

/-- 'gnomonlaw12.CheckNets': WHATEVER THE INPUT: true; the input reads as it did. -/
def checkNetsSpec : ChangeSpec := { name := "checkNets", fn := fun _ => fun
  | [d] => { results := [.lit (.bool true)], args := [d] }
  | _ => none }
def checkNetsRow : OpenClaim := { program := "ytgmlimipejcpgaagreatdoor", sum := "509d69c455e139933b9645208fb98e657b299c2b99ae33027a3bb6c47a1b98a7", func := "gnomon/gnomonlaw12.CheckNets", spec := "checkNets", unfollowed := true, recurses := true, named := ["gnomon/lex.kept", "gnomon/expr.kinds"], apart := false, laid := [("gnomon/expr.kinds", laid_gnomon_expr_kinds), ("gnomon/lex.kept", laid_gnomon_lex_kept)] }
def CheckNetsSaid : Prop := checkNetsRow.holds Tryz.pinned (OpenSpec.ofChange checkNetsSpec)

/-- ITS FALSE NEIGHBOUR: 'it returns false'. Refute it at one input. -/
def checkNetsWrong : ChangeSpec := { name := "checkNets", fn := fun _ => fun
  | [d] => { results := [.lit (.bool false)], args := [d] }
  | _ => none }
def CheckNetsWrongFalsely : Prop := checkNetsRow.holds Tryz.pinned (OpenSpec.ofChange checkNetsWrong)

/-- 'gnomonlaw12.CheckGoals': WHATEVER THE INPUT: true; the input reads as it did. -/
def checkGoalsSpec : ChangeSpec := { name := "checkGoals", fn := fun _ => fun
  | [d1, d2] => { results := [.lit (.bool true)], args := [d1, d2] }
  | _ => none }
def checkGoalsRow : OpenClaim := { program := "ytgmlimipejcpgaagreatdoor", sum := "509d69c455e139933b9645208fb98e657b299c2b99ae33027a3bb6c47a1b98a7", func := "gnomon/gnomonlaw12.CheckGoals", spec := "checkGoals", unfollowed := true, recurses := true, named := ["gnomon/lex.kept", "gnomon/expr.kinds"], apart := false, laid := [("gnomon/expr.kinds", laid_gnomon_expr_kinds), ("gnomon/lex.kept", laid_gnomon_lex_kept)] }
def CheckGoalsSaid : Prop := checkGoalsRow.holds Tryz.pinned (OpenSpec.ofChange checkGoalsSpec)

/-- ITS FALSE NEIGHBOUR: 'it returns false'. Refute it at one input. -/
def checkGoalsWrong : ChangeSpec := { name := "checkGoals", fn := fun _ => fun
  | [d1, d2] => { results := [.lit (.bool false)], args := [d1, d2] }
  | _ => none }
def CheckGoalsWrongFalsely : Prop := checkGoalsRow.holds Tryz.pinned (OpenSpec.ofChange checkGoalsWrong)

/-- 'gnomonlaw12.CheckMost': WHATEVER THE INPUT: true; the input reads as it did. -/
def checkMostSpec : ChangeSpec := { name := "checkMost", fn := fun _ => fun
  | [d1, d2] => { results := [.lit (.bool true)], args := [d1, d2] }
  | _ => none }
def checkMostRow : OpenClaim := { program := "ytgmlimipejcpgaagreatdoor", sum := "509d69c455e139933b9645208fb98e657b299c2b99ae33027a3bb6c47a1b98a7", func := "gnomon/gnomonlaw12.CheckMost", spec := "checkMost", unfollowed := true, recurses := true, named := ["gnomon/lex.kept", "gnomon/expr.kinds"], apart := false, laid := [("gnomon/expr.kinds", laid_gnomon_expr_kinds), ("gnomon/lex.kept", laid_gnomon_lex_kept)] }
def CheckMostSaid : Prop := checkMostRow.holds Tryz.pinned (OpenSpec.ofChange checkMostSpec)

/-- ITS FALSE NEIGHBOUR: 'it returns false'. Refute it at one input. -/
def checkMostWrong : ChangeSpec := { name := "checkMost", fn := fun _ => fun
  | [d1, d2] => { results := [.lit (.bool false)], args := [d1, d2] }
  | _ => none }
def CheckMostWrongFalsely : Prop := checkMostRow.holds Tryz.pinned (OpenSpec.ofChange checkMostWrong)

/-- 'gnomonlaw24.ActiveClocks': WHATEVER THE INPUT: true; the input reads as it did. -/
def activeClocksSpec : ChangeSpec := { name := "activeClocks", fn := fun _ => fun
  | [d1, d2, d3] => { results := [.lit (.bool true)], args := [d1, d2, d3] }
  | _ => none }
def activeClocksRow : OpenClaim := { program := "ytgmlimipejcpgaagreatdoor", sum := "509d69c455e139933b9645208fb98e657b299c2b99ae33027a3bb6c47a1b98a7", func := "gnomon/gnomonlaw24.ActiveClocks", spec := "activeClocks", unfollowed := true, recurses := true, named := ["gnomon/lex.kept", "gnomon/expr.kinds"], apart := false, laid := [("gnomon/expr.kinds", laid_gnomon_expr_kinds), ("gnomon/lex.kept", laid_gnomon_lex_kept)] }
def ActiveClocksSaid : Prop := activeClocksRow.holds Tryz.pinned (OpenSpec.ofChange activeClocksSpec)

/-- ITS FALSE NEIGHBOUR: 'it returns false'. Refute it at one input. -/
def activeClocksWrong : ChangeSpec := { name := "activeClocks", fn := fun _ => fun
  | [d1, d2, d3] => { results := [.lit (.bool false)], args := [d1, d2, d3] }
  | _ => none }
def ActiveClocksWrongFalsely : Prop := activeClocksRow.holds Tryz.pinned (OpenSpec.ofChange activeClocksWrong)

/-- 'gnomonlaw26.LuPlans': WHATEVER THE INPUT: true; the input reads as it did. -/
def luPlansSpec : ChangeSpec := { name := "luPlans", fn := fun _ => fun
  | [d1, d2, d3] => { results := [.lit (.bool true)], args := [d1, d2, d3] }
  | _ => none }
def luPlansRow : OpenClaim := { program := "ytgmlimipejcpgaagreatdoor", sum := "509d69c455e139933b9645208fb98e657b299c2b99ae33027a3bb6c47a1b98a7", func := "gnomon/gnomonlaw26.LuPlans", spec := "luPlans", unfollowed := true, recurses := true, named := ["gnomon/lex.kept", "gnomon/expr.kinds"], apart := false, laid := [("gnomon/expr.kinds", laid_gnomon_expr_kinds), ("gnomon/lex.kept", laid_gnomon_lex_kept)] }
def LuPlansSaid : Prop := luPlansRow.holds Tryz.pinned (OpenSpec.ofChange luPlansSpec)

/-- ITS FALSE NEIGHBOUR: 'it returns false'. Refute it at one input. -/
def luPlansWrong : ChangeSpec := { name := "luPlans", fn := fun _ => fun
  | [d1, d2, d3] => { results := [.lit (.bool false)], args := [d1, d2, d3] }
  | _ => none }
def LuPlansWrongFalsely : Prop := luPlansRow.holds Tryz.pinned (OpenSpec.ofChange luPlansWrong)

/-- 'gnomonlaw24.ActivePlans': WHATEVER THE INPUT: true; the input reads as it did. -/
def activePlansSpec : ChangeSpec := { name := "activePlans", fn := fun _ => fun
  | [d1, d2, d3] => { results := [.lit (.bool true)], args := [d1, d2, d3] }
  | _ => none }
def activePlansRow : OpenClaim := { program := "ytgmlimipejcpgaagreatdoor", sum := "509d69c455e139933b9645208fb98e657b299c2b99ae33027a3bb6c47a1b98a7", func := "gnomon/gnomonlaw24.ActivePlans", spec := "activePlans", unfollowed := true, recurses := true, named := ["gnomon/lex.kept", "gnomon/expr.kinds"], apart := false, laid := [("gnomon/expr.kinds", laid_gnomon_expr_kinds), ("gnomon/lex.kept", laid_gnomon_lex_kept)] }
def ActivePlansSaid : Prop := activePlansRow.holds Tryz.pinned (OpenSpec.ofChange activePlansSpec)

/-- ITS FALSE NEIGHBOUR: 'it returns false'. Refute it at one input. -/
def activePlansWrong : ChangeSpec := { name := "activePlans", fn := fun _ => fun
  | [d1, d2, d3] => { results := [.lit (.bool false)], args := [d1, d2, d3] }
  | _ => none }
def ActivePlansWrongFalsely : Prop := activePlansRow.holds Tryz.pinned (OpenSpec.ofChange activePlansWrong)

/-- 'gnomonlaw26.LuJoins': WHATEVER THE INPUT: true; the input reads as it did. -/
def luJoinsSpec : ChangeSpec := { name := "luJoins", fn := fun _ => fun
  | [d1, d2, d3] => { results := [.lit (.bool true)], args := [d1, d2, d3] }
  | _ => none }
def luJoinsRow : OpenClaim := { program := "ytgmlimipejcpgaagreatdoor", sum := "509d69c455e139933b9645208fb98e657b299c2b99ae33027a3bb6c47a1b98a7", func := "gnomon/gnomonlaw26.LuJoins", spec := "luJoins", unfollowed := true, recurses := true, named := ["gnomon/lex.kept", "gnomon/expr.kinds"], apart := false, laid := [("gnomon/expr.kinds", laid_gnomon_expr_kinds), ("gnomon/lex.kept", laid_gnomon_lex_kept)] }
def LuJoinsSaid : Prop := luJoinsRow.holds Tryz.pinned (OpenSpec.ofChange luJoinsSpec)

/-- ITS FALSE NEIGHBOUR: 'it returns false'. Refute it at one input. -/
def luJoinsWrong : ChangeSpec := { name := "luJoins", fn := fun _ => fun
  | [d1, d2, d3] => { results := [.lit (.bool false)], args := [d1, d2, d3] }
  | _ => none }
def LuJoinsWrongFalsely : Prop := luJoinsRow.holds Tryz.pinned (OpenSpec.ofChange luJoinsWrong)

/-- 'gnomonlaw26.LuBelow': WHATEVER THE INPUT: true; the input reads as it did. -/
def luBelowSpec : ChangeSpec := { name := "luBelow", fn := fun _ => fun
  | [d1, d2] => { results := [.lit (.bool true)], args := [d1, d2] }
  | _ => none }
def luBelowRow : OpenClaim := { program := "ytgmlimipejcpgaagreatdoor", sum := "509d69c455e139933b9645208fb98e657b299c2b99ae33027a3bb6c47a1b98a7", func := "gnomon/gnomonlaw26.LuBelow", spec := "luBelow", unfollowed := true, recurses := true, named := ["gnomon/lex.kept", "gnomon/expr.kinds"], apart := false, laid := [("gnomon/expr.kinds", laid_gnomon_expr_kinds), ("gnomon/lex.kept", laid_gnomon_lex_kept)] }
def LuBelowSaid : Prop := luBelowRow.holds Tryz.pinned (OpenSpec.ofChange luBelowSpec)

/-- ITS FALSE NEIGHBOUR: 'it returns false'. Refute it at one input. -/
def luBelowWrong : ChangeSpec := { name := "luBelow", fn := fun _ => fun
  | [d1, d2] => { results := [.lit (.bool false)], args := [d1, d2] }
  | _ => none }
def LuBelowWrongFalsely : Prop := luBelowRow.holds Tryz.pinned (OpenSpec.ofChange luBelowWrong)

/- THE SECOND FORM. 'bulk': how many values and letters a reading holds, each counted each time it is reached (what is shared counts as often as it is met; a slice's spare places count too). A statement '..UptoSaid' is the law's where the arguments, and the package variables that the reading takes, are together of bulk at most 1048576: NARROWER than '..Said'. Prove '..Said' where nothing that the law and all that it calls make is longer than what came in: it says more and counts as full. Else prove '..UptoSaid'. A law counts once. -/
mutual
def uptoBulk {H : Type} : DataW H → Nat
  | .lit (.string bytes) => bytes.length + 1
  | .lit _ => 1
  | .nil => 1
  | .ptr d => uptoBulk d + 1
  | .slice elems spare => uptoBulkAll elems + uptoBulkAll spare + 1
  | .agg parts => uptoBulkAll parts + 1
  | .iface _ d => uptoBulk d + 1
  | .map entries => uptoBulkEntries entries + 1
  | .held _ => 1
def uptoBulkAll {H : Type} : List (DataW H) → Nat
  | [] => 0
  | d :: r => uptoBulk d + uptoBulkAll r
def uptoBulkEntries {H : Type} : List (Lit × DataW H) → Nat
  | [] => 0
  | x :: r => uptoBulkEntry x + uptoBulkEntries r
def uptoBulkEntry {H : Type} : Lit × DataW H → Nat
  | (.string bytes, d) => bytes.length + uptoBulk d + 1
  | (_, d) => uptoBulk d + 1
 end
def uptoSmall : (H : Type) → List (DataW H) → Bool := fun _ ds => decide (uptoBulkAll ds ≤ 1048576)
def OpenSpec.upto (s : _root_.Go.ChangeSpec) : _root_.Go.OpenSpec := { _root_.Go.OpenSpec.ofChange s with cond := some uptoSmall }

/-- 'gnomonlaw12.CheckNets', WHERE WHAT IT READS IS OF BULK AT MOST 1048576: true; the input reads as it did. -/
def checkNetsUptoRow : OpenClaim := { program := "ytgmlimipejcpgaagreatdoor", sum := "509d69c455e139933b9645208fb98e657b299c2b99ae33027a3bb6c47a1b98a7", func := "gnomon/gnomonlaw12.CheckNets", spec := "checkNets", unfollowed := true, recurses := true, named := ["gnomon/lex.kept", "gnomon/expr.kinds"], apart := false, laid := [("gnomon/expr.kinds", laid_gnomon_expr_kinds), ("gnomon/lex.kept", laid_gnomon_lex_kept)], narrowed := true }
def CheckNetsUptoSaid : Prop := checkNetsUptoRow.holds Tryz.pinned (OpenSpec.upto checkNetsSpec)

/-- 'gnomonlaw12.CheckGoals', WHERE WHAT IT READS IS OF BULK AT MOST 1048576: true; the input reads as it did. -/
def checkGoalsUptoRow : OpenClaim := { program := "ytgmlimipejcpgaagreatdoor", sum := "509d69c455e139933b9645208fb98e657b299c2b99ae33027a3bb6c47a1b98a7", func := "gnomon/gnomonlaw12.CheckGoals", spec := "checkGoals", unfollowed := true, recurses := true, named := ["gnomon/lex.kept", "gnomon/expr.kinds"], apart := false, laid := [("gnomon/expr.kinds", laid_gnomon_expr_kinds), ("gnomon/lex.kept", laid_gnomon_lex_kept)], narrowed := true }
def CheckGoalsUptoSaid : Prop := checkGoalsUptoRow.holds Tryz.pinned (OpenSpec.upto checkGoalsSpec)

/-- 'gnomonlaw12.CheckMost', WHERE WHAT IT READS IS OF BULK AT MOST 1048576: true; the input reads as it did. -/
def checkMostUptoRow : OpenClaim := { program := "ytgmlimipejcpgaagreatdoor", sum := "509d69c455e139933b9645208fb98e657b299c2b99ae33027a3bb6c47a1b98a7", func := "gnomon/gnomonlaw12.CheckMost", spec := "checkMost", unfollowed := true, recurses := true, named := ["gnomon/lex.kept", "gnomon/expr.kinds"], apart := false, laid := [("gnomon/expr.kinds", laid_gnomon_expr_kinds), ("gnomon/lex.kept", laid_gnomon_lex_kept)], narrowed := true }
def CheckMostUptoSaid : Prop := checkMostUptoRow.holds Tryz.pinned (OpenSpec.upto checkMostSpec)

/-- 'gnomonlaw24.ActiveClocks', WHERE WHAT IT READS IS OF BULK AT MOST 1048576: true; the input reads as it did. -/
def activeClocksUptoRow : OpenClaim := { program := "ytgmlimipejcpgaagreatdoor", sum := "509d69c455e139933b9645208fb98e657b299c2b99ae33027a3bb6c47a1b98a7", func := "gnomon/gnomonlaw24.ActiveClocks", spec := "activeClocks", unfollowed := true, recurses := true, named := ["gnomon/lex.kept", "gnomon/expr.kinds"], apart := false, laid := [("gnomon/expr.kinds", laid_gnomon_expr_kinds), ("gnomon/lex.kept", laid_gnomon_lex_kept)], narrowed := true }
def ActiveClocksUptoSaid : Prop := activeClocksUptoRow.holds Tryz.pinned (OpenSpec.upto activeClocksSpec)

/-- 'gnomonlaw26.LuPlans', WHERE WHAT IT READS IS OF BULK AT MOST 1048576: true; the input reads as it did. -/
def luPlansUptoRow : OpenClaim := { program := "ytgmlimipejcpgaagreatdoor", sum := "509d69c455e139933b9645208fb98e657b299c2b99ae33027a3bb6c47a1b98a7", func := "gnomon/gnomonlaw26.LuPlans", spec := "luPlans", unfollowed := true, recurses := true, named := ["gnomon/lex.kept", "gnomon/expr.kinds"], apart := false, laid := [("gnomon/expr.kinds", laid_gnomon_expr_kinds), ("gnomon/lex.kept", laid_gnomon_lex_kept)], narrowed := true }
def LuPlansUptoSaid : Prop := luPlansUptoRow.holds Tryz.pinned (OpenSpec.upto luPlansSpec)

/-- 'gnomonlaw24.ActivePlans', WHERE WHAT IT READS IS OF BULK AT MOST 1048576: true; the input reads as it did. -/
def activePlansUptoRow : OpenClaim := { program := "ytgmlimipejcpgaagreatdoor", sum := "509d69c455e139933b9645208fb98e657b299c2b99ae33027a3bb6c47a1b98a7", func := "gnomon/gnomonlaw24.ActivePlans", spec := "activePlans", unfollowed := true, recurses := true, named := ["gnomon/lex.kept", "gnomon/expr.kinds"], apart := false, laid := [("gnomon/expr.kinds", laid_gnomon_expr_kinds), ("gnomon/lex.kept", laid_gnomon_lex_kept)], narrowed := true }
def ActivePlansUptoSaid : Prop := activePlansUptoRow.holds Tryz.pinned (OpenSpec.upto activePlansSpec)

/-- 'gnomonlaw26.LuJoins', WHERE WHAT IT READS IS OF BULK AT MOST 1048576: true; the input reads as it did. -/
def luJoinsUptoRow : OpenClaim := { program := "ytgmlimipejcpgaagreatdoor", sum := "509d69c455e139933b9645208fb98e657b299c2b99ae33027a3bb6c47a1b98a7", func := "gnomon/gnomonlaw26.LuJoins", spec := "luJoins", unfollowed := true, recurses := true, named := ["gnomon/lex.kept", "gnomon/expr.kinds"], apart := false, laid := [("gnomon/expr.kinds", laid_gnomon_expr_kinds), ("gnomon/lex.kept", laid_gnomon_lex_kept)], narrowed := true }
def LuJoinsUptoSaid : Prop := luJoinsUptoRow.holds Tryz.pinned (OpenSpec.upto luJoinsSpec)

/-- 'gnomonlaw26.LuBelow', WHERE WHAT IT READS IS OF BULK AT MOST 1048576: true; the input reads as it did. -/
def luBelowUptoRow : OpenClaim := { program := "ytgmlimipejcpgaagreatdoor", sum := "509d69c455e139933b9645208fb98e657b299c2b99ae33027a3bb6c47a1b98a7", func := "gnomon/gnomonlaw26.LuBelow", spec := "luBelow", unfollowed := true, recurses := true, named := ["gnomon/lex.kept", "gnomon/expr.kinds"], apart := false, laid := [("gnomon/expr.kinds", laid_gnomon_expr_kinds), ("gnomon/lex.kept", laid_gnomon_lex_kept)], narrowed := true }
def LuBelowUptoSaid : Prop := luBelowUptoRow.holds Tryz.pinned (OpenSpec.upto luBelowSpec)

end Rows
end Go.Proofs.YtgmlimipejcpgaaGreatDoor
