/-
  NARROWER THAN 'FOR EVERY INPUT', by the rows' own cells (each row's printed sentence says how): TimesRuns: laid · ReplayRuns: laid · ReplaySums: laid · ReplayCuts: laid · ReplayOwn: laid · ReplaySteps: laid · ReplayLonger: laid.
  DERIVED. THE GIVEN ROWS OF THIS SEAT. 7 by the template 'for every input the law returns true; each argument reads behind the call as it read before'; 0 by the template 'total and deterministic' (their statements: YtbgooadmonnjaaaGreatDoorTotals.lean).
  GIVEN WITH THE SEED: the statements are not yours to turn. If you find one false, say at which input.
  Laid BY PROGRAM, IN A SANDBOX (cutbox-rows.mjs): the forced cells as the released guide's own fill.sh prints them over the translation 52e92a10bd33c0a0… (all of the seat's roots in one cut). By AI agents, Wed Nov 11 2026. No macro, syntax, notation, axiom, sorry.
-/
import Derived.Test.YtbgooadmonnjaaaGreatDoorChecked
import GoSem.Claim
import GoSem.ClaimJoined
import GoSem.ClaimMapViews
import Derived.JoinedTies
import Derived.KernelRfl
namespace Go.Proofs.YtbgooadmonnjaaaGreatDoor
/- THE CELL 'sum', in the pinned program and in every row, IS THE sha256 OF THE DUMP (.gsa) THAT YtbgooadmonnjaaaGreatDoorProg.lean LOADS. Nothing in Lean hashes anything: it is a label: what it is worth is what the hold of that sum in a sandbox is worth. -/
noncomputable def Tryz.pinned : Pinned := { name := "ytbgooadmonnjaaagreatdoor", sum := "52e92a10bd33c0a0c0a47267f597d8fd5fae71cf08aa5a280bbf709700b15b79", checked := Tryz.checked }
namespace Rows
def none {H : Type} : Left H := { results := [], args := [] }

/- WHAT THE LISTED PACKAGE-LEVEL VARIABLES READ AS WHEN THE CALL BEGINS. Each datum BY PROGRAM (the guide's laid-datum.mjs) off the statement by which the dump's own 'gosem.cut.vars' lays the variable. In a bare row this is a premise. The card (YtbgooadmonnjaaaGreatDoorCards.lean) ties it to the program's text. -/
def laid_gnomon_expr_kinds {H : Type} : DataW H := .agg [.agg [.lit (.int .i64 0), .lit (.bool false), .lit (.bool false), .lit (.string []), .lit (.int .i64 0)], .agg [.lit (.int .i64 0), .lit (.bool false), .lit (.bool false), .lit (.string []), .lit (.int .i64 9)], .agg [.lit (.int .i64 0), .lit (.bool false), .lit (.bool false), .lit (.string []), .lit (.int .i64 9)], .agg [.lit (.int .i64 1), .lit (.bool false), .lit (.bool false), .lit (.string [45]), .lit (.int .i64 6)], .agg [.lit (.int .i64 2), .lit (.bool false), .lit (.bool false), .lit (.string [43]), .lit (.int .i64 4)], .agg [.lit (.int .i64 2), .lit (.bool false), .lit (.bool false), .lit (.string [45]), .lit (.int .i64 4)], .agg [.lit (.int .i64 2), .lit (.bool false), .lit (.bool false), .lit (.string [42]), .lit (.int .i64 5)], .agg [.lit (.int .i64 0), .lit (.bool true), .lit (.bool false), .lit (.string [116, 114, 117, 101]), .lit (.int .i64 9)], .agg [.lit (.int .i64 2), .lit (.bool true), .lit (.bool false), .lit (.string [60]), .lit (.int .i64 3)], .agg [.lit (.int .i64 2), .lit (.bool true), .lit (.bool false), .lit (.string [60, 61]), .lit (.int .i64 3)], .agg [.lit (.int .i64 2), .lit (.bool true), .lit (.bool false), .lit (.string [61, 61]), .lit (.int .i64 3)], .agg [.lit (.int .i64 2), .lit (.bool true), .lit (.bool false), .lit (.string [33, 61]), .lit (.int .i64 3)], .agg [.lit (.int .i64 1), .lit (.bool true), .lit (.bool true), .lit (.string [33]), .lit (.int .i64 9)], .agg [.lit (.int .i64 2), .lit (.bool true), .lit (.bool true), .lit (.string [38, 38]), .lit (.int .i64 2)], .agg [.lit (.int .i64 2), .lit (.bool true), .lit (.bool true), .lit (.string [124, 124]), .lit (.int .i64 1)]]
def laid_gnomon_lex_kept {H : Type} : DataW H := .agg [.lit (.string [99, 108, 111, 99, 107]), .lit (.string [105, 110, 116]), .lit (.string [99, 104, 97, 110]), .lit (.string [97, 117, 116, 111]), .lit (.string [108, 111, 99]), .lit (.string [101, 100, 103, 101]), .lit (.string [105, 110]), .lit (.string [105, 110, 118]), .lit (.string [119, 104, 101, 110]), .lit (.string [115, 121, 110, 99]), .lit (.string [100, 111]), .lit (.string [117, 114, 103, 101, 110, 116]), .lit (.string [99, 111, 109, 109, 105, 116, 116, 101, 100]), .lit (.string [116, 114, 117, 101]), .lit (.string [114, 101, 97, 99, 104]), .lit (.string [110, 101, 118, 101, 114])]

/-- 'gnomonlaw19.TimesRuns': WHATEVER THE INPUT: true; the input reads as it did. -/
def timesRunsSpec : ChangeSpec := { name := "timesRuns", fn := fun _ => fun
  | [d1, d2, d3] => { results := [.lit (.bool true)], args := [d1, d2, d3] }
  | _ => none }
def timesRunsRow : OpenClaim := { program := "ytbgooadmonnjaaagreatdoor", sum := "52e92a10bd33c0a0c0a47267f597d8fd5fae71cf08aa5a280bbf709700b15b79", func := "gnomon/gnomonlaw19.TimesRuns", spec := "timesRuns", inPlace := ["math/bits.Sub64", "math/bits.Add64"], unfollowed := true, recurses := true, named := ["gnomon/lex.kept", "gnomon/expr.kinds"], apart := false, laid := [("gnomon/expr.kinds", laid_gnomon_expr_kinds), ("gnomon/lex.kept", laid_gnomon_lex_kept)] }
def TimesRunsSaid : Prop := timesRunsRow.holds Tryz.pinned (OpenSpec.ofChange timesRunsSpec)

/-- ITS FALSE NEIGHBOUR: 'it returns false'. Refute it at one input. -/
def timesRunsWrong : ChangeSpec := { name := "timesRuns", fn := fun _ => fun
  | [d1, d2, d3] => { results := [.lit (.bool false)], args := [d1, d2, d3] }
  | _ => none }
def TimesRunsWrongFalsely : Prop := timesRunsRow.holds Tryz.pinned (OpenSpec.ofChange timesRunsWrong)

/-- 'gnomonlaw21.ReplayRuns': WHATEVER THE INPUT: true; the input reads as it did. -/
def replayRunsSpec : ChangeSpec := { name := "replayRuns", fn := fun _ => fun
  | [d1, d2, d3] => { results := [.lit (.bool true)], args := [d1, d2, d3] }
  | _ => none }
def replayRunsRow : OpenClaim := { program := "ytbgooadmonnjaaagreatdoor", sum := "52e92a10bd33c0a0c0a47267f597d8fd5fae71cf08aa5a280bbf709700b15b79", func := "gnomon/gnomonlaw21.ReplayRuns", spec := "replayRuns", inPlace := ["math/bits.Sub64", "math/bits.Add64"], unfollowed := true, recurses := true, named := ["gnomon/lex.kept", "gnomon/expr.kinds"], apart := false, laid := [("gnomon/expr.kinds", laid_gnomon_expr_kinds), ("gnomon/lex.kept", laid_gnomon_lex_kept)] }
def ReplayRunsSaid : Prop := replayRunsRow.holds Tryz.pinned (OpenSpec.ofChange replayRunsSpec)

/-- ITS FALSE NEIGHBOUR: 'it returns false'. Refute it at one input. -/
def replayRunsWrong : ChangeSpec := { name := "replayRuns", fn := fun _ => fun
  | [d1, d2, d3] => { results := [.lit (.bool false)], args := [d1, d2, d3] }
  | _ => none }
def ReplayRunsWrongFalsely : Prop := replayRunsRow.holds Tryz.pinned (OpenSpec.ofChange replayRunsWrong)

/-- 'gnomonlaw21.ReplaySums': WHATEVER THE INPUT: true; the input reads as it did. -/
def replaySumsSpec : ChangeSpec := { name := "replaySums", fn := fun _ => fun
  | [d1, d2, d3] => { results := [.lit (.bool true)], args := [d1, d2, d3] }
  | _ => none }
def replaySumsRow : OpenClaim := { program := "ytbgooadmonnjaaagreatdoor", sum := "52e92a10bd33c0a0c0a47267f597d8fd5fae71cf08aa5a280bbf709700b15b79", func := "gnomon/gnomonlaw21.ReplaySums", spec := "replaySums", inPlace := ["math/bits.Sub64", "math/bits.Add64"], unfollowed := true, recurses := true, named := ["gnomon/lex.kept", "gnomon/expr.kinds"], apart := false, laid := [("gnomon/expr.kinds", laid_gnomon_expr_kinds), ("gnomon/lex.kept", laid_gnomon_lex_kept)] }
def ReplaySumsSaid : Prop := replaySumsRow.holds Tryz.pinned (OpenSpec.ofChange replaySumsSpec)

/-- ITS FALSE NEIGHBOUR: 'it returns false'. Refute it at one input. -/
def replaySumsWrong : ChangeSpec := { name := "replaySums", fn := fun _ => fun
  | [d1, d2, d3] => { results := [.lit (.bool false)], args := [d1, d2, d3] }
  | _ => none }
def ReplaySumsWrongFalsely : Prop := replaySumsRow.holds Tryz.pinned (OpenSpec.ofChange replaySumsWrong)

/-- 'gnomonlaw21.ReplayCuts': WHATEVER THE INPUT: true; the input reads as it did. -/
def replayCutsSpec : ChangeSpec := { name := "replayCuts", fn := fun _ => fun
  | [d1, d2, d3] => { results := [.lit (.bool true)], args := [d1, d2, d3] }
  | _ => none }
def replayCutsRow : OpenClaim := { program := "ytbgooadmonnjaaagreatdoor", sum := "52e92a10bd33c0a0c0a47267f597d8fd5fae71cf08aa5a280bbf709700b15b79", func := "gnomon/gnomonlaw21.ReplayCuts", spec := "replayCuts", inPlace := ["math/bits.Sub64", "math/bits.Add64"], unfollowed := true, recurses := true, named := ["gnomon/lex.kept", "gnomon/expr.kinds"], apart := false, laid := [("gnomon/expr.kinds", laid_gnomon_expr_kinds), ("gnomon/lex.kept", laid_gnomon_lex_kept)] }
def ReplayCutsSaid : Prop := replayCutsRow.holds Tryz.pinned (OpenSpec.ofChange replayCutsSpec)

/-- ITS FALSE NEIGHBOUR: 'it returns false'. Refute it at one input. -/
def replayCutsWrong : ChangeSpec := { name := "replayCuts", fn := fun _ => fun
  | [d1, d2, d3] => { results := [.lit (.bool false)], args := [d1, d2, d3] }
  | _ => none }
def ReplayCutsWrongFalsely : Prop := replayCutsRow.holds Tryz.pinned (OpenSpec.ofChange replayCutsWrong)

/-- 'gnomonlaw21.ReplayOwn': WHATEVER THE INPUT: true; the input reads as it did. -/
def replayOwnSpec : ChangeSpec := { name := "replayOwn", fn := fun _ => fun
  | [d1, d2] => { results := [.lit (.bool true)], args := [d1, d2] }
  | _ => none }
def replayOwnRow : OpenClaim := { program := "ytbgooadmonnjaaagreatdoor", sum := "52e92a10bd33c0a0c0a47267f597d8fd5fae71cf08aa5a280bbf709700b15b79", func := "gnomon/gnomonlaw21.ReplayOwn", spec := "replayOwn", inPlace := ["math/bits.Sub64", "math/bits.Add64"], unfollowed := true, recurses := true, named := ["gnomon/lex.kept", "gnomon/expr.kinds"], apart := false, laid := [("gnomon/expr.kinds", laid_gnomon_expr_kinds), ("gnomon/lex.kept", laid_gnomon_lex_kept)] }
def ReplayOwnSaid : Prop := replayOwnRow.holds Tryz.pinned (OpenSpec.ofChange replayOwnSpec)

/-- ITS FALSE NEIGHBOUR: 'it returns false'. Refute it at one input. -/
def replayOwnWrong : ChangeSpec := { name := "replayOwn", fn := fun _ => fun
  | [d1, d2] => { results := [.lit (.bool false)], args := [d1, d2] }
  | _ => none }
def ReplayOwnWrongFalsely : Prop := replayOwnRow.holds Tryz.pinned (OpenSpec.ofChange replayOwnWrong)

/-- 'gnomonlaw21.ReplaySteps': WHATEVER THE INPUT: true; the input reads as it did. -/
def replayStepsSpec : ChangeSpec := { name := "replaySteps", fn := fun _ => fun
  | [d1, d2, d3] => { results := [.lit (.bool true)], args := [d1, d2, d3] }
  | _ => none }
def replayStepsRow : OpenClaim := { program := "ytbgooadmonnjaaagreatdoor", sum := "52e92a10bd33c0a0c0a47267f597d8fd5fae71cf08aa5a280bbf709700b15b79", func := "gnomon/gnomonlaw21.ReplaySteps", spec := "replaySteps", inPlace := ["math/bits.Sub64", "math/bits.Add64"], unfollowed := true, recurses := true, named := ["gnomon/lex.kept", "gnomon/expr.kinds"], apart := false, laid := [("gnomon/expr.kinds", laid_gnomon_expr_kinds), ("gnomon/lex.kept", laid_gnomon_lex_kept)] }
def ReplayStepsSaid : Prop := replayStepsRow.holds Tryz.pinned (OpenSpec.ofChange replayStepsSpec)

/-- ITS FALSE NEIGHBOUR: 'it returns false'. Refute it at one input. -/
def replayStepsWrong : ChangeSpec := { name := "replaySteps", fn := fun _ => fun
  | [d1, d2, d3] => { results := [.lit (.bool false)], args := [d1, d2, d3] }
  | _ => none }
def ReplayStepsWrongFalsely : Prop := replayStepsRow.holds Tryz.pinned (OpenSpec.ofChange replayStepsWrong)

/-- 'gnomonlaw21.ReplayLonger': WHATEVER THE INPUT: true; the input reads as it did. -/
def replayLongerSpec : ChangeSpec := { name := "replayLonger", fn := fun _ => fun
  | [d1, d2, d3] => { results := [.lit (.bool true)], args := [d1, d2, d3] }
  | _ => none }
def replayLongerRow : OpenClaim := { program := "ytbgooadmonnjaaagreatdoor", sum := "52e92a10bd33c0a0c0a47267f597d8fd5fae71cf08aa5a280bbf709700b15b79", func := "gnomon/gnomonlaw21.ReplayLonger", spec := "replayLonger", inPlace := ["math/bits.Sub64", "math/bits.Add64"], unfollowed := true, recurses := true, named := ["gnomon/lex.kept", "gnomon/expr.kinds"], apart := false, laid := [("gnomon/expr.kinds", laid_gnomon_expr_kinds), ("gnomon/lex.kept", laid_gnomon_lex_kept)] }
def ReplayLongerSaid : Prop := replayLongerRow.holds Tryz.pinned (OpenSpec.ofChange replayLongerSpec)

/-- ITS FALSE NEIGHBOUR: 'it returns false'. Refute it at one input. -/
def replayLongerWrong : ChangeSpec := { name := "replayLonger", fn := fun _ => fun
  | [d1, d2, d3] => { results := [.lit (.bool false)], args := [d1, d2, d3] }
  | _ => none }
def ReplayLongerWrongFalsely : Prop := replayLongerRow.holds Tryz.pinned (OpenSpec.ofChange replayLongerWrong)

/- THE SECOND FORM. 'bulk': how many values and letters a reading holds, each counted each time it is reached (what is shared counts as often as it is met; a slice's spare places count too). A statement '..UptoSaid' is the law's where the arguments, and the package variables that the reading takes, are together of bulk at most 1048576: NARROWER than '..Said'. Prove '..Said' where nothing that the law and all that it calls make is longer than what came in: it says more and counts as full. Else prove '..UptoSaid'. A law counts once. -/
mutual
def uptoBulk {H : Type} : DataW H → Nat
  | .lit (.string bytes) => bytes.length + 1
  | .lit _ => 1
  | .nil => 1
  | .ptr d => uptoBulk d + 1
  | .slice elems spare => uptoBulkAll elems + uptoBulkAll spare + 1
  | .agg parts => uptoBulkAll parts + 1
  | .iface _ d => uptoBulk d + 1
  | .map entries => uptoBulkEntries entries + 1
  | .held _ => 1
def uptoBulkAll {H : Type} : List (DataW H) → Nat
  | [] => 0
  | d :: r => uptoBulk d + uptoBulkAll r
def uptoBulkEntries {H : Type} : List (Lit × DataW H) → Nat
  | [] => 0
  | x :: r => uptoBulkEntry x + uptoBulkEntries r
def uptoBulkEntry {H : Type} : Lit × DataW H → Nat
  | (.string bytes, d) => bytes.length + uptoBulk d + 1
  | (_, d) => uptoBulk d + 1
 end
def uptoSmall : (H : Type) → List (DataW H) → Bool := fun _ ds => decide (uptoBulkAll ds ≤ 1048576)
def OpenSpec.upto (s : _root_.Go.ChangeSpec) : _root_.Go.OpenSpec := { _root_.Go.OpenSpec.ofChange s with cond := some uptoSmall }

/-- 'gnomonlaw19.TimesRuns', WHERE WHAT IT READS IS OF BULK AT MOST 1048576: true; the input reads as it did. -/
def timesRunsUptoRow : OpenClaim := { program := "ytbgooadmonnjaaagreatdoor", sum := "52e92a10bd33c0a0c0a47267f597d8fd5fae71cf08aa5a280bbf709700b15b79", func := "gnomon/gnomonlaw19.TimesRuns", spec := "timesRuns", inPlace := ["math/bits.Sub64", "math/bits.Add64"], unfollowed := true, recurses := true, named := ["gnomon/lex.kept", "gnomon/expr.kinds"], apart := false, laid := [("gnomon/expr.kinds", laid_gnomon_expr_kinds), ("gnomon/lex.kept", laid_gnomon_lex_kept)], narrowed := true }
def TimesRunsUptoSaid : Prop := timesRunsUptoRow.holds Tryz.pinned (OpenSpec.upto timesRunsSpec)

/-- 'gnomonlaw21.ReplayRuns', WHERE WHAT IT READS IS OF BULK AT MOST 1048576: true; the input reads as it did. -/
def replayRunsUptoRow : OpenClaim := { program := "ytbgooadmonnjaaagreatdoor", sum := "52e92a10bd33c0a0c0a47267f597d8fd5fae71cf08aa5a280bbf709700b15b79", func := "gnomon/gnomonlaw21.ReplayRuns", spec := "replayRuns", inPlace := ["math/bits.Sub64", "math/bits.Add64"], unfollowed := true, recurses := true, named := ["gnomon/lex.kept", "gnomon/expr.kinds"], apart := false, laid := [("gnomon/expr.kinds", laid_gnomon_expr_kinds), ("gnomon/lex.kept", laid_gnomon_lex_kept)], narrowed := true }
def ReplayRunsUptoSaid : Prop := replayRunsUptoRow.holds Tryz.pinned (OpenSpec.upto replayRunsSpec)

/-- 'gnomonlaw21.ReplaySums', WHERE WHAT IT READS IS OF BULK AT MOST 1048576: true; the input reads as it did. -/
def replaySumsUptoRow : OpenClaim := { program := "ytbgooadmonnjaaagreatdoor", sum := "52e92a10bd33c0a0c0a47267f597d8fd5fae71cf08aa5a280bbf709700b15b79", func := "gnomon/gnomonlaw21.ReplaySums", spec := "replaySums", inPlace := ["math/bits.Sub64", "math/bits.Add64"], unfollowed := true, recurses := true, named := ["gnomon/lex.kept", "gnomon/expr.kinds"], apart := false, laid := [("gnomon/expr.kinds", laid_gnomon_expr_kinds), ("gnomon/lex.kept", laid_gnomon_lex_kept)], narrowed := true }
def ReplaySumsUptoSaid : Prop := replaySumsUptoRow.holds Tryz.pinned (OpenSpec.upto replaySumsSpec)

/-- 'gnomonlaw21.ReplayCuts', WHERE WHAT IT READS IS OF BULK AT MOST 1048576: true; the input reads as it did. -/
def replayCutsUptoRow : OpenClaim := { program := "ytbgooadmonnjaaagreatdoor", sum := "52e92a10bd33c0a0c0a47267f597d8fd5fae71cf08aa5a280bbf709700b15b79", func := "gnomon/gnomonlaw21.ReplayCuts", spec := "replayCuts", inPlace := ["math/bits.Sub64", "math/bits.Add64"], unfollowed := true, recurses := true, named := ["gnomon/lex.kept", "gnomon/expr.kinds"], apart := false, laid := [("gnomon/expr.kinds", laid_gnomon_expr_kinds), ("gnomon/lex.kept", laid_gnomon_lex_kept)], narrowed := true }
def ReplayCutsUptoSaid : Prop := replayCutsUptoRow.holds Tryz.pinned (OpenSpec.upto replayCutsSpec)

/-- 'gnomonlaw21.ReplayOwn', WHERE WHAT IT READS IS OF BULK AT MOST 1048576: true; the input reads as it did. -/
def replayOwnUptoRow : OpenClaim := { program := "ytbgooadmonnjaaagreatdoor", sum := "52e92a10bd33c0a0c0a47267f597d8fd5fae71cf08aa5a280bbf709700b15b79", func := "gnomon/gnomonlaw21.ReplayOwn", spec := "replayOwn", inPlace := ["math/bits.Sub64", "math/bits.Add64"], unfollowed := true, recurses := true, named := ["gnomon/lex.kept", "gnomon/expr.kinds"], apart := false, laid := [("gnomon/expr.kinds", laid_gnomon_expr_kinds), ("gnomon/lex.kept", laid_gnomon_lex_kept)], narrowed := true }
def ReplayOwnUptoSaid : Prop := replayOwnUptoRow.holds Tryz.pinned (OpenSpec.upto replayOwnSpec)

/-- 'gnomonlaw21.ReplaySteps', WHERE WHAT IT READS IS OF BULK AT MOST 1048576: true; the input reads as it did. -/
def replayStepsUptoRow : OpenClaim := { program := "ytbgooadmonnjaaagreatdoor", sum := "52e92a10bd33c0a0c0a47267f597d8fd5fae71cf08aa5a280bbf709700b15b79", func := "gnomon/gnomonlaw21.ReplaySteps", spec := "replaySteps", inPlace := ["math/bits.Sub64", "math/bits.Add64"], unfollowed := true, recurses := true, named := ["gnomon/lex.kept", "gnomon/expr.kinds"], apart := false, laid := [("gnomon/expr.kinds", laid_gnomon_expr_kinds), ("gnomon/lex.kept", laid_gnomon_lex_kept)], narrowed := true }
def ReplayStepsUptoSaid : Prop := replayStepsUptoRow.holds Tryz.pinned (OpenSpec.upto replayStepsSpec)

/-- 'gnomonlaw21.ReplayLonger', WHERE WHAT IT READS IS OF BULK AT MOST 1048576: true; the input reads as it did. -/
def replayLongerUptoRow : OpenClaim := { program := "ytbgooadmonnjaaagreatdoor", sum := "52e92a10bd33c0a0c0a47267f597d8fd5fae71cf08aa5a280bbf709700b15b79", func := "gnomon/gnomonlaw21.ReplayLonger", spec := "replayLonger", inPlace := ["math/bits.Sub64", "math/bits.Add64"], unfollowed := true, recurses := true, named := ["gnomon/lex.kept", "gnomon/expr.kinds"], apart := false, laid := [("gnomon/expr.kinds", laid_gnomon_expr_kinds), ("gnomon/lex.kept", laid_gnomon_lex_kept)], narrowed := true }
def ReplayLongerUptoSaid : Prop := replayLongerUptoRow.holds Tryz.pinned (OpenSpec.upto replayLongerSpec)

end Rows
end Go.Proofs.YtbgooadmonnjaaaGreatDoor
