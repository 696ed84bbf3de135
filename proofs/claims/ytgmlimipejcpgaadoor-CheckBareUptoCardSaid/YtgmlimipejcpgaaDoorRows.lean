/-
  NARROWER THAN 'FOR EVERY INPUT', by the rows' own cells (each row's printed sentence says how): CheckMore: laid · CheckBare: laid · ActiveMore: laid · LuOrder: laid.
  DERIVED. THE GIVEN ROWS OF THIS SEAT. 4 by the template 'for every input the law returns true; each argument reads behind the call as it read before'; 0 by the template 'total and deterministic' (their statements: YtgmlimipejcpgaaDoorTotals.lean).
  GIVEN WITH THE SEED: the statements are not yours to turn. If you find one false, say at which input.
  Laid BY PROGRAM, IN A SANDBOX (cutbox-rows.mjs): the forced cells as the released guide's own fill.sh prints them over the translation 091c0a3ac80729b1… (all of the seat's roots in one cut). By AI agents, Wed Nov 11 2026. No macro, syntax, notation, axiom, sorry.
-/
import Derived.Test.YtgmlimipejcpgaaDoorChecked
import GoSem.Claim
import GoSem.ClaimJoined
import GoSem.ClaimMapViews
import Derived.JoinedTies
import Derived.KernelRfl
namespace Go.Proofs.YtgmlimipejcpgaaDoor
/- THE CELL 'sum', in the pinned program and in every row, IS THE sha256 OF THE DUMP (.gsa) THAT YtgmlimipejcpgaaDoorProg.lean LOADS. Nothing in Lean hashes anything: it is a label: what it is worth is what the hold of that sum in a sandbox is worth. -/
noncomputable def Tryd.pinned : Pinned := { name := "ytgmlimipejcpgaadoor", sum := "091c0a3ac80729b1d6b88abde3f491941b2618b3a94b6d330387b10947457b65", checked := Tryd.checked }
namespace Rows
def none {H : Type} : Left H := { results := [], args := [] }

/- WHAT THE LISTED PACKAGE-LEVEL VARIABLES READ AS WHEN THE CALL BEGINS. Each datum BY PROGRAM (the guide's laid-datum.mjs) off the statement by which the dump's own 'gosem.cut.vars' lays the variable. In a bare row this is a premise. The card (YtgmlimipejcpgaaDoorCards.lean) ties it to the program's text. -/
def laid_gnomon_expr_kinds {H : Type} : DataW H := .agg [.agg [.lit (.int .i64 0), .lit (.bool false), .lit (.bool false), .lit (.string []), .lit (.int .i64 0)], .agg [.lit (.int .i64 0), .lit (.bool false), .lit (.bool false), .lit (.string []), .lit (.int .i64 9)], .agg [.lit (.int .i64 0), .lit (.bool false), .lit (.bool false), .lit (.string []), .lit (.int .i64 9)], .agg [.lit (.int .i64 1), .lit (.bool false), .lit (.bool false), .lit (.string [45]), .lit (.int .i64 6)], .agg [.lit (.int .i64 2), .lit (.bool false), .lit (.bool false), .lit (.string [43]), .lit (.int .i64 4)], .agg [.lit (.int .i64 2), .lit (.bool false), .lit (.bool false), .lit (.string [45]), .lit (.int .i64 4)], .agg [.lit (.int .i64 2), .lit (.bool false), .lit (.bool false), .lit (.string [42]), .lit (.int .i64 5)], .agg [.lit (.int .i64 0), .lit (.bool true), .lit (.bool false), .lit (.string [116, 114, 117, 101]), .lit (.int .i64 9)], .agg [.lit (.int .i64 2), .lit (.bool true), .lit (.bool false), .lit (.string [60]), .lit (.int .i64 3)], .agg [.lit (.int .i64 2), .lit (.bool true), .lit (.bool false), .lit (.string [60, 61]), .lit (.int .i64 3)], .agg [.lit (.int .i64 2), .lit (.bool true), .lit (.bool false), .lit (.string [61, 61]), .lit (.int .i64 3)], .agg [.lit (.int .i64 2), .lit (.bool true), .lit (.bool false), .lit (.string [33, 61]), .lit (.int .i64 3)], .agg [.lit (.int .i64 1), .lit (.bool true), .lit (.bool true), .lit (.string [33]), .lit (.int .i64 9)], .agg [.lit (.int .i64 2), .lit (.bool true), .lit (.bool true), .lit (.string [38, 38]), .lit (.int .i64 2)], .agg [.lit (.int .i64 2), .lit (.bool true), .lit (.bool true), .lit (.string [124, 124]), .lit (.int .i64 1)]]
def laid_gnomon_lex_kept {H : Type} : DataW H := .agg [.lit (.string [99, 108, 111, 99, 107]), .lit (.string [105, 110, 116]), .lit (.string [99, 104, 97, 110]), .lit (.string [97, 117, 116, 111]), .lit (.string [108, 111, 99]), .lit (.string [101, 100, 103, 101]), .lit (.string [105, 110]), .lit (.string [105, 110, 118]), .lit (.string [119, 104, 101, 110]), .lit (.string [115, 121, 110, 99]), .lit (.string [100, 111]), .lit (.string [117, 114, 103, 101, 110, 116]), .lit (.string [99, 111, 109, 109, 105, 116, 116, 101, 100]), .lit (.string [116, 114, 117, 101]), .lit (.string [114, 101, 97, 99, 104]), .lit (.string [110, 101, 118, 101, 114])]

/-- 'gnomonlaw12.CheckMore': WHATEVER THE INPUT: true; the input reads as it did. -/
def checkMoreSpec : ChangeSpec := { name := "checkMore", fn := fun _ => fun
  | [d1, d2, d3] => { results := [.lit (.bool true)], args := [d1, d2, d3] }
  | _ => none }
def checkMoreRow : OpenClaim := { program := "ytgmlimipejcpgaadoor", sum := "091c0a3ac80729b1d6b88abde3f491941b2618b3a94b6d330387b10947457b65", func := "gnomon/gnomonlaw12.CheckMore", spec := "checkMore", unfollowed := true, recurses := true, named := ["gnomon/lex.kept", "gnomon/expr.kinds"], apart := false, laid := [("gnomon/expr.kinds", laid_gnomon_expr_kinds), ("gnomon/lex.kept", laid_gnomon_lex_kept)] }
def CheckMoreSaid : Prop := checkMoreRow.holds Tryd.pinned (OpenSpec.ofChange checkMoreSpec)

/-- ITS FALSE NEIGHBOUR: 'it returns false'. Refute it at one input. -/
def checkMoreWrong : ChangeSpec := { name := "checkMore", fn := fun _ => fun
  | [d1, d2, d3] => { results := [.lit (.bool false)], args := [d1, d2, d3] }
  | _ => none }
def CheckMoreWrongFalsely : Prop := checkMoreRow.holds Tryd.pinned (OpenSpec.ofChange checkMoreWrong)

/-- 'gnomonlaw12.CheckBare': WHATEVER THE INPUT: true; the input reads as it did. -/
def checkBareSpec : ChangeSpec := { name := "checkBare", fn := fun _ => fun
  | [d] => { results := [.lit (.bool true)], args := [d] }
  | _ => none }
def checkBareRow : OpenClaim := { program := "ytgmlimipejcpgaadoor", sum := "091c0a3ac80729b1d6b88abde3f491941b2618b3a94b6d330387b10947457b65", func := "gnomon/gnomonlaw12.CheckBare", spec := "checkBare", unfollowed := true, recurses := true, named := ["gnomon/lex.kept", "gnomon/expr.kinds"], apart := false, laid := [("gnomon/expr.kinds", laid_gnomon_expr_kinds), ("gnomon/lex.kept", laid_gnomon_lex_kept)] }
def CheckBareSaid : Prop := checkBareRow.holds Tryd.pinned (OpenSpec.ofChange checkBareSpec)

/-- ITS FALSE NEIGHBOUR: 'it returns false'. Refute it at one input. -/
def checkBareWrong : ChangeSpec := { name := "checkBare", fn := fun _ => fun
  | [d] => { results := [.lit (.bool false)], args := [d] }
  | _ => none }
def CheckBareWrongFalsely : Prop := checkBareRow.holds Tryd.pinned (OpenSpec.ofChange checkBareWrong)

/-- 'gnomonlaw24.ActiveMore': WHATEVER THE INPUT: true; the input reads as it did. -/
def activeMoreSpec : ChangeSpec := { name := "activeMore", fn := fun _ => fun
  | [d1, d2, d3] => { results := [.lit (.bool true)], args := [d1, d2, d3] }
  | _ => none }
def activeMoreRow : OpenClaim := { program := "ytgmlimipejcpgaadoor", sum := "091c0a3ac80729b1d6b88abde3f491941b2618b3a94b6d330387b10947457b65", func := "gnomon/gnomonlaw24.ActiveMore", spec := "activeMore", unfollowed := true, recurses := true, named := ["gnomon/lex.kept", "gnomon/expr.kinds"], apart := false, laid := [("gnomon/expr.kinds", laid_gnomon_expr_kinds), ("gnomon/lex.kept", laid_gnomon_lex_kept)] }
def ActiveMoreSaid : Prop := activeMoreRow.holds Tryd.pinned (OpenSpec.ofChange activeMoreSpec)

/-- ITS FALSE NEIGHBOUR: 'it returns false'. Refute it at one input. -/
def activeMoreWrong : ChangeSpec := { name := "activeMore", fn := fun _ => fun
  | [d1, d2, d3] => { results := [.lit (.bool false)], args := [d1, d2, d3] }
  | _ => none }
def ActiveMoreWrongFalsely : Prop := activeMoreRow.holds Tryd.pinned (OpenSpec.ofChange activeMoreWrong)

/-- 'gnomonlaw26.LuOrder': WHATEVER THE INPUT: true; the input reads as it did. -/
def luOrderSpec : ChangeSpec := { name := "luOrder", fn := fun _ => fun
  | [d1, d2, d3] => { results := [.lit (.bool true)], args := [d1, d2, d3] }
  | _ => none }
def luOrderRow : OpenClaim := { program := "ytgmlimipejcpgaadoor", sum := "091c0a3ac80729b1d6b88abde3f491941b2618b3a94b6d330387b10947457b65", func := "gnomon/gnomonlaw26.LuOrder", spec := "luOrder", unfollowed := true, recurses := true, named := ["gnomon/lex.kept", "gnomon/expr.kinds"], apart := false, laid := [("gnomon/expr.kinds", laid_gnomon_expr_kinds), ("gnomon/lex.kept", laid_gnomon_lex_kept)] }
def LuOrderSaid : Prop := luOrderRow.holds Tryd.pinned (OpenSpec.ofChange luOrderSpec)

/-- ITS FALSE NEIGHBOUR: 'it returns false'. Refute it at one input. -/
def luOrderWrong : ChangeSpec := { name := "luOrder", fn := fun _ => fun
  | [d1, d2, d3] => { results := [.lit (.bool false)], args := [d1, d2, d3] }
  | _ => none }
def LuOrderWrongFalsely : Prop := luOrderRow.holds Tryd.pinned (OpenSpec.ofChange luOrderWrong)

/- THE SECOND FORM. 'bulk': how many values and letters a reading holds, each counted each time it is reached (what is shared counts as often as it is met; a slice's spare places count too). A statement '..UptoSaid' is the law's where the arguments, and the package variables that the reading takes, are together of bulk at most 1048576: NARROWER than '..Said'. Prove '..Said' where nothing that the law and all that it calls make is longer than what came in: it says more and counts as full. Else prove '..UptoSaid'. A law counts once. -/
mutual
def uptoBulk {H : Type} : DataW H → Nat
  | .lit (.string bytes) => bytes.length + 1
  | .lit _ => 1
  | .nil => 1
  | .ptr d => uptoBulk d + 1
  | .slice elems spare => uptoBulkAll elems + uptoBulkAll spare + 1
  | .agg parts => uptoBulkAll parts + 1
  | .iface _ d => uptoBulk d + 1
  | .map entries => uptoBulkEntries entries + 1
  | .held _ => 1
def uptoBulkAll {H : Type} : List (DataW H) → Nat
  | [] => 0
  | d :: r => uptoBulk d + uptoBulkAll r
def uptoBulkEntries {H : Type} : List (Lit × DataW H) → Nat
  | [] => 0
  | x :: r => uptoBulkEntry x + uptoBulkEntries r
def uptoBulkEntry {H : Type} : Lit × DataW H → Nat
  | (.string bytes, d) => bytes.length + uptoBulk d + 1
  | (_, d) => uptoBulk d + 1
 end
def uptoSmall : (H : Type) → List (DataW H) → Bool := fun _ ds => decide (uptoBulkAll ds ≤ 1048576)
def OpenSpec.upto (s : _root_.Go.ChangeSpec) : _root_.Go.OpenSpec := { _root_.Go.OpenSpec.ofChange s with cond := some uptoSmall }

/-- 'gnomonlaw12.CheckMore', WHERE WHAT IT READS IS OF BULK AT MOST 1048576: true; the input reads as it did. -/
def checkMoreUptoRow : OpenClaim := { program := "ytgmlimipejcpgaadoor", sum := "091c0a3ac80729b1d6b88abde3f491941b2618b3a94b6d330387b10947457b65", func := "gnomon/gnomonlaw12.CheckMore", spec := "checkMore", unfollowed := true, recurses := true, named := ["gnomon/lex.kept", "gnomon/expr.kinds"], apart := false, laid := [("gnomon/expr.kinds", laid_gnomon_expr_kinds), ("gnomon/lex.kept", laid_gnomon_lex_kept)], narrowed := true }
def CheckMoreUptoSaid : Prop := checkMoreUptoRow.holds Tryd.pinned (OpenSpec.upto checkMoreSpec)

/-- 'gnomonlaw12.CheckBare', WHERE WHAT IT READS IS OF BULK AT MOST 1048576: true; the input reads as it did. -/
def checkBareUptoRow : OpenClaim := { program := "ytgmlimipejcpgaadoor", sum := "091c0a3ac80729b1d6b88abde3f491941b2618b3a94b6d330387b10947457b65", func := "gnomon/gnomonlaw12.CheckBare", spec := "checkBare", unfollowed := true, recurses := true, named := ["gnomon/lex.kept", "gnomon/expr.kinds"], apart := false, laid := [("gnomon/expr.kinds", laid_gnomon_expr_kinds), ("gnomon/lex.kept", laid_gnomon_lex_kept)], narrowed := true }
def CheckBareUptoSaid : Prop := checkBareUptoRow.holds Tryd.pinned (OpenSpec.upto checkBareSpec)

/-- 'gnomonlaw24.ActiveMore', WHERE WHAT IT READS IS OF BULK AT MOST 1048576: true; the input reads as it did. -/
def activeMoreUptoRow : OpenClaim := { program := "ytgmlimipejcpgaadoor", sum := "091c0a3ac80729b1d6b88abde3f491941b2618b3a94b6d330387b10947457b65", func := "gnomon/gnomonlaw24.ActiveMore", spec := "activeMore", unfollowed := true, recurses := true, named := ["gnomon/lex.kept", "gnomon/expr.kinds"], apart := false, laid := [("gnomon/expr.kinds", laid_gnomon_expr_kinds), ("gnomon/lex.kept", laid_gnomon_lex_kept)], narrowed := true }
def ActiveMoreUptoSaid : Prop := activeMoreUptoRow.holds Tryd.pinned (OpenSpec.upto activeMoreSpec)

/-- 'gnomonlaw26.LuOrder', WHERE WHAT IT READS IS OF BULK AT MOST 1048576: true; the input reads as it did. -/
def luOrderUptoRow : OpenClaim := { program := "ytgmlimipejcpgaadoor", sum := "091c0a3ac80729b1d6b88abde3f491941b2618b3a94b6d330387b10947457b65", func := "gnomon/gnomonlaw26.LuOrder", spec := "luOrder", unfollowed := true, recurses := true, named := ["gnomon/lex.kept", "gnomon/expr.kinds"], apart := false, laid := [("gnomon/expr.kinds", laid_gnomon_expr_kinds), ("gnomon/lex.kept", laid_gnomon_lex_kept)], narrowed := true }
def LuOrderUptoSaid : Prop := luOrderUptoRow.holds Tryd.pinned (OpenSpec.upto luOrderSpec)

end Rows
end Go.Proofs.YtgmlimipejcpgaaDoor
