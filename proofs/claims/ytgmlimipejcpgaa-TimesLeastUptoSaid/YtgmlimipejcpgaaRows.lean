/-
  No cell of these rows narrows 'for every input' (looked for: loops, veiled, ifaces, maps, wideKeys, modest, calm, conditions, laid).
  DERIVED. THE GIVEN ROWS OF THIS SEAT. 2 by the template 'for every input the law returns true; each argument reads behind the call as it read before'; 0 by the template 'total and deterministic' (their statements: YtgmlimipejcpgaaTotals.lean).
  GIVEN WITH THE SEED: the statements are not yours to turn. If you find one false, say at which input.
  Laid BY PROGRAM, IN A SANDBOX (cutbox-rows.mjs): the forced cells as the released guide's own fill.sh prints them over the translation e6046c32a0ae70c3… (all of the seat's roots in one cut). By AI agents, Wed Nov 11 2026. No macro, syntax, notation, axiom, sorry.
-/
import Derived.Test.YtgmlimipejcpgaaChecked
import GoSem.Claim
import GoSem.ClaimJoined
import GoSem.ClaimMapViews
import Derived.JoinedTies
import Derived.KernelRfl
namespace Go.Proofs.Ytgmlimipejcpgaa
/- THE CELL 'sum', in the pinned program and in every row, IS THE sha256 OF THE DUMP (.gsa) THAT YtgmlimipejcpgaaProg.lean LOADS. Nothing in Lean hashes anything: it is a label: what it is worth is what the hold of that sum in a sandbox is worth. -/
noncomputable def Try.pinned : Pinned := { name := "ytgmlimipejcpgaa", sum := "e6046c32a0ae70c3920ce833da57eb7ad5c9c883af3d9f11f09a9d3a7c3a67cc", checked := Try.checked }
namespace Rows
def none {H : Type} : Left H := { results := [], args := [] }

/-- 'gnomonlaw19.TimesKeeps': WHATEVER THE INPUT: true; the input reads as it did. -/
def timesKeepsSpec : ChangeSpec := { name := "timesKeeps", fn := fun _ => fun
  | [d1, d2, d3] => { results := [.lit (.bool true)], args := [d1, d2, d3] }
  | _ => none }
def timesKeepsRow : OpenClaim := { program := "ytgmlimipejcpgaa", sum := "e6046c32a0ae70c3920ce833da57eb7ad5c9c883af3d9f11f09a9d3a7c3a67cc", func := "gnomon/gnomonlaw19.TimesKeeps", spec := "timesKeeps", unfollowed := true, recurses := true, apart := false }
def TimesKeepsSaid : Prop := timesKeepsRow.holds Try.pinned (OpenSpec.ofChange timesKeepsSpec)

/-- ITS FALSE NEIGHBOUR: 'it returns false'. Refute it at one input. -/
def timesKeepsWrong : ChangeSpec := { name := "timesKeeps", fn := fun _ => fun
  | [d1, d2, d3] => { results := [.lit (.bool false)], args := [d1, d2, d3] }
  | _ => none }
def TimesKeepsWrongFalsely : Prop := timesKeepsRow.holds Try.pinned (OpenSpec.ofChange timesKeepsWrong)

/-- 'gnomonlaw19.TimesLeast': WHATEVER THE INPUT: true; the input reads as it did. -/
def timesLeastSpec : ChangeSpec := { name := "timesLeast", fn := fun _ => fun
  | [d1, d2, d3] => { results := [.lit (.bool true)], args := [d1, d2, d3] }
  | _ => none }
def timesLeastRow : OpenClaim := { program := "ytgmlimipejcpgaa", sum := "e6046c32a0ae70c3920ce833da57eb7ad5c9c883af3d9f11f09a9d3a7c3a67cc", func := "gnomon/gnomonlaw19.TimesLeast", spec := "timesLeast", unfollowed := true, recurses := true, apart := false }
def TimesLeastSaid : Prop := timesLeastRow.holds Try.pinned (OpenSpec.ofChange timesLeastSpec)

/-- ITS FALSE NEIGHBOUR: 'it returns false'. Refute it at one input. -/
def timesLeastWrong : ChangeSpec := { name := "timesLeast", fn := fun _ => fun
  | [d1, d2, d3] => { results := [.lit (.bool false)], args := [d1, d2, d3] }
  | _ => none }
def TimesLeastWrongFalsely : Prop := timesLeastRow.holds Try.pinned (OpenSpec.ofChange timesLeastWrong)

/- THE SECOND FORM. 'bulk': how many values and letters a reading holds, each counted each time it is reached (what is shared counts as often as it is met; a slice's spare places count too). A statement '..UptoSaid' is the law's where the arguments, and the package variables that the reading takes, are together of bulk at most 1048576: NARROWER than '..Said'. Prove '..Said' where nothing that the law and all that it calls make is longer than what came in: it says more and counts as full. Else prove '..UptoSaid'. A law counts once. -/
mutual
def uptoBulk {H : Type} : DataW H → Nat
  | .lit (.string bytes) => bytes.length + 1
  | .lit _ => 1
  | .nil => 1
  | .ptr d => uptoBulk d + 1
  | .slice elems spare => uptoBulkAll elems + uptoBulkAll spare + 1
  | .agg parts => uptoBulkAll parts + 1
  | .iface _ d => uptoBulk d + 1
  | .map entries => uptoBulkEntries entries + 1
  | .held _ => 1
def uptoBulkAll {H : Type} : List (DataW H) → Nat
  | [] => 0
  | d :: r => uptoBulk d + uptoBulkAll r
def uptoBulkEntries {H : Type} : List (Lit × DataW H) → Nat
  | [] => 0
  | x :: r => uptoBulkEntry x + uptoBulkEntries r
def uptoBulkEntry {H : Type} : Lit × DataW H → Nat
  | (.string bytes, d) => bytes.length + uptoBulk d + 1
  | (_, d) => uptoBulk d + 1
 end
def uptoSmall : (H : Type) → List (DataW H) → Bool := fun _ ds => decide (uptoBulkAll ds ≤ 1048576)
def OpenSpec.upto (s : _root_.Go.ChangeSpec) : _root_.Go.OpenSpec := { _root_.Go.OpenSpec.ofChange s with cond := some uptoSmall }

/-- 'gnomonlaw19.TimesKeeps', WHERE WHAT IT READS IS OF BULK AT MOST 1048576: true; the input reads as it did. -/
def timesKeepsUptoRow : OpenClaim := { program := "ytgmlimipejcpgaa", sum := "e6046c32a0ae70c3920ce833da57eb7ad5c9c883af3d9f11f09a9d3a7c3a67cc", func := "gnomon/gnomonlaw19.TimesKeeps", spec := "timesKeeps", unfollowed := true, recurses := true, apart := false, narrowed := true }
def TimesKeepsUptoSaid : Prop := timesKeepsUptoRow.holds Try.pinned (OpenSpec.upto timesKeepsSpec)

/-- 'gnomonlaw19.TimesLeast', WHERE WHAT IT READS IS OF BULK AT MOST 1048576: true; the input reads as it did. -/
def timesLeastUptoRow : OpenClaim := { program := "ytgmlimipejcpgaa", sum := "e6046c32a0ae70c3920ce833da57eb7ad5c9c883af3d9f11f09a9d3a7c3a67cc", func := "gnomon/gnomonlaw19.TimesLeast", spec := "timesLeast", unfollowed := true, recurses := true, apart := false, narrowed := true }
def TimesLeastUptoSaid : Prop := timesLeastUptoRow.holds Try.pinned (OpenSpec.upto timesLeastSpec)

end Rows
end Go.Proofs.Ytgmlimipejcpgaa
