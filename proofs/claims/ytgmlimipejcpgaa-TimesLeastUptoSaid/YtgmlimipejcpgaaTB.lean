/-
  YtgmlimipejcpgaaTB: a step of the proof of a law of the program: what this text proves holds under the hypotheses that its theorems name, and no others.
-/
import Derived.Test.YtgmlimipejcpgaaAmY
import Derived.Test.YtgmlimipejcpgaaRows
set_option linter.unusedVariables false
namespace Go.Proofs.Ytgmlimipejcpgaa
open Go Go.AM
theorem one_leB {H : Type} (d : DataW H) : 1 ≤ Rows.uptoBulk d := by
  cases d with
  | lit l => cases l <;> simp [Rows.uptoBulk]
  | nil => simp [Rows.uptoBulk]
  | ptr d => simp [Rows.uptoBulk]
  | slice elems spare => simp [Rows.uptoBulk]
  | agg parts => simp [Rows.uptoBulk]
  | iface t d => simp [Rows.uptoBulk]
  | map entries => simp [Rows.uptoBulk]
  | held h => simp [Rows.uptoBulk]
theorem part_leB {H : Type} {d : DataW H} {l : List (DataW H)} (h : d ∈ l) : Rows.uptoBulk d ≤ Rows.uptoBulkAll l := by
  induction l with
  | nil => cases h
  | cons x r ih =>
    simp only [Rows.uptoBulkAll]
    cases List.mem_cons.1 h with
    | inl e => subst e; omega
    | inr e => have := ih e; omega
theorem length_leB {H : Type} (l : List (DataW H)) : l.length ≤ Rows.uptoBulkAll l := by
  induction l with
  | nil => simp [Rows.uptoBulkAll]
  | cons x r ih => have := one_leB x; simp only [Rows.uptoBulkAll, List.length_cons]; omega
/-- The measure of the statements' second form. -/
def KB : Bk where
  bk H d := Rows.uptoBulk d
  N := 1048576
  len es sp h := by
    simp only [Rows.uptoBulk] at h
    exact ⟨by have := length_leB es; omega, fun d hd => by have := part_leB hd; omega⟩
  agg ps h d hd := by
    simp only [Rows.uptoBulk] at h
    have := part_leB hd; omega
  str b h := by simp only [Rows.uptoBulk] at h; omega
theorem own : ownKnob Try.prog.godebug = none := by kernel_rfl
theorem laidOut : laidOutB Try.prog = true := by kernel_rfl
end Go.Proofs.Ytgmlimipejcpgaa
