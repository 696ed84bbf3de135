/-
  YtgmlimipejcpgaaT15: a step of the proof of a law of the program: what this text proves holds under the hypotheses that its theorems name, and no others.
-/
import Derived.Test.YtgmlimipejcpgaaT14
import Derived.Test.YtgmlimipejcpgaaAmS
import Derived.Test.YtgmlimipejcpgaaRows
import Derived.WalkKit
import Derived.ProofKit
import Derived.OpenShut
import Derived.ChangeOld
import Derived.Carry
import Derived.JoinedCond
set_option linter.unusedVariables false
namespace Go.Proofs.Ytgmlimipejcpgaa
open Go Go.AM

theorem wf64 {n : Int} (h : (Lit.int .i64 n).wf = true) : I64 n := by
  have : -9223372036854775808 ≤ n ∧ n ≤ 9223372036854775807 := by simpa [Lit.wf, IntKind.min, IntKind.max, IntKind.signed, IntKind.bits] using h
  exact this
theorem wf32 {n : Int} (h : (Lit.int .i32 n).wf = true) : I32 n := by
  have : -2147483648 ≤ n ∧ n ≤ 2147483647 := by simpa [Lit.wf, IntKind.min, IntKind.max, IntKind.signed, IntKind.bits] using h
  exact this
theorem co2 : Try.prog.cellsOf 2 = 1 := by kernel_rfl
theorem co3 : Try.prog.cellsOf 3 = 1 := by kernel_rfl
theorem co36 : Try.prog.cellsOf 36 = 1 := by kernel_rfl
theorem co38 : Try.prog.cellsOf 38 = 3 := by kernel_rfl
theorem rdInts : Rd Try.prog 22 (fun l : List Int => [iv l]) (fun l => ∀ a ∈ l, I64 a) :=
  (Rd_slice Try.underlying22 (by rw [co2]; decide) (Rd_int Try.underlying2) (fun _ => by rw [co2]; rfl)).map id (fun _ => rfl) (fun l h a ha => wf64 (h a ha))
theorem rdD : Rd Try.prog 38 D.cells (fun d => I64 d.i ∧ I64 d.j ∧ I32 d.b) :=
  (Rd_struct Try.underlying38 co38 (RdFs_cons rfl co3 (Rd_int Try.underlying3) (fun _ => rfl) (RdFs_cons rfl co3 (Rd_int Try.underlying3) (fun _ => rfl) (RdFs_cons rfl co36 (Rd_int Try.underlying36) (fun _ => rfl) (RdFs_nil rfl))))).map
    (fun p => ⟨p.1, p.2.1, p.2.2.1⟩) (fun _ => rfl) (fun p h => ⟨wf64 h.1, wf64 h.2.1, wf32 h.2.2.1⟩)
theorem rdDs : Rd Try.prog 23 (fun l : List D => [dv l]) (fun l => ∀ d ∈ l, I64 d.i ∧ I64 d.j ∧ I32 d.b) :=
  (Rd_slice Try.underlying23 (by rw [co38]; decide) rdD (fun _ => by rw [co38]; rfl)).map id (fun _ => rfl) (fun l h a ha => h a ha)
end Go.Proofs.Ytgmlimipejcpgaa
