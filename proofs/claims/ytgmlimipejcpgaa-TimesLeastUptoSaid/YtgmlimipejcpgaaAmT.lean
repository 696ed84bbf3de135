/-
  YtgmlimipejcpgaaAmT: a step of the proof of a law of the program: what this text proves holds under the hypotheses that its theorems name, and no others.
-/
import Derived.Test.YtgmlimipejcpgaaAmR
/-! AM, part T: a cut, where branches meet again. -/
set_option linter.unusedVariables false
namespace Go.AM
section
variable {P : Program} {ge : GEnv} {st : St} {Q : Exit → St → Prop}
def SMeet (S : St) (Q : Exit → St → Prop) : Exit → St → Prop
  | .normal, s => Weak s S ∧ S.h.length = s.h.length
  | e, s => Q e s
theorem AW_mid {id : Nat} {ops : Array Oper} {b : Bool} {y z : Code} (S : St) (h1 : AW P ge (.seq (.region id ops b) y) (SMeet S Q) st) (h2 : AW P ge z Q S) :
    AW P ge (.seq (.seq (.region id ops b) y) z) Q st := by
  refine AW_seq (h1.mono fun e s h => ?_)
  cases e <;> simp only [SMeet, SThen] at h ⊢
  case normal => exact h2.weak h.1 h.2
  all_goals exact h
theorem AW_mid1 {id : Nat} {ops : Array Oper} {b : Bool} {z : Code} (S : St) (h1 : AW P ge (.region id ops b) (SMeet S Q) st) (h2 : AW P ge z Q S) :
    AW P ge (.seq (.region id ops b) z) Q st := by
  refine AW_seq (h1.mono fun e s h => ?_)
  cases e <;> simp only [SMeet, SThen] at h ⊢
  case normal => exact h2.weak h.1 h.2
  all_goals exact h
/-- Held back from a walk. -/
structure Hold (p : Prop) : Prop where
  mk' ::
  get : p
theorem Hold.mk {p : Prop} (h : Hold p) : p := h.get
theorem Hold.out {p : Prop} (h : p) : Hold p := ⟨h⟩
theorem SMeet_normal {S s : St} (h : Weak s S) (hl : S.h.length = s.h.length) : SMeet S Q .normal s := ⟨h, hl⟩
theorem SMeet_ret {S s : St} (h : Q .ret s) : SMeet S Q .ret s := h
theorem SMeet_exit {S s : St} {id : Nat} (h : Q (.exit id) s) : SMeet S Q (.exit id) s := h
end
end Go.AM
