/-
  YtgmlimipejcpgaaAmP: a step of the proof of a law of the program: what this text proves holds under the hypotheses that its theorems name, and no others.
-/
import Derived.Test.YtgmlimipejcpgaaAmO
import Derived.Scope
/-! AM, part P: scopes and labels. -/
set_option linter.unusedVariables false
namespace Go.AM
section
variable {P : Program} {ge : GEnv} {st : St} {Q : Exit → St → Prop}
def SScope (Q : Exit → St → Prop) : Exit → St → Prop
  | .goto _, _ => False
  | e, st => Q e st
theorem AW_label {l : Nat} (h : Q .normal st) : AW P ge (.label l) Q st := fun G _ w hr => wp_label ⟨G, st, h, hr, .refl _ _ _⟩
theorem AW_scope {c : Code} (h : AW P ge c (SScope Q) st) : AW P ge (.scope c) Q st := by
  intro G a w hr
  refine wp_scope_straight (wp_mono (h G a w hr) ?_)
  rintro e a' w' ⟨G', s', q, r, x⟩
  cases e <;> simp only [SScope, Exit.noGoto] at q ⊢
  all_goals exact ⟨G', s', q, r, x⟩
theorem SScope_normal (h : Q .normal st) : SScope Q .normal st := h
theorem SScope_ret (h : Q .ret st) : SScope Q .ret st := h
theorem SScope_exit {id : Nat} (h : Q (.exit id) st) : SScope Q (.exit id) st := h
end
end Go.AM
