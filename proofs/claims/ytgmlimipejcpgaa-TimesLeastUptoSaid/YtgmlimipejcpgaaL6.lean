/-
  YtgmlimipejcpgaaL6: a step of the proof of a law of the program: what this text proves holds under the hypotheses that its theorems name, and no others.
-/
import Derived.Test.YtgmlimipejcpgaaL5
import Derived.Test.YtgmlimipejcpgaaT18
set_option linter.unusedVariables false
set_option linter.unusedSimpArgs false
namespace Go.Proofs.Ytgmlimipejcpgaa
open Go Go.AM
/-- On the grid: all differences are kept where all arcs are. -/
theorem gridded_sol {N : Nat} {l : List D} {t : List Int} (hok : wrongE N l = 0) : griddedB N t l = true ↔ Sol (arcsL N l) (val t) := by
  obtain ⟨h1, h2, h3⟩ := wrongE_ok hok
  unfold griddedB
  rw [List.all_eq_true]
  constructor
  · intro h a ha
    obtain ⟨d, hd, hda⟩ := List.mem_filterMap.1 ha
    have hg := h d hd
    unfold arcOf at hda
    split at hda
    · rename_i hs
      simp at hda
      subst hda
      have hinf : ¬ d.b = 2147483647 := by simp [someB] at hs; exact hs.1
      simp only [gridD, hinf, decide_false, Bool.false_or, decide_eq_true_eq] at hg
      show val t d.i.toNat - (d.b / 2 * N - (if d.b % 2 = 1 then 0 else 1)) ≤ val t d.j.toNat
      unfold val
      omega
    · cases hda
  · intro h d hd
    by_cases hinf : d.b = 2147483647
    · simp [gridD, hinf]
    · have hr := h3 d hd
      simp only [rightD, Bool.and_eq_true, decide_eq_true_eq] at hr
      have hs : someB d.b = true := by simp [someB, hinf, hr.2]
      have ha : (⟨d.i, d.j, d.b / 2 * N - (if d.b % 2 = 1 then 0 else 1)⟩ : A) ∈ arcsL N l := List.mem_filterMap.2 ⟨d, hd, by simp [arcOf, hs]⟩
      have : val t d.i.toNat - (d.b / 2 * N - (if d.b % 2 = 1 then 0 else 1)) ≤ val t d.j.toNat := h _ ha
      simp only [gridD, hinf, decide_false, Bool.false_or, decide_eq_true_eq]
      unfold val at this
      omega
end Go.Proofs.Ytgmlimipejcpgaa
