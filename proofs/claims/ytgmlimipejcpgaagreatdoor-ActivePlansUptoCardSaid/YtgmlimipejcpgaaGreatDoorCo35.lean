/-
  YtgmlimipejcpgaaGreatDoorCo35: steps of the proof of a law of the program: what these texts prove holds under the hypotheses that their theorems name, and no others.
-/
import Derived.Test.YtgmlimipejcpgaaGreatDoorCo34
section
set_option linter.unusedSimpArgs false
set_option linter.unusedVariables false
namespace Go.Proofs.YtgmlimipejcpgaaGreatDoor
open Go Go.AM Fx
theorem inj_of_nodup {refs : List (Nat × Nat × Nat)} (h : (refs.map (·.1)).Nodup) (i j : Nat) (x y : Nat × Nat × Nat) (hx : refs[i]? = some x) (hy : refs[j]? = some y) (e : x.1 = y.1) : i = j := by
  have hi : i < (refs.map (·.1)).length := by have := (List.getElem?_eq_some_iff.1 hx).1; simpa using this
  refine (List.getElem?_inj hi h).1 ?_
  rw [List.getElem?_map, List.getElem?_map, hx, hy]; simp [e]
theorem GCall.trim {P : Program} {ge : GEnv} {f : Nat} {args args' : List V} {h : List B} {Q : V → List B → Prop} (hc : GCall P ge f args' h Q) (ha : V.trims args = args') : GCall P ge f args h Q := by
  subst ha
  refine ⟨hc.1, fun G w cargs h hg => hc.2 G w cargs ⟨by rw [trims_eq, List.length_map]; exact h.1, fun i v hv => ?_⟩ hg⟩
  rw [trims_eq, List.getElem?_map] at hv
  obtain ⟨u, h1, rfl⟩ := Option.map_eq_some_iff.1 hv
  exact (h.2 i u h1).trim
theorem trim_gsV (gs : List (List PartD)) : (gsV gs).trim = gsV gs := by
  have e : gsV gs = vl (fun g => [vl PartD.cells g]) gs := rfl
  rw [e]
  exact trim_vl' fun y _ => by simp [V.trims, trims_goal']
end Go.Proofs.YtgmlimipejcpgaaGreatDoor
end
