/-
  YtgmlimipejcpgaaL3: a step of the proof of a law of the program: what this text proves holds under the hypotheses that its theorems name, and no others.
-/
import Derived.Test.YtgmlimipejcpgaaL2
set_option linter.unusedVariables false
set_option linter.unusedSimpArgs false
namespace Go.Proofs.Ytgmlimipejcpgaa
open Go Go.AM
theorem arcs_most {N : Nat} {l : List D} (h : wrongE N l = 0) : ∀ a ∈ arcsL N l, -((N : Int) * 268435456 + 1) ≤ a.most := by
  obtain ⟨h1, h2, h3⟩ := wrongE_ok h
  intro a ha
  obtain ⟨d, hd, hda⟩ := List.mem_filterMap.1 ha
  unfold arcOf at hda
  split at hda
  · rename_i hs
    simp at hda
    subst hda
    simp [someB, rightB] at hs
    have k2 : -268435456 * (N : Int) ≤ d.b / 2 * N := Int.mul_le_mul_of_nonneg_right (by omega) (by omega)
    simp only; split <;> omega
  · cases hda
theorem arcs_ids {N : Nat} {l : List D} (h : wrongE N l = 0) : ∀ a ∈ arcsL N l, a.i.toNat < N ∧ a.j.toNat < N := fun a ha => by
  obtain ⟨g1, g2, g3, g4, _, _⟩ := arcs_in h a ha
  omega

theorem val_rep {N j : Nat} : val (List.replicate N 0) j = 0 := by
  unfold val
  rw [List.getD_eq_getElem?_getD, List.getElem?_replicate]
  split <;> rfl

/-- Where a solution is, Least's points are the least one. -/
theorem least_sol {N : Nat} {l : List D} (hok : wrongE N l = 0) {s : Nat → Int} (hs : Sol (arcsL N l) s) (hp : Pos s) :
    ∃ D, Least (arcsL N l) N D ∧ (∀ j, D j ≤ s j) ∧ (leastSt N l).2 = true ∧ ∀ j, j < N → val (leastSt N l).1 j = D j ∧ D j < neverOf N := by
  obtain ⟨D, hD, hle⟩ := least_exists N hs hp
  have hnear := hD.near (W := (N : Int) * 268435456 + 1) (by omega) (arcs_most hok) (arcs_ids hok)
  have hlt : ∀ j, j < N → D j < neverOf N := fun j hj => by have := hnear j hj; unfold neverOf; omega
  have hb : Below (neverOf N) (arcsL N l) N D := ⟨hD.sol, hlt, arcs_ids hok⟩
  have hc := cnt_n (p := fun j => decide (val (List.replicate N 0) j < D j)) N
  obtain ⟨h1, h2⟩ := settle hb hD (N + 1) (List.replicate N 0) ⟨by simp, fun j hj => by rw [val_rep]; exact hD.pos j⟩ (fun j => by rw [val_rep]; omega) (by omega)
  have e : leastSt N l = rounds (stepL (neverOf N)) (arcsL N l) (N + 1) (List.replicate N 0) := by unfold leastSt; simp
  rw [e]
  exact ⟨D, hD, hle, h1, fun j hj => ⟨h2 j hj, hlt j hj⟩⟩

/-- Least says OK where there is a solution whose first point is 0. -/
theorem least_ok {N : Nat} {l : List D} (hok : wrongE N l = 0) {s : Nat → Int} (hs : Sol (arcsL N l) s) (hp : Pos s) (h0 : s 0 = 0) : leastOk N l = true := by
  obtain ⟨h1, h2, _⟩ := wrongE_ok hok
  obtain ⟨D, hD, hle, hst, hv⟩ := least_sol hok hs hp
  obtain ⟨i1, i2⟩ := least_inv hok (by omega)
  have hv0 := (hv 0 (by omega)).1
  have hD0 : D 0 = 0 := by have := hle 0; have := hD.pos 0; omega
  unfold leastOk
  rw [hst]
  have e0 : (leastSt N l).1.getD 0 0 = 0 := by show val (leastSt N l).1 0 = 0; omega
  have en : neverOf N ∉ (leastSt N l).1 := fun hm => by
    obtain ⟨j, hj⟩ := List.getElem?_of_mem hm
    have hjl := (List.getElem?_eq_some_iff.1 hj).1
    rw [i1] at hjl
    have h3 := hv j hjl
    have h4 : val (leastSt N l).1 j = neverOf N := by unfold val; rw [List.getD_eq_getElem?_getD, hj]; rfl
    omega
  rw [e0]
  simp [en]
end Go.Proofs.Ytgmlimipejcpgaa
