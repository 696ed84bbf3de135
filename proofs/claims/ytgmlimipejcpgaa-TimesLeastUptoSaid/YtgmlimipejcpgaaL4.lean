/-
  YtgmlimipejcpgaaL4: a step of the proof of a law of the program: what this text proves holds under the hypotheses that its theorems name, and no others.
-/
import Derived.Test.YtgmlimipejcpgaaL3
set_option linter.unusedVariables false
set_option linter.unusedSimpArgs false
namespace Go.Proofs.Ytgmlimipejcpgaa
open Go Go.AM
theorem rounds_true {σ : Type} {step : σ → A → σ × Bool} {I : σ → Prop} {l : List A} (hI : ∀ x a, I x → a ∈ l → I (step x a).1) : ∀ (k : Nat) (x : σ), I x → (rounds step l k x).2 = true →
    ∃ y, I y ∧ (round step y l).2 = false ∧ (rounds step l k x).1 = (round step y l).1
  | 0, _, _, h => by simp [rounds] at h
  | k + 1, x, hx, h => by
    simp only [rounds] at h ⊢
    split at h
    · rename_i hm
      rw [if_pos hm]
      exact rounds_true hI k _ (round_inv l x hI hx) h
    · rename_i hm
      rw [if_neg hm]
      exact ⟨x, hx, by simpa using hm, rfl⟩
theorem round_still {step : List Int → A → List Int × Bool} {l : List A} {I : List Int → Prop} (hs : ∀ t a, I t → a ∈ l → (step t a).2 = false → (step t a).1 = t) : ∀ (r : List A) (t : List Int), (∀ a ∈ r, a ∈ l) → I t →
    (round step t r).2 = false → (round step t r).1 = t ∧ ∀ a ∈ r, (step t a).2 = false
  | [], t, _, _, _ => ⟨rfl, fun a ha => by cases ha⟩
  | b :: r, t, hr, ht, h => by
    simp only [round] at h ⊢
    split at h
    · cases h
    · rename_i hm
      have hm' : (step t b).2 = false := by simpa using hm
      have e := hs t b ht (hr b (List.mem_cons_self ..)) hm'
      rw [if_neg hm, e]
      rw [e] at h
      obtain ⟨h1, h2⟩ := round_still hs r t (fun a ha => hr a (List.mem_cons_of_mem _ ha)) ht h
      exact ⟨h1, fun a ha => by
        rcases List.mem_cons.1 ha with rfl | ha
        · exact hm'
        · exact h2 a ha⟩

/-- Where Least says OK, its points are a solution, the first one 0. -/
theorem least_is {N : Nat} {l : List D} (hok : wrongE N l = 0) (h : leastOk N l = true) :
    Sol (arcsL N l) (val (leastSt N l).1) ∧ Pos (val (leastSt N l).1) ∧ val (leastSt N l).1 0 = 0 := by
  obtain ⟨h1, h2, _⟩ := wrongE_ok hok
  obtain ⟨i1, i2⟩ := least_inv hok (by omega)
  simp only [leastOk, Bool.and_eq_true, decide_eq_true_eq, Bool.not_eq_true', decide_eq_false_iff_not] at h
  obtain ⟨⟨g1, g2⟩, g3⟩ := h
  have hpos : Pos (val (leastSt N l).1) := fun j => by
    unfold val
    rw [List.getD_eq_getElem?_getD]
    cases hj : (leastSt N l).1[j]? with
    | none => simp
    | some x => exact (i2 x (List.mem_of_getElem? hj)).1
  refine ⟨?_, hpos, g2⟩
  have e : leastSt N l = rounds (stepL (neverOf N)) (arcsL N l) (N + 1) (List.replicate N 0) := by unfold leastSt; simp
  have hids := arcs_ids hok
  obtain ⟨y, hy, hm, hfin⟩ := rounds_true (step := stepL (neverOf N)) (I := fun t : List Int => t.length = N) (l := arcsL N l) (fun t a ht ha => by simp [stepL, ht]) (N + 1) (List.replicate N 0) (by simp) (by rw [← e]; exact g1)
  rw [← e] at hfin
  have hstill := fun (t : List Int) (a : A) (ht : t.length = N) (ha : a ∈ arcsL N l) (hf : (stepL (neverOf N) t a).2 = false) => show (stepL (neverOf N) t a).1 = t from by
    have hq : a.j.toNat < t.length := by rw [ht]; exact (hids a ha).2
    have e2 : (stepL (neverOf N) t a).2 = !decide ((if neverOf N < (if val t a.j.toNat < val t a.i.toNat - a.most then val t a.i.toNat - a.most else val t a.j.toNat) then neverOf N else (if val t a.j.toNat < val t a.i.toNat - a.most then val t a.i.toNat - a.most else val t a.j.toNat)) = val t a.j.toNat) := rfl
    have e1 : (stepL (neverOf N) t a).1 = t.set a.j.toNat (if neverOf N < (if val t a.j.toNat < val t a.i.toNat - a.most then val t a.i.toNat - a.most else val t a.j.toNat) then neverOf N else (if val t a.j.toNat < val t a.i.toNat - a.most then val t a.i.toNat - a.most else val t a.j.toNat)) := rfl
    rw [e2] at hf
    have h5 := of_decide_eq_true (by simpa using hf : decide ((if neverOf N < (if val t a.j.toNat < val t a.i.toNat - a.most then val t a.i.toNat - a.most else val t a.j.toNat) then neverOf N else (if val t a.j.toNat < val t a.i.toNat - a.most then val t a.i.toNat - a.most else val t a.j.toNat)) = val t a.j.toNat) = true)
    rw [e1, h5]; exact set_val hq
  obtain ⟨h3, h4⟩ := round_still (I := fun t : List Int => t.length = N) hstill (arcsL N l) y (fun _ h => h) hy hm
  rw [h3] at hfin
  intro a ha
  rw [hfin]
  have h5 := h4 a ha
  have e2 : (stepL (neverOf N) y a).2 = !decide ((if neverOf N < (if val y a.j.toNat < val y a.i.toNat - a.most then val y a.i.toNat - a.most else val y a.j.toNat) then neverOf N else (if val y a.j.toNat < val y a.i.toNat - a.most then val y a.i.toNat - a.most else val y a.j.toNat)) = val y a.j.toNat) := rfl
  have hj := (hids a ha).2
  have hlt : val y a.j.toNat < neverOf N := by
    have hmem : val y a.j.toNat ∈ (leastSt N l).1 := by
      rw [hfin]; unfold val
      rw [List.getD_eq_getElem?_getD, List.getElem?_eq_getElem (by rw [hy]; exact hj)]
      simp
    have h6 := (i2 _ hmem).2
    have h7 : val y a.j.toNat ≠ neverOf N := fun he => g3 (he ▸ hmem)
    omega
  rw [e2] at h5
  have h6 : (if neverOf N < (if val y a.j.toNat < val y a.i.toNat - a.most then val y a.i.toNat - a.most else val y a.j.toNat) then neverOf N else (if val y a.j.toNat < val y a.i.toNat - a.most then val y a.i.toNat - a.most else val y a.j.toNat)) = val y a.j.toNat := by simpa using h5
  split at h6 <;> split at h6 <;> omega

/-- Least's points are nowhere later than a solution. -/
theorem least_le {N : Nat} {l : List D} (hok : wrongE N l = 0) {s : Nat → Int} (hs : Sol (arcsL N l) s) (hp : Pos s) : ∀ j, j < N → val (leastSt N l).1 j ≤ s j := fun j hj => by
  obtain ⟨D, _, hle, _, hv⟩ := least_sol hok hs hp
  rw [(hv j hj).1]; exact hle j
end Go.Proofs.Ytgmlimipejcpgaa
