/-
  YtgmlimipejcpgaaL5: a step of the proof of a law of the program: what this text proves holds under the hypotheses that its theorems name, and no others.
-/
import Derived.Test.YtgmlimipejcpgaaL4
import Derived.Test.YtgmlimipejcpgaaT17
set_option linter.unusedVariables false
set_option linter.unusedSimpArgs false
namespace Go.Proofs.Ytgmlimipejcpgaa
open Go Go.AM
theorem stepG_vals (t : List Int) (a : A) : (stepG t a).1 = t.set a.i.toNat (if (if val t a.j.toNat + a.most < val t a.i.toNat then val t a.j.toNat + a.most else val t a.i.toNat) < -1 then -1 else (if val t a.j.toNat + a.most < val t a.i.toNat then val t a.j.toNat + a.most else val t a.i.toNat)) ∧
    (stepG t a).2 = !decide ((if (if val t a.j.toNat + a.most < val t a.i.toNat then val t a.j.toNat + a.most else val t a.i.toNat) < -1 then -1 else (if val t a.j.toNat + a.most < val t a.i.toNat then val t a.j.toNat + a.most else val t a.i.toNat)) = val t a.i.toNat) := ⟨rfl, rfl⟩

/-- Where Greatest says OK, its points are a solution, none above the end. -/
theorem great_is {N : Nat} {l : List D} {e : Int} (hok : wrongE N l = 0) (he : 0 ≤ e ∧ e ≤ 1125899906842624) (h : greatOk N l e = true) :
    (greatSt N l e).1.length = N ∧ Sol (arcsL N l) (val (greatSt N l e).1) ∧ Pos (val (greatSt N l e).1) ∧ ∀ j, val (greatSt N l e).1 j ≤ e := by
  obtain ⟨h1, h2, _⟩ := wrongE_ok hok
  have ha := arcs_in hok
  have hids := arcs_ids hok
  have hN0 : 0 < N := by omega
  have eq : greatSt N l e = rounds stepG (arcsL N l) (N + 1) (ends N e (N - 1)) := by unfold greatSt; simp
  have hinv := rounds_inv (step := stepG) (I := fun t : List Int => t.length = N ∧ ∀ j, val t j ≤ e) (l := arcsL N l) (fun t a ht hm => by
    have hq : a.i.toNat < t.length := by rw [ht.1]; exact (hids a hm).1
    rw [(stepG_vals t a).1]
    refine ⟨by simp [ht.1], fun j => ?_⟩
    rw [val_set hq]
    have h4 := ht.2 a.i.toNat
    split
    · split
      · omega
      · split <;> omega
    · exact ht.2 j) (N + 1) (ends N e (N - 1)) ⟨ends_len hN0 (Nat.le_refl _), fun j => by
      unfold val
      rw [List.getD_eq_getElem?_getD]
      cases hj : (ends N e (N - 1))[j]? with
      | none => simp; omega
      | some x =>
        have hm := List.mem_of_getElem? hj
        simp [ends] at hm
        rcases hm with rfl | ⟨_, rfl⟩
        · simp; omega
        · simp⟩
  rw [← eq] at hinv
  simp only [greatOk, Bool.and_eq_true, List.all_eq_true, decide_eq_true_eq] at h
  obtain ⟨g1, g2⟩ := h
  have hpos : Pos (val (greatSt N l e).1) := fun j => by
    unfold val
    rw [List.getD_eq_getElem?_getD]
    cases hj : (greatSt N l e).1[j]? with
    | none => simp
    | some x => exact g2 x (List.mem_of_getElem? hj)
  refine ⟨hinv.1, ?_, hpos, hinv.2⟩
  obtain ⟨y, hy, hm, hfin⟩ := rounds_true (step := stepG) (I := fun t : List Int => t.length = N) (l := arcsL N l) (fun t a ht ha => by simp [stepG, ht]) (N + 1) (ends N e (N - 1)) (ends_len hN0 (Nat.le_refl _)) (by rw [← eq]; exact g1)
  rw [← eq] at hfin
  have hstill := fun (t : List Int) (a : A) (ht : t.length = N) (ha : a ∈ arcsL N l) (hf : (stepG t a).2 = false) => show (stepG t a).1 = t from by
    have hq : a.i.toNat < t.length := by rw [ht]; exact (hids a ha).1
    obtain ⟨e1, e2⟩ := stepG_vals t a
    rw [e2] at hf
    have h5 := of_decide_eq_true (by simpa using hf : decide (_ = val t a.i.toNat) = true)
    rw [e1, h5]; exact set_val hq
  obtain ⟨h3, h4⟩ := round_still (I := fun t : List Int => t.length = N) hstill (arcsL N l) y (fun _ h => h) hy hm
  rw [h3] at hfin
  intro a ha'
  have hpi := hpos a.i.toNat
  have hpj := hpos a.j.toNat
  rw [hfin] at hpi hpj ⊢
  have h5 := h4 a ha'
  rw [(stepG_vals y a).2] at h5
  have h6 : (if (if val y a.j.toNat + a.most < val y a.i.toNat then val y a.j.toNat + a.most else val y a.i.toNat) < -1 then -1 else (if val y a.j.toNat + a.most < val y a.i.toNat then val y a.j.toNat + a.most else val y a.i.toNat)) = val y a.i.toNat := by simpa using h5
  split at h6 <;> split at h6 <;> omega
end Go.Proofs.Ytgmlimipejcpgaa
