/-
  YtgmlimipejcpgaaL7: a step of the proof of a law of the program: what this text proves holds under the hypotheses that its theorems name, and no others.
-/
import Derived.Test.YtgmlimipejcpgaaL6
import Derived.Test.YtgmlimipejcpgaaT7
set_option linter.unusedVariables false
set_option linter.unusedSimpArgs false
namespace Go.Proofs.Ytgmlimipejcpgaa
open Go Go.AM
theorem le_of_mul {x v g : Int} {r : Int} (hg : 0 < g) (h : x * g ≤ v * g + r) (hr : r < g) : x ≤ v := by
  refine Classical.byContradiction fun hn => ?_
  have : (v + 1) * g ≤ x * g := Int.mul_le_mul_of_nonneg_right (by omega) (by omega)
  rw [Int.add_mul] at this
  omega
/-- Points on the grid of N, in the order of the points' parts. -/
def sigma (N : Nat) (t : List Int) (grid : Int) (j : Nat) : Int := val t j / grid * N + cnt (fun k => decide (val t k % grid < val t j % grid)) N
theorem keeps_sigma {N : Nat} {l : List D} {t : List Int} {grid : Int} (hok : wrongE N l = 0) (hl : t.length = N) (h0 : val t 0 = 0) (h : keepsB t grid l = true) :
    Sol (arcsL N l) (sigma N t grid) ∧ Pos (sigma N t grid) ∧ sigma N t grid 0 = 0 := by
  simp only [keepsB, Bool.and_eq_true, List.all_eq_true, decide_eq_true_eq] at h
  obtain ⟨⟨ht, hd⟩, hg⟩ := h
  have hpos : ∀ j, 0 ≤ val t j := fun j => by
    unfold val
    rw [List.getD_eq_getElem?_getD]
    cases hj : t[j]? with
    | none => simp
    | some x => have := ht x (List.mem_of_getElem? hj); simp [timeOk] at this; simp; omega
  have hids := arcs_ids hok
  refine ⟨fun a ha => ?_, fun j => ?_, ?_⟩
  · have hid := hids a ha
    obtain ⟨d, hdm, hda⟩ := List.mem_filterMap.1 ha
    have hh := hd d hdm
    unfold arcOf at hda
    split at hda
    · rename_i hs
      simp at hda
      subst hda
      have hinf : ¬ d.b = 2147483647 := by simp [someB] at hs; exact hs.1
      simp only [diffOk, holdsB, hinf, hs, decide_false, Bool.false_or, Bool.true_and, Bool.and_eq_true, decide_eq_true_eq] at hh
      have hk := hh.2.2
      change (if d.b % 2 = 1 then val t d.i.toNat - val t d.j.toNat ≤ d.b / 2 * grid else val t d.i.toNat - val t d.j.toNat < d.b / 2 * grid) at hk
      show sigma N t grid d.i.toNat - (d.b / 2 * N - (if d.b % 2 = 1 then 0 else 1)) ≤ sigma N t grid d.j.toNat
      simp only at hid
      generalize d.i.toNat = i at *
      generalize d.j.toNat = j at *
      have ei := Int.mul_ediv_add_emod (val t i) grid
      have ej := Int.mul_ediv_add_emod (val t j) grid
      have mi := Int.emod_nonneg (val t i) (show grid ≠ 0 by omega)
      have mj := Int.emod_nonneg (val t j) (show grid ≠ 0 by omega)
      have li := Int.emod_lt_of_pos (val t i) (show 0 < grid by omega)
      have lj := Int.emod_lt_of_pos (val t j) (show 0 < grid by omega)
      unfold sigma
      have hci := cnt_lt (n := N) (i := i) (p := fun k => decide (val t k % grid < val t i % grid)) (q := fun _ => true) (fun _ _ _ => rfl) hid.1 (by simp) rfl
      have hcN := cnt_n (p := fun _ => true) N
      have hle : val t i % grid ≤ val t j % grid → cnt (fun k => decide (val t k % grid < val t i % grid)) N ≤ cnt (fun k => decide (val t k % grid < val t j % grid)) N := fun h => cnt_le fun k _ hk => by
        rw [decide_eq_true_eq] at hk ⊢; omega
      have hlt : val t i % grid < val t j % grid → cnt (fun k => decide (val t k % grid < val t i % grid)) N < cnt (fun k => decide (val t k % grid < val t j % grid)) N := fun h => cnt_lt (i := i) (fun k _ hk => by
        rw [decide_eq_true_eq] at hk ⊢; omega) hid.1 (by simp) (by simpa using h)
      generalize cnt (fun k => decide (val t k % grid < val t i % grid)) N = ci at *
      generalize cnt (fun k => decide (val t k % grid < val t j % grid)) N = cj at *
      generalize val t i % grid = ri at *
      generalize val t j % grid = rj at *
      generalize val t i / grid = qi at *
      generalize val t j / grid = qj at *
      generalize d.b / 2 = v at *
      generalize d.b % 2 = db at *
      have e1 : (qi - qj) * grid = grid * qi - grid * qj := by rw [Int.sub_mul, Int.mul_comm qi, Int.mul_comm qj]
      have e2 : (qi - qj) * N = qi * N - qj * N := Int.sub_mul ..
      have up : qi - qj ≤ v → qi * N - qj * N ≤ v * N := fun h => by rw [← e2]; exact Int.mul_le_mul_of_nonneg_right h (by omega)
      have up1 : qi - qj ≤ v - 1 → qi * N - qj * N ≤ v * N - N := fun h => by
        have := Int.mul_le_mul_of_nonneg_right (c := (N : Int)) h (by omega)
        rw [e2, Int.sub_mul] at this; omega
      have v1 : (v - 1) * grid = v * grid - grid := by rw [Int.sub_mul]; omega
      by_cases hodd : db = 1
      · rw [if_pos hodd] at hk ⊢
        rcases Int.lt_or_le rj ri with hr | hr
        · have := up1 (le_of_mul (g := grid) (r := grid - 1) (by omega) (by omega) (by omega))
          omega
        · have := up (le_of_mul (g := grid) (r := rj - ri) (by omega) (by omega) (by omega))
          have := hle hr
          omega
      · rw [if_neg hodd] at hk ⊢
        rcases Int.lt_or_le ri rj with hr | hr
        · have := up (le_of_mul (g := grid) (r := rj - ri) (by omega) (by omega) (by omega))
          have := hlt hr
          omega
        · have := up1 (le_of_mul (g := grid) (r := grid - 1) (by omega) (by omega) (by omega))
          omega
    · cases hda
  · have h1 := Int.ediv_nonneg (hpos j) (show 0 ≤ grid by omega)
    have := Int.mul_nonneg h1 (show (0 : Int) ≤ N by omega)
    unfold sigma; omega
  · unfold sigma
    rw [h0]
    have hz : ∀ n, cnt (fun k => decide (val t k % grid < 0 % grid)) n = 0 := by
      intro n
      induction n with
      | zero => rfl
      | succ n ih =>
        simp only [cnt, ih]
        have := Int.emod_nonneg (val t n) (show grid ≠ 0 by omega)
        rw [if_neg (by rw [decide_eq_true_eq, Int.zero_emod]; omega)]
    rw [hz]; simp
end Go.Proofs.Ytgmlimipejcpgaa
