/-
  YtgmlimipejcpgaaL2: a step of the proof of a law of the program: what this text proves holds under the hypotheses that its theorems name, and no others.
-/
import Derived.Test.YtgmlimipejcpgaaL1
set_option linter.unusedVariables false
set_option linter.unusedSimpArgs false
namespace Go.Proofs.Ytgmlimipejcpgaa
open Go Go.AM

def val (t : List Int) (j : Nat) : Int := t.getD j 0
theorem val_set {t : List Int} {q k : Nat} {v : Int} (hq : q < t.length) : val (t.set q v) k = if k = q then v else val t k := by
  unfold val
  simp only [List.getD_eq_getElem?_getD, List.getElem?_set]
  split
  · rename_i h; subst h; simp [hq]
  · rename_i h; rw [if_neg (fun e => h e.symm)]
theorem set_val {t : List Int} {q : Nat} (hq : q < t.length) : t.set q (val t q) = t := by
  unfold val
  simp [List.getD_eq_getElem?_getD, List.getElem?_eq_getElem hq]

structure Below (never : Int) (l : List A) (N : Nat) (D : Nat → Int) : Prop where
  sol : Sol l D
  lt : ∀ j, j < N → D j < never
  ids : ∀ a ∈ l, a.i.toNat < N ∧ a.j.toNat < N
structure Under (N : Nat) (D : Nat → Int) (t : List Int) : Prop where
  len : t.length = N
  le : ∀ j, j < N → val t j ≤ D j

theorem stepL_under {never : Int} {l : List A} {N : Nat} {D : Nat → Int} {t : List Int} {a : A} (hb : Below never l N D) (hu : Under N D t) (ha : a ∈ l) :
    Under N D (stepL never t a).1 ∧ (∀ k, k < N → val t k ≤ val (stepL never t a).1 k) ∧ val t a.i.toNat - a.most ≤ val (stepL never t a).1 a.j.toNat ∧
      ((stepL never t a).2 = false → (stepL never t a).1 = t) := by
  obtain ⟨hi, hj⟩ := hb.ids a ha
  have hq : a.j.toNat < t.length := by rw [hu.len]; exact hj
  have h1 := hb.sol a ha
  have h2 := hu.le _ hi
  have h3 := hu.le _ hj
  have h4 := hb.lt _ hj
  have e : (stepL never t a).1 = t.set a.j.toNat (if never < (if val t a.j.toNat < val t a.i.toNat - a.most then val t a.i.toNat - a.most else val t a.j.toNat) then never else (if val t a.j.toNat < val t a.i.toNat - a.most then val t a.i.toNat - a.most else val t a.j.toNat)) := rfl
  have e2 : (stepL never t a).2 = !decide ((if never < (if val t a.j.toNat < val t a.i.toNat - a.most then val t a.i.toNat - a.most else val t a.j.toNat) then never else (if val t a.j.toNat < val t a.i.toNat - a.most then val t a.i.toNat - a.most else val t a.j.toNat)) = val t a.j.toNat) := rfl
  have hv : (if never < (if val t a.j.toNat < val t a.i.toNat - a.most then val t a.i.toNat - a.most else val t a.j.toNat) then never else (if val t a.j.toNat < val t a.i.toNat - a.most then val t a.i.toNat - a.most else val t a.j.toNat)) = max (val t a.j.toNat) (val t a.i.toNat - a.most) := by
    split <;> split <;> omega
  rw [hv] at e e2
  rw [e]
  refine ⟨⟨by simp [hu.len], fun k hk => ?_⟩, fun k hk => ?_, ?_, fun h => ?_⟩
  · rw [val_set hq]
    split
    · rename_i h; subst h; omega
    · exact hu.le k hk
  · rw [val_set hq]
    split
    · rename_i h; subst h; omega
    · exact Int.le_refl _
  · rw [val_set hq, if_pos rfl]; omega
  · rw [e2] at h
    have h5 : max (val t a.j.toNat) (val t a.i.toNat - a.most) = val t a.j.toNat := by simpa using h
    rw [h5]; exact set_val hq

theorem runAll_under {never : Int} {l : List A} {N : Nat} {D : Nat → Int} (hb : Below never l N D) : ∀ (r : List A) (t : List Int), (∀ a ∈ r, a ∈ l) → Under N D t →
    Under N D (runAll (stepL never) t r) ∧ (∀ k, k < N → val t k ≤ val (runAll (stepL never) t r) k) ∧ ∀ a ∈ r, val t a.i.toNat - a.most ≤ val (runAll (stepL never) t r) a.j.toNat
  | [], t, _, hu => ⟨hu, fun _ _ => Int.le_refl _, fun a ha => by cases ha⟩
  | b :: r, t, hr, hu => by
    have hbl := hr b (List.mem_cons_self ..)
    obtain ⟨h1, h2, h3, _⟩ := stepL_under hb hu hbl
    obtain ⟨h4, h5, h6⟩ := runAll_under hb r _ (fun a ha => hr a (List.mem_cons_of_mem _ ha)) h1
    simp only [runAll]
    refine ⟨h4, fun k hk => Int.le_trans (h2 k hk) (h5 k hk), fun a ha => ?_⟩
    obtain ⟨hi, hj⟩ := hb.ids a (hr a ha)
    rcases List.mem_cons.1 ha with rfl | ha
    · exact Int.le_trans h3 (h5 _ hj)
    · have := h6 a ha
      have := h2 _ hi
      omega

theorem round_run {never : Int} {l : List A} {N : Nat} {D : Nat → Int} (hb : Below never l N D) : ∀ (r : List A) (t : List Int), (∀ a ∈ r, a ∈ l) → Under N D t →
    (round (stepL never) t r).1 = runAll (stepL never) t r ∧ ((round (stepL never) t r).2 = false → (round (stepL never) t r).1 = t)
  | [], t, _, hu => ⟨rfl, fun _ => rfl⟩
  | b :: r, t, hr, hu => by
    obtain ⟨h1, h2, h3, h4⟩ := stepL_under hb hu (hr b (List.mem_cons_self ..))
    simp only [round, runAll]
    split
    · exact ⟨rfl, fun h => by cases h⟩
    · rename_i hm
      have e := h4 (by simpa using hm)
      obtain ⟨h5, h6⟩ := round_run hb r _ (fun a ha => hr a (List.mem_cons_of_mem _ ha)) h1
      exact ⟨h5, fun h => (h6 h).trans e⟩

/-- Where a solution is, the rounds settle at the least one. -/
theorem settle {never : Int} {l : List A} {N : Nat} {D : Nat → Int} (hb : Below never l N D) (hl : Least l N D) : ∀ (k : Nat) (t : List Int), Under N D t → (∀ j, 0 ≤ val t j) →
    cnt (fun j => decide (val t j < D j)) N < k → (rounds (stepL never) l k t).2 = true ∧ ∀ j, j < N → val (rounds (stepL never) l k t).1 j = D j
  | 0, t, _, _, h => by omega
  | k + 1, t, hu, h0, hc => by
    obtain ⟨h1, h2⟩ := round_run hb l t (fun _ h => h) hu
    obtain ⟨h3, h4, h5⟩ := runAll_under hb l t (fun _ h => h) hu
    simp only [rounds]
    split
    · rename_i hm
      rw [h1]
      refine settle hb hl k _ h3 (fun j => ?_) ?_
      · rcases Nat.lt_or_ge j N with hj | hj
        · exact Int.le_trans (h0 j) (h4 j hj)
        · unfold val; rw [List.getD_eq_getElem?_getD, List.getElem?_eq_none (by rw [h3.len]; exact hj)]; simp
      · -- one more is final
        have hex : (∃ j, j < N ∧ val t j < D j) ∨ ∀ j, j < N → ¬ val t j < D j := by
          by_cases h : ∃ j, j < N ∧ val t j < D j
          · exact .inl h
          · exact .inr fun j hj hlt => h ⟨j, hj, hlt⟩
        rcases hex with ⟨j, hj, hlt⟩ | hall
        · obtain ⟨a, ha, haj, hai, heq⟩ := hl.held (fun j => decide (val t j < D j)) (fun j hj => by rw [decide_eq_true_eq] at hj; have := h0 j; omega) hj (by simpa using hlt)
          rw [decide_eq_true_eq] at haj
          rw [decide_eq_false_iff_not] at hai
          obtain ⟨hi, hj'⟩ := hb.ids a ha
          have h6 := h5 a ha
          have h7 := hu.le _ hi
          have := cnt_lt (n := N) (i := a.j.toNat) (p := fun j => decide (val (runAll (stepL never) t l) j < D j)) (q := fun j => decide (val t j < D j)) (fun j hj h => by
            rw [decide_eq_true_eq] at h ⊢; have := h4 j hj; omega) hj' (by rw [decide_eq_false_iff_not]; omega) (by rw [decide_eq_true_eq]; exact haj)
          omega
        · -- all are final: nothing moves
          exfalso
          have hsame : ∀ (r : List A), (∀ a ∈ r, a ∈ l) → (round (stepL never) t r).2 = false := by
            intro r
            induction r with
            | nil => intro _; rfl
            | cons b r ih =>
              intro hr
              have hbl := hr b (List.mem_cons_self ..)
              obtain ⟨hi, hj⟩ := hb.ids b hbl
              have hq : b.j.toNat < t.length := by rw [hu.len]; exact hj
              have h6 := hb.sol b hbl
              have h7 := hu.le _ hi
              have h8 := hall _ hj
              have h9 := hb.lt _ hj
              have h10 := hu.le _ hj
              have e2 : (stepL never t b).2 = !decide ((if never < (if val t b.j.toNat < val t b.i.toNat - b.most then val t b.i.toNat - b.most else val t b.j.toNat) then never else (if val t b.j.toNat < val t b.i.toNat - b.most then val t b.i.toNat - b.most else val t b.j.toNat)) = val t b.j.toNat) := rfl
              have hf : (stepL never t b).2 = false := by
                rw [e2, if_neg (by split <;> omega), if_neg (by omega)]; simp
              have hst := (stepL_under hb hu hbl).2.2.2 hf
              simp only [round, hf]
              rw [hst]
              simpa using ih fun a ha => hr a (List.mem_cons_of_mem _ ha)
          rw [hsame l fun _ h => h] at hm; cases hm
    · rename_i hm
      have e := h2 (by simpa using hm)
      refine ⟨rfl, fun j hj => ?_⟩
      rw [e]
      -- what does not move is a solution
      rw [h1] at e
      have hs : Sol l (fun j => val t j) := fun a ha => by have := h5 a ha; rw [e] at this; exact this
      have h6 := hl.least _ hs (fun j => h0 j) j hj
      have h7 := hu.le j hj
      omega
end Go.Proofs.Ytgmlimipejcpgaa
