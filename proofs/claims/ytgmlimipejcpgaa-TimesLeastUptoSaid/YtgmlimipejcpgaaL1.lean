/-
  YtgmlimipejcpgaaL1: a step of the proof of a law of the program: what this text proves holds under the hypotheses that its theorems name, and no others.
-/
import Derived.Test.YtgmlimipejcpgaaT13
set_option linter.unusedVariables false
set_option linter.unusedSimpArgs false
namespace Go.Proofs.Ytgmlimipejcpgaa
open Go Go.AM

/-- All arcs are kept. -/
def Sol (l : List A) (u : Nat → Int) : Prop := ∀ a ∈ l, u a.i.toNat - a.most ≤ u a.j.toNat
def Pos (u : Nat → Int) : Prop := ∀ j, 0 ≤ u j
/-- The least solution. -/
structure Least (l : List A) (N : Nat) (D : Nat → Int) : Prop where
  sol : Sol l D
  pos : Pos D
  least : ∀ u, Sol l u → Pos u → ∀ j, j < N → D j ≤ u j

theorem Sol.min {l : List A} {u v : Nat → Int} (hu : Sol l u) (hv : Sol l v) : Sol l (fun j => min (u j) (v j)) := fun a ha => by
  have h1 := hu a ha
  have h2 := hv a ha
  simp only
  omega

/-- Sum of the first ones. -/
def sumTo (u : Nat → Int) : Nat → Int
  | 0 => 0
  | n + 1 => sumTo u n + u n
theorem sumTo_le {u v : Nat → Int} : ∀ {n : Nat}, (∀ j, j < n → u j ≤ v j) → sumTo u n ≤ sumTo v n
  | 0, _ => Int.le_refl _
  | n + 1, h => by
    have h1 := sumTo_le (n := n) fun j hj => h j (by omega)
    have h2 := h n (by omega)
    simp only [sumTo]; omega
theorem sumTo_lt {u v : Nat → Int} : ∀ {n : Nat} {i : Nat}, (∀ j, j < n → u j ≤ v j) → i < n → u i < v i → sumTo u n < sumTo v n
  | 0, _, _, hi, _ => by omega
  | n + 1, i, h, hi, hlt => by
    simp only [sumTo]
    have h1 := fun j (hj : j < n) => h j (by omega)
    rcases Nat.lt_or_ge i n with h2 | h2
    · have h3 := sumTo_lt h1 h2 hlt
      have := h n (by omega)
      omega
    · have : i = n := by omega
      subst this
      have := sumTo_le h1
      omega
theorem sumTo_nonneg {u : Nat → Int} (h : Pos u) : ∀ n, 0 ≤ sumTo u n
  | 0 => Int.le_refl _
  | n + 1 => by have := sumTo_nonneg h n; have := h n; simp only [sumTo]; omega

theorem least_exists {l : List A} (N : Nat) {s : Nat → Int} (hs : Sol l s) (hp : Pos s) : ∃ D, Least l N D ∧ ∀ j, D j ≤ s j := by
  have key : ∀ (m : Nat) (s : Nat → Int), Sol l s → Pos s → (sumTo s N).toNat = m → ∃ D, Least l N D ∧ ∀ j, D j ≤ s j := by
    intro m
    induction m using Nat.strongRecOn with
    | _ m ih =>
      intro s hs hp hm
      by_cases hl : ∀ u, Sol l u → Pos u → ∀ j, j < N → s j ≤ u j
      · exact ⟨s, ⟨hs, hp, hl⟩, fun _ => Int.le_refl _⟩
      · have : ∃ u, Sol l u ∧ Pos u ∧ ∃ j, j < N ∧ u j < s j := by
          refine Classical.byContradiction fun hn => hl fun u hu hpu j hj => ?_
          refine Classical.byContradiction fun h => hn ⟨u, hu, hpu, j, hj, by omega⟩
        obtain ⟨u, hu, hpu, j, hj, hlt⟩ := this
        have hs' := Sol.min hs hu
        have hp' : Pos (fun j => min (s j) (u j)) := fun j => by have := hp j; have := hpu j; simp only; omega
        have hlt' := sumTo_lt (u := fun j => min (s j) (u j)) (v := s) (n := N) (i := j) (fun k _ => by omega) hj (by omega)
        have h0 := sumTo_nonneg hp' N
        obtain ⟨D, h1, h2⟩ := ih _ (by omega) _ hs' hp' rfl
        exact ⟨D, h1, fun k => by have := h2 k; omega⟩
  exact key _ s hs hp rfl

/-- How many of the first n are so. -/
def cnt (p : Nat → Bool) : Nat → Nat
  | 0 => 0
  | n + 1 => cnt p n + if p n = true then 1 else 0
theorem cnt_le {p q : Nat → Bool} : ∀ {n : Nat}, (∀ j, j < n → p j = true → q j = true) → cnt p n ≤ cnt q n
  | 0, _ => Nat.le_refl _
  | n + 1, h => by
    have h1 := cnt_le (n := n) fun j hj => h j (by omega)
    have h2 := h n (by omega)
    simp only [cnt]
    cases hp : p n <;> cases hq : q n <;> simp_all <;> omega
theorem cnt_lt {p q : Nat → Bool} : ∀ {n i : Nat}, (∀ j, j < n → p j = true → q j = true) → i < n → p i = false → q i = true → cnt p n < cnt q n
  | 0, _, _, hi, _, _ => by omega
  | n + 1, i, h, hi, h3, h4 => by
    simp only [cnt]
    have h1 := fun j (hj : j < n) => h j (by omega)
    rcases Nat.lt_or_ge i n with h2 | h2
    · have h5 := cnt_lt h1 h2 h3 h4
      have h6 := h n (by omega)
      cases hp : p n <;> cases hq : q n <;> simp_all <;> omega
    · have : i = n := by omega
      subst this
      have := cnt_le h1
      simp [h3, h4]; omega
theorem cnt_n {p : Nat → Bool} : ∀ n, cnt p n ≤ n
  | 0 => Nat.le_refl _
  | n + 1 => by have := cnt_n (p := p) n; simp only [cnt]; split <;> omega
theorem cnt_zero {p : Nat → Bool} : ∀ {n : Nat}, cnt p n = 0 → ∀ j, j < n → p j = false
  | 0, _, j, hj => by omega
  | n + 1, h, j, hj => by
    simp only [cnt] at h
    cases hp : p n
    · rw [hp] at h
      rcases Nat.lt_or_ge j n with h1 | h1
      · exact cnt_zero (by simpa using h) j h1
      · have : j = n := by omega
        subst this; exact hp
    · rw [hp] at h; simp at h

/-- Points that may be put down by one: a set that no arc from outside holds up. -/
theorem Least.held {l : List A} {N : Nat} {D : Nat → Int} (h : Least l N D) (p : Nat → Bool) (hp : ∀ j, p j = true → 1 ≤ D j) {k : Nat} (hk : k < N) (hpk : p k = true) :
    ∃ a ∈ l, p a.j.toNat = true ∧ p a.i.toNat = false ∧ D a.i.toNat - a.most = D a.j.toNat := by
  refine Classical.byContradiction fun hn => ?_
  have hs : Sol l (fun j => if p j = true then D j - 1 else D j) := fun a ha => by
    have h1 := h.sol a ha
    simp only
    cases hj : p a.j.toNat <;> cases hi : p a.i.toNat <;> simp
    · omega
    · omega
    · refine Classical.byContradiction fun h2 => hn ⟨a, ha, hj, hi, by omega⟩
    · omega
  have hpos : Pos (fun j => if p j = true then D j - 1 else D j) := fun j => by
    simp only
    split
    · rename_i hj; have := hp j hj; omega
    · exact h.pos j
  have := h.least _ hs hpos k hk
  simp [hpk] at this
  omega

/-- No point is far. -/
theorem Least.near {l : List A} {N : Nat} {D : Nat → Int} (h : Least l N D) {W : Int} (hW : 0 ≤ W) (hw : ∀ a ∈ l, -W ≤ a.most) (hin : ∀ a ∈ l, a.i.toNat < N ∧ a.j.toNat < N) : ∀ j, j < N → D j ≤ N * W := by
  have key : ∀ m : Nat, m ≤ N → cnt (fun j => decide ((m : Int) * W < D j)) N + m ≤ N := by
    intro m
    induction m with
    | zero => intro _; have := cnt_n (p := fun j => decide (((0 : Nat) : Int) * W < D j)) N; omega
    | succ m ih =>
      intro hm
      have h1 := ih (by omega)
      have e : ((m + 1 : Nat) : Int) * W = m * W + W := by rw [Int.natCast_add, Int.add_mul]; simp
      have hmW : 0 ≤ (m : Int) * W := Int.mul_nonneg (by omega) hW
      have hsub : ∀ j, j < N → decide (((m + 1 : Nat) : Int) * W < D j) = true → decide ((m : Int) * W < D j) = true := fun j _ hj => by
        rw [decide_eq_true_eq] at hj ⊢; rw [e] at hj; omega
      rcases Nat.eq_zero_or_pos (cnt (fun j => decide (((m + 1 : Nat) : Int) * W < D j)) N) with h0 | h0
      · omega
      · -- a point above; were there none between, all above could be put down
        have hex : ∃ k, k < N ∧ ((m + 1 : Nat) : Int) * W < D k := by
          refine Classical.byContradiction fun hn => ?_
          have : ∀ n, n ≤ N → cnt (fun j => decide (((m + 1 : Nat) : Int) * W < D j)) n = 0 := by
            intro n
            induction n with
            | zero => intro _; rfl
            | succ n ihn =>
              intro hn'
              simp only [cnt]
              rw [ihn (by omega), if_neg]
              simp only [decide_eq_true_eq]
              exact fun h => hn ⟨n, by omega, h⟩
          have := this N (Nat.le_refl _)
          omega
        obtain ⟨k, hk, hkD⟩ := hex
        obtain ⟨a, ha, haj, hai, heq⟩ := h.held (fun j => decide (((m + 1 : Nat) : Int) * W < D j)) (fun j hj => by rw [decide_eq_true_eq, e] at hj; omega) hk (by simpa using hkD)
        rw [decide_eq_true_eq] at haj
        rw [decide_eq_false_iff_not] at hai
        have hwa := hw a ha
        rw [e] at haj hai
        have hlt := cnt_lt (n := N) (i := a.i.toNat) hsub (hin a ha).1 (by rw [decide_eq_false_iff_not, e]; omega) (by rw [decide_eq_true_eq]; omega)
        omega
  intro j hj
  have h1 := key N (Nat.le_refl _)
  have h2 := cnt_zero (n := N) (p := fun j => decide ((N : Int) * W < D j)) (by omega) j hj
  simp only [decide_eq_false_iff_not] at h2
  omega
end Go.Proofs.Ytgmlimipejcpgaa
