/-
  YtgmlimipejcpgaaAmM: a step of the proof of a law of the program: what this text proves holds under the hypotheses that its theorems name, and no others.
-/
import Derived.Test.YtgmlimipejcpgaaAmL
/-! AM, part M: any order of a region's operations. -/
set_option linter.unusedVariables false
set_option linter.unusedSimpArgs false
namespace Go.AM

def beforeB (o : Oper) (i : Nat) : Bool := o.after.toList.any fun e => Region.binds .any e && e.on == i
/-- One operation of a region against the others, the first k being pure. -/
def drawOk1 (ops : Array Oper) (l : List Oper) (k j : Nat) : Bool := match l[j]? with
  | none => true
  | some oj => (oj.after.toList.all fun e => !Region.binds .any e || decide (e.on < j)) &&
    if k ≤ j then (List.range j).all fun i => beforeB oj i else
      (List.range k).all fun i => match l[i]? with
        | none => true
        | some oi => match oi.dst with
          | none => true
          | some d => i == j || (oj.dst != some d && (!(oj.looksAt ops).contains d || beforeB oj i || beforeB oi j))
def drawOk (ops : Array Oper) (k : Nat) : Bool := (List.range ops.toList.length).all fun j => drawOk1 ops ops.toList k j

theorem beforeB_spec {o : Oper} {i : Nat} (h : beforeB o i = true) : ∃ e ∈ o.after, Region.binds .any e = true ∧ e.on = i := by
  simp only [beforeB, List.any_eq_true, Bool.and_eq_true, beq_iff_eq] at h
  obtain ⟨e, h1, h2, h3⟩ := h
  exact ⟨e, by simpa using h1, h2, h3⟩

structure DrawOk (ops : Array Oper) (k : Nat) : Prop where
  down : ∀ (j : Nat) (o : Oper), ops[j]? = some o → ∀ e ∈ o.after, Region.binds .any e = true → e.on < j
  tail : ∀ (j : Nat) (o : Oper), ops[j]? = some o → k ≤ j → ∀ i, i < j → beforeB o i = true
  apart : ∀ (i j : Nat) (oi oj : Oper) (d : Tmp), i < k → j < k → i ≠ j → ops[i]? = some oi → ops[j]? = some oj → oi.dst = some d →
    oj.dst ≠ some d ∧ (d ∈ oj.looksAt ops → beforeB oj i = true ∨ beforeB oi j = true)

theorem drawOk_spec {ops : Array Oper} {k : Nat} (h : drawOk ops k = true) : DrawOk ops k := by
  have h1 : ∀ (j : Nat) (o : Oper), ops[j]? = some o → drawOk1 ops ops.toList k j = true := fun j o hj => by
    have hlt : j < ops.toList.length := by simpa using (Array.getElem?_eq_some_iff.1 hj).1
    exact List.all_eq_true.1 h j (List.mem_range.2 hlt)
  refine ⟨fun j o hj e he hb => ?_, fun j o hj hk i hi => ?_, fun i j oi oj d hi hj hij hoi hoj hd => ?_⟩
  · have := h1 j o hj
    unfold drawOk1 at this
    rw [show ops.toList[j]? = some o by simpa using hj] at this
    simp only [Bool.and_eq_true, List.all_eq_true, Bool.or_eq_true, Bool.not_eq_true', decide_eq_true_eq] at this
    exact (this.1 e (by simpa using he)).resolve_left (by simp [hb])
  · have := h1 j o hj
    unfold drawOk1 at this
    rw [show ops.toList[j]? = some o by simpa using hj] at this
    simp only [Bool.and_eq_true, if_pos hk, List.all_eq_true, List.mem_range] at this
    exact this.2 i hi
  · have := h1 j oj hoj
    unfold drawOk1 at this
    rw [show ops.toList[j]? = some oj by simpa using hoj] at this
    simp only [Bool.and_eq_true, if_neg (Nat.not_le.2 hj), List.all_eq_true, List.mem_range] at this
    have := this.2 i hi
    rw [show ops.toList[i]? = some oi by simpa using hoi] at this
    simp only [hd, Bool.or_eq_true, beq_iff_eq, hij, false_or, Bool.and_eq_true, bne_iff_ne, ne_eq, Bool.not_eq_true', List.contains_eq_mem, decide_eq_false_iff_not] at this
    refine ⟨this.1, fun hm => ?_⟩
    rcases this.2 with (h | h) | h
    · exact absurd hm h
    · exact .inl h
    · exact .inr h

def unl (ops : Array Oper) (listed : Array Bool) : Nat := ((List.range ops.size).filter fun j => !listed.getD j true).length
theorem filter_lt {α : Type} {p q : α → Bool} {i : α} (h1 : p i = true) (h2 : q i = false) : ∀ (l : List α), (∀ x ∈ l, q x = true → p x = true) → i ∈ l → (l.filter q).length < (l.filter p).length
  | [], _, h => by simp at h
  | x :: r, hs, h => by
    have hr := fun y hy => hs y (List.mem_cons_of_mem _ hy)
    have hle : ∀ (l : List α), (∀ x ∈ l, q x = true → p x = true) → (l.filter q).length ≤ (l.filter p).length := fun l => by
      induction l with
      | nil => intro _; simp
      | cons y t ih =>
        intro ht
        have := ih fun z hz => ht z (List.mem_cons_of_mem _ hz)
        have hy := ht y (List.mem_cons_self ..)
        cases hq : q y <;> cases hp : p y <;> simp_all <;> omega
    rcases List.mem_cons.1 h with rfl | h
    · have := hle r hr
      simp [h1, h2]; omega
    · have := filter_lt h1 h2 r hr h
      have hx := hs x (List.mem_cons_self ..)
      cases hq : q x <;> cases hp : p x <;> simp_all <;> omega

theorem unl_set {ops : Array Oper} {listed : Array Bool} {i : Nat} (hi : i < ops.size) (hs : listed.size = ops.size) (hl : listed.getD i true = false) : unl ops (listed.setIfInBounds i true) < unl ops listed := by
  unfold unl
  refine filter_lt (i := i) (by simp [hl]) (by simp [Array.getD, hs, hi]) _ (fun x _ hx => ?_) (List.mem_range.2 hi)
  simp only [Bool.not_eq_true'] at hx ⊢
  by_cases hxi : i = x
  · subst hxi; exact hl
  · rwa [getD_set_ne _ hxi] at hx

theorem getD_tf {listed : Array Bool} {i n : Nat} (hs : listed.size = n) (hi : i < n) : listed.getD i true = listed.getD i false := by
  simp [Array.getD, hs, hi]

section
variable {P : Program} {ge : GEnv} {st : St} {Q : Exit → St → Prop} {ops : Array Oper}

/-- Where all that is listed is the region's beginning, and each later operation waits for all ahead of it. -/
theorem wpAny_tail {Qc : Exit → Act → World → Prop} {k : Nat} (hd : DrawOk ops k) : ∀ (fuel : Nat) (listed : Array Bool) (j : Nat) (a : Act) (w : World), k ≤ j → listed.size = ops.size → unl ops listed ≤ fuel →
    (∀ i, i < ops.size → (listed.getD i false = true ↔ i < j)) → wpList P ops Qc (ops.toList.drop j) a w → wpAny P .any ops Qc fuel listed a w := by
  intro fuel
  induction fuel with
  | zero =>
    intro listed j a w hk hs hf hl h
    have hall : ∀ i, i < ops.size → listed.getD i false = true := fun i hi => by
      have : ((List.range ops.size).filter fun j => !listed.getD j true) = [] := List.eq_nil_of_length_eq_zero (Nat.le_zero.1 hf)
      have := List.filter_eq_nil_iff.1 this i (List.mem_range.2 hi)
      rw [← getD_tf hs hi]; simpa using this
    have hj : ops.size ≤ j := by
      rcases Nat.lt_or_ge j ops.size with h1 | h1
      · have := (hl j h1).1 (hall j h1); omega
      · exact h1
    rw [List.drop_eq_nil_of_le (by simpa using hj)] at h
    refine ⟨?_, h⟩
    rw [List.eq_nil_iff_forall_not_mem]
    intro i hi
    obtain ⟨h1, o, h2, _⟩ := mem_ready.1 hi
    have hlt := (Array.getElem?_eq_some_iff.1 h2).1
    rw [getD_tf hs hlt, hall i hlt] at h1; cases h1
  | succ fuel ih =>
    intro listed j a w hk hs hf hl h
    have hready : ∀ i, i ∈ Region.ready .any ops listed → i = j ∧ i < ops.size := fun i hi => by
      obtain ⟨h1, o, h2, h3⟩ := mem_ready.1 hi
      have hlt := (Array.getElem?_eq_some_iff.1 h2).1
      rw [getD_tf hs hlt] at h1
      have hij : j ≤ i := by
        rcases Nat.lt_or_ge i j with h4 | h4
        · rw [(hl i hlt).2 h4] at h1; cases h1
        · exact h4
      refine ⟨?_, hlt⟩
      rcases Nat.lt_or_ge j i with h4 | h4
      · obtain ⟨e, he, hb, rfl⟩ := beforeB_spec (hd.tail i o h2 (by omega) j h4)
        have := (hl e.on (by omega)).1 (h3 e he hb)
        omega
      · omega
    refine ⟨fun hr => ?_, fun i hi => ?_⟩
    · have hj : ops.size ≤ j := by
        rcases Nat.lt_or_ge j ops.size with h1 | h1
        · have : j ∈ Region.ready .any ops listed := by
            refine mem_ready.2 ⟨?_, ops[j], by simp [h1], fun e he hb => ?_⟩
            · rw [getD_tf hs h1]
              cases hh : listed.getD j false
              · rfl
              · have := (hl j h1).1 hh; omega
            · have := hd.down j ops[j] (by simp [h1]) e he hb
              exact (hl e.on (by omega)).2 this
          rw [hr] at this; cases this
        · exact h1
      rw [List.drop_eq_nil_of_le (by simpa using hj)] at h
      exact h
    · obtain ⟨rfl, hlt⟩ := hready i hi
      have hoi : ops[i]? = some ops[i] := by simp [hlt]
      have hdrop : ops.toList.drop i = ops[i] :: ops.toList.drop (i + 1) := by
        rw [List.drop_eq_getElem_cons (by simpa using hlt)]; simp
      rw [hdrop] at h
      have hl1 : listed.getD i true = false := (mem_ready.1 hi).1
      have hnext : ∀ a w, wpList P ops Qc (ops.toList.drop (i + 1)) a w → wpAny P .any ops Qc fuel (listed.setIfInBounds i true) a w := fun a w hw => by
        refine ih _ (i + 1) a w (by omega) (by simp [hs]) (by have := unl_set hlt hs hl1; omega) (fun x hx => ?_) hw
        by_cases hxi : i = x
        · subst hxi
          simp [Array.getD, hs, hx]
        · rw [getD_set_ne _ hxi, hl x hx]; omega
      unfold wpOp
      rw [hoi]
      unfold wpList at h
      simp only
      split
      · rename_i hw
        rw [if_pos hw] at h
        exact h.imp (Oper.wp_mono hnext) id
      · rename_i hw
        rw [if_neg hw] at h
        exact hnext _ _ h
end
end Go.AM
