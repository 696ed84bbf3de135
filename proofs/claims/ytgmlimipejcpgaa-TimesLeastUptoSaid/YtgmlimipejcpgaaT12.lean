/-
  YtgmlimipejcpgaaT12: a step of the proof of a law of the program: what this text proves holds under the hypotheses that its theorems name, and no others.
-/
import Derived.Test.YtgmlimipejcpgaaT11
set_option linter.unusedVariables false
set_option linter.unusedSimpArgs false
namespace Go.Proofs.Ytgmlimipejcpgaa
open Go Go.AM Fx
def stepL (never : Int) (t : List Int) (a : A) : List Int × Bool :=
  let was := t.getD a.j.toNat 0
  let x := t.getD a.i.toNat 0 - a.most
  let v := if never < (if was < x then x else was) then never else (if was < x then x else was)
  (t.set a.j.toNat v, !decide (v = was))
def HL (never : Int) (t : List Int) : List B := [.row 2 0 0 true (t.map fun n => [V.int .i64 n]), .var [.ref 0 0 0 t.length], .var [.int .i64 never]]
def arcIn (n : Nat) (a : A) : Prop := 0 ≤ a.i ∧ a.i < n ∧ 0 ≤ a.j ∧ a.j < n ∧ -1125899906842624 ≤ a.most ∧ a.most ≤ 1125899906842624

set_option maxHeartbeats 4000000 in
theorem c_leastStep (never : Int) (n : Nat) (t : List Int) (a : A) (e : List B) (hn : 0 ≤ never ∧ never ≤ 1152921504606846976) (ht : t.length = n) (hr : ∀ x ∈ t, 0 ≤ x ∧ x ≤ never) (ha : arcIn n a) :
    GCall Try.prog GV 17 [.agg a.cells, .ptr 1 0, .ptr 2 0] (HL never t ++ e) (fun v h' => v = .bool (stepL never t a).2 ∧ h' = HL never (stepL never t a).1 ++ e) := by
  obtain ⟨ai, aj, am⟩ := a
  obtain ⟨g1, g2, g3, g4, g5, g6⟩ := ha
  simp only at g1 g2 g3 g4 g5 g6
  obtain ⟨p, rfl⟩ := Int.eq_ofNat_of_zero_le g1
  obtain ⟨q, rfl⟩ := Int.eq_ofNat_of_zero_le g3
  have hp : p < t.length := by omega
  have hq : q < t.length := by omega
  have rp := hr _ (List.getElem_mem hp)
  have rq := hr _ (List.getElem_mem hq)
  obtain ⟨x, hx⟩ : ∃ x, t[p] = x := ⟨_, rfl⟩
  obtain ⟨y, hy⟩ : ∃ y, t[q] = y := ⟨_, rfl⟩
  rw [hx] at rp
  rw [hy] at rq
  refine GCall_body Try.func17 rfl (by decide) Try.ntmps17 (by simp) Try.results17 ?_
  repeat' (first
    | refine AW_seq_k fun K hK => ?_
    | refine AW_block ?_
    | refine AW_skip ?_
    | refine AW_exit ?_
    | refine AW_ret ?_
    | refine AW_scope ?_
    | refine AW_label ?_
    | refine SScope_normal ?_
    | refine SScope_ret ?_
    | refine SScope_exit ?_
    | refine SThen_normal ?_
    | refine SThen_ret ?_
    | refine SThen_exit ?_
    | refine SBlock_normal ?_
    | refine SBlock_ret ?_
    | refine SBlock_exit ?_
    | refine SBlock_exit_ne (by decide) ?_
    | (refine AW_region_AO ?_; simp [HL, A.cells, hp, hq, hx, hy, wrap_i64]; try (simp (disch := omega) only [wrap_i64]; try simp [HL, A.cells, hp, hq, hx, hy, wrap_i64]))
    | (refine AOg_split_notdec (fun h => ?_) (fun h => ?_) <;> (simp [h, HL, A.cells, hp, hq, hx, hy, wrap_i64]; try (simp (disch := omega) only [wrap_i64]; try simp [HL, A.cells, hp, hq, hx, hy, wrap_i64])))
    | (refine AOg_split_dec (fun h => ?_) (fun h => ?_) <;> (simp [h, HL, A.cells, hp, hq, hx, hy, wrap_i64]; try (simp (disch := omega) only [wrap_i64]; try simp [HL, A.cells, hp, hq, hx, hy, wrap_i64])))
    | (refine AOg_split_not (fun h => ?_) (fun h => ?_) <;> (simp [h, HL, A.cells, hp, hq, hx, hy, wrap_i64]; try (simp (disch := omega) only [wrap_i64]; try simp [HL, A.cells, hp, hq, hx, hy, wrap_i64])))
    | (refine AOg_split (fun h => ?_) (fun h => ?_) <;> (simp [h, HL, A.cells, hp, hq, hx, hy, wrap_i64]; try (simp (disch := omega) only [wrap_i64]; try simp [HL, A.cells, hp, hq, hx, hy, wrap_i64])))
    | refine AW_cond_t rfl ?_
    | refine AW_cond_f rfl ?_
    | refine AW_cond_notdec rfl (fun h => ?_) (fun h => ?_)
    | refine AW_cond_dec rfl (fun h => ?_) (fun h => ?_)
    | refine AW_cond_not rfl (fun h => ?_) (fun h => ?_)
    | refine AW_cond rfl (fun h => ?_) (fun h => ?_)
    | (refine APg_split_notdec (fun h => ?_) (fun h => ?_) <;> (simp [h, HL, A.cells, hp, hq, hx, hy, wrap_i64]; try (simp (disch := omega) only [wrap_i64]; try simp [HL, A.cells, hp, hq, hx, hy, wrap_i64])))
    | (refine APg_split_dec (fun h => ?_) (fun h => ?_) <;> (simp [h, HL, A.cells, hp, hq, hx, hy, wrap_i64]; try (simp (disch := omega) only [wrap_i64]; try simp [HL, A.cells, hp, hq, hx, hy, wrap_i64])))
    | (refine APg_split_not (fun h => ?_) (fun h => ?_) <;> (simp [h, HL, A.cells, hp, hq, hx, hy, wrap_i64]; try (simp (disch := omega) only [wrap_i64]; try simp [HL, A.cells, hp, hq, hx, hy, wrap_i64])))
    | (refine APg_split (fun h => ?_) (fun h => ?_) <;> (simp [h, HL, A.cells, hp, hq, hx, hy, wrap_i64]; try (simp (disch := omega) only [wrap_i64]; try simp [HL, A.cells, hp, hq, hx, hy, wrap_i64])))
    | (refine AW_region_APx (id := 2) 16 mixed (by decide) ?_; simp [HL, A.cells, hp, hq, hx, hy, wrap_i64]; try (simp (disch := omega) only [wrap_i64]; try simp [HL, A.cells, hp, hq, hx, hy, wrap_i64]))
    | (apply hK; clear hK K)
    | (refine AWh (by assumption) ?_))
  refine retg1 (h' := HL never (stepL never t ⟨p, q, am⟩).1 ++ e) ⟨by simp [stepL, hx, hy, hp, hq], rfl⟩ rfl ?_
  have := Leaves.tail (a := HL never t) (a' := HL never (stepL never t ⟨p, q, am⟩).1) (e := e) (x := [B.var [V.int IntKind.i64 ↑p, V.int IntKind.i64 ↑q, V.int IntKind.i64 am]]) (by simp [HL]) (by simp [HL])
  simpa [HL, stepL, hx, hy, hp, hq] using this

theorem stepL_inv (never : Int) (n : Nat) (t : List Int) (a : A) (hn : 0 ≤ never) (ht : t.length = n) (hr : ∀ x ∈ t, 0 ≤ x ∧ x ≤ never) (ha : arcIn n a) :
    (stepL never t a).1.length = n ∧ ∀ x ∈ (stepL never t a).1, 0 ≤ x ∧ x ≤ never := by
  obtain ⟨ai, aj, am⟩ := a
  obtain ⟨g1, g2, g3, g4, g5, g6⟩ := ha
  simp only at g1 g2 g3 g4 g5 g6
  obtain ⟨p, rfl⟩ := Int.eq_ofNat_of_zero_le g1
  obtain ⟨q, rfl⟩ := Int.eq_ofNat_of_zero_le g3
  have hp : p < t.length := by omega
  have hq : q < t.length := by omega
  have rq := hr _ (List.getElem_mem hq)
  refine ⟨by simp [stepL, ht], fun z hz => ?_⟩
  simp only [stepL] at hz
  rcases List.mem_or_eq_of_mem_set hz with h | h
  · exact hr z h
  · simp [hp, hq] at h
    rw [h]
    split <;> split <;> omega

/-! The greatest points. -/
def stepG (t : List Int) (a : A) : List Int × Bool :=
  let was := t.getD a.i.toNat 0
  let x := t.getD a.j.toNat 0 + a.most
  let v := if (if x < was then x else was) < -1 then -1 else (if x < was then x else was)
  (t.set a.i.toNat v, !decide (v = was))
def HG (t : List Int) : List B := [.row 2 0 0 true (t.map fun n => [V.int .i64 n]), .var [.ref 0 0 0 t.length]]

set_option maxHeartbeats 4000000 in
theorem c_greatestStep (n : Nat) (t : List Int) (a : A) (e : List B) (ht : t.length = n) (hr : ∀ x ∈ t, -1 ≤ x ∧ x ≤ 1125899906842624) (ha : arcIn n a) :
    GCall Try.prog GV 19 [.agg a.cells, .ptr 1 0] (HG t ++ e) (fun v h' => v = .bool (stepG t a).2 ∧ h' = HG (stepG t a).1 ++ e) := by
  obtain ⟨ai, aj, am⟩ := a
  obtain ⟨g1, g2, g3, g4, g5, g6⟩ := ha
  simp only at g1 g2 g3 g4 g5 g6
  obtain ⟨p, rfl⟩ := Int.eq_ofNat_of_zero_le g1
  obtain ⟨q, rfl⟩ := Int.eq_ofNat_of_zero_le g3
  have hp : p < t.length := by omega
  have hq : q < t.length := by omega
  have rp := hr _ (List.getElem_mem hp)
  have rq := hr _ (List.getElem_mem hq)
  obtain ⟨x, hx⟩ : ∃ x, t[p] = x := ⟨_, rfl⟩
  obtain ⟨y, hy⟩ : ∃ y, t[q] = y := ⟨_, rfl⟩
  rw [hx] at rp
  rw [hy] at rq
  refine GCall_body Try.func19 rfl (by decide) Try.ntmps19 (by simp) Try.results19 ?_
  repeat' (first
    | refine AW_seq_k fun K hK => ?_
    | refine AW_block ?_
    | refine AW_skip ?_
    | refine AW_exit ?_
    | refine AW_ret ?_
    | refine AW_scope ?_
    | refine AW_label ?_
    | refine SScope_normal ?_
    | refine SScope_ret ?_
    | refine SScope_exit ?_
    | refine SThen_normal ?_
    | refine SThen_ret ?_
    | refine SThen_exit ?_
    | refine SBlock_normal ?_
    | refine SBlock_ret ?_
    | refine SBlock_exit ?_
    | refine SBlock_exit_ne (by decide) ?_
    | (refine AW_region_AO ?_; simp [HG, A.cells, hp, hq, hx, hy, wrap_i64]; try (simp (disch := omega) only [wrap_i64]; try simp [HG, A.cells, hp, hq, hx, hy, wrap_i64]))
    | (refine AOg_split_notdec (fun h => ?_) (fun h => ?_) <;> (simp [h, HG, A.cells, hp, hq, hx, hy, wrap_i64]; try (simp (disch := omega) only [wrap_i64]; try simp [HG, A.cells, hp, hq, hx, hy, wrap_i64])))
    | (refine AOg_split_dec (fun h => ?_) (fun h => ?_) <;> (simp [h, HG, A.cells, hp, hq, hx, hy, wrap_i64]; try (simp (disch := omega) only [wrap_i64]; try simp [HG, A.cells, hp, hq, hx, hy, wrap_i64])))
    | (refine AOg_split_not (fun h => ?_) (fun h => ?_) <;> (simp [h, HG, A.cells, hp, hq, hx, hy, wrap_i64]; try (simp (disch := omega) only [wrap_i64]; try simp [HG, A.cells, hp, hq, hx, hy, wrap_i64])))
    | (refine AOg_split (fun h => ?_) (fun h => ?_) <;> (simp [h, HG, A.cells, hp, hq, hx, hy, wrap_i64]; try (simp (disch := omega) only [wrap_i64]; try simp [HG, A.cells, hp, hq, hx, hy, wrap_i64])))
    | refine AW_cond_t rfl ?_
    | refine AW_cond_f rfl ?_
    | refine AW_cond_notdec rfl (fun h => ?_) (fun h => ?_)
    | refine AW_cond_dec rfl (fun h => ?_) (fun h => ?_)
    | refine AW_cond_not rfl (fun h => ?_) (fun h => ?_)
    | refine AW_cond rfl (fun h => ?_) (fun h => ?_)
    | (refine APg_split_notdec (fun h => ?_) (fun h => ?_) <;> (simp [h, HG, A.cells, hp, hq, hx, hy, wrap_i64]; try (simp (disch := omega) only [wrap_i64]; try simp [HG, A.cells, hp, hq, hx, hy, wrap_i64])))
    | (refine APg_split_dec (fun h => ?_) (fun h => ?_) <;> (simp [h, HG, A.cells, hp, hq, hx, hy, wrap_i64]; try (simp (disch := omega) only [wrap_i64]; try simp [HG, A.cells, hp, hq, hx, hy, wrap_i64])))
    | (refine APg_split_not (fun h => ?_) (fun h => ?_) <;> (simp [h, HG, A.cells, hp, hq, hx, hy, wrap_i64]; try (simp (disch := omega) only [wrap_i64]; try simp [HG, A.cells, hp, hq, hx, hy, wrap_i64])))
    | (refine APg_split (fun h => ?_) (fun h => ?_) <;> (simp [h, HG, A.cells, hp, hq, hx, hy, wrap_i64]; try (simp (disch := omega) only [wrap_i64]; try simp [HG, A.cells, hp, hq, hx, hy, wrap_i64])))
    | (refine AW_region_APx (id := 2) 15 mixed (by decide) ?_; simp [HG, A.cells, hp, hq, hx, hy, wrap_i64]; try (simp (disch := omega) only [wrap_i64]; try simp [HG, A.cells, hp, hq, hx, hy, wrap_i64]))
    | (apply hK; clear hK K)
    | (refine AWh (by assumption) ?_))
  refine retg1 (h' := HG (stepG t ⟨p, q, am⟩).1 ++ e) ⟨by simp [stepG, hx, hy, hp, hq], rfl⟩ rfl ?_
  have := Leaves.tail (a := HG t) (a' := HG (stepG t ⟨p, q, am⟩).1) (e := e) (x := [B.var [V.int IntKind.i64 ↑p, V.int IntKind.i64 ↑q, V.int IntKind.i64 am]]) (by simp [HG]) (by simp [HG])
  simpa [HG, stepG, hx, hy, hp, hq] using this

theorem stepG_inv (n : Nat) (t : List Int) (a : A) (ht : t.length = n) (hr : ∀ x ∈ t, -1 ≤ x ∧ x ≤ 1125899906842624) (ha : arcIn n a) :
    (stepG t a).1.length = n ∧ ∀ x ∈ (stepG t a).1, -1 ≤ x ∧ x ≤ 1125899906842624 := by
  obtain ⟨ai, aj, am⟩ := a
  obtain ⟨g1, g2, g3, g4, g5, g6⟩ := ha
  simp only at g1 g2 g3 g4 g5 g6
  obtain ⟨p, rfl⟩ := Int.eq_ofNat_of_zero_le g1
  obtain ⟨q, rfl⟩ := Int.eq_ofNat_of_zero_le g3
  have hp : p < t.length := by omega
  have hq : q < t.length := by omega
  have rp := hr _ (List.getElem_mem hp)
  refine ⟨by simp [stepG, ht], fun z hz => ?_⟩
  simp only [stepG] at hz
  rcases List.mem_or_eq_of_mem_set hz with h | h
  · exact hr z h
  · simp [hp, hq] at h
    rw [h]
    split <;> split <;> omega
end Go.Proofs.Ytgmlimipejcpgaa
