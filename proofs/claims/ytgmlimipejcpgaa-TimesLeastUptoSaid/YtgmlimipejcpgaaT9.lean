/-
  YtgmlimipejcpgaaT9: a step of the proof of a law of the program: what this text proves holds under the hypotheses that its theorems name, and no others.
-/
import Derived.Test.YtgmlimipejcpgaaTD
set_option linter.unusedVariables false
set_option linter.unusedSimpArgs false
namespace Go.Proofs.Ytgmlimipejcpgaa
open Go Go.AM Fx

def rightD (n : Int) (d : D) : Bool := decide (0 ≤ d.i) && decide (d.i < n) && decide (0 ≤ d.j) && decide (d.j < n) && rightB d.b
/-- What is wrong with a system. -/
def wrongE (n : Int) (l : List D) : Int := if n < 1 ∨ 4100 < n then 2 else if l.all (rightD n) then 0 else 7

set_option maxHeartbeats 2000000 in
theorem c_wrong (n : Int) (l : List D) (hl : big l.length) : PC 14 [.int .i64 n, dv l] (.int .i64 (wrongE n l)) := by
  unfold big at hl
  refine PCall_body Try.func14 rfl (by decide) Try.ntmps14 (by simp) Try.results14 ?_
  by_cases hn : n < 1 ∨ 4100 < n
  · repeat' (first
    | refine AW_seq_k fun K hK => ?_
    | refine AW_block ?_
    | refine AW_skip ?_
    | refine AW_exit ?_
    | refine AW_ret ?_
    | refine SThen_normal ?_
    | refine SThen_ret ?_
    | refine SThen_exit ?_
    | refine SBlock_normal ?_
    | refine SBlock_ret ?_
    | refine SBlock_exit ?_
    | refine SBlock_exit_ne (by decide) ?_
    | (refine AW_region_AO ?_; simp)
    | (refine AOg_split_notdec (fun h => ?_) (fun h => ?_) <;> (simp [h]))
    | (refine AOg_split_dec (fun h => ?_) (fun h => ?_) <;> (simp [h]))
    | (refine AOg_split_not (fun h => ?_) (fun h => ?_) <;> (simp [h]))
    | (refine AOg_split (fun h => ?_) (fun h => ?_) <;> (simp [h]))
    | refine AW_cond_t rfl ?_
    | refine AW_cond_f rfl ?_
    | refine AW_cond_notdec rfl (fun h => ?_) (fun h => ?_)
    | refine AW_cond_dec rfl (fun h => ?_) (fun h => ?_)
    | refine AW_cond_not rfl (fun h => ?_) (fun h => ?_)
    | refine AW_cond rfl (fun h => ?_) (fun h => ?_)
    | (refine APg_split_notdec (fun h => ?_) (fun h => ?_) <;> (simp [h]))
    | (refine APg_split_dec (fun h => ?_) (fun h => ?_) <;> (simp [h]))
    | (refine APg_split_not (fun h => ?_) (fun h => ?_) <;> (simp [h]))
    | (refine APg_split (fun h => ?_) (fun h => ?_) <;> (simp [h]))
    | (apply hK; clear hK K)
    | (refine AWh (by assumption) ?_))
    all_goals (first | exact retq1 (conv_eq (by simp [wrongE, hn]) rfl) | (exfalso; omega))
  have hn1 : ¬ n < 1 := by omega
  have hn2 : ¬ 4100 < n := by omega
  repeat' (first
    | refine AW_seq_k fun K hK => ?_
    | refine AW_block ?_
    | refine AW_skip ?_
    | refine AW_exit ?_
    | refine AW_ret ?_
    | refine SThen_normal ?_
    | refine SThen_ret ?_
    | refine SThen_exit ?_
    | refine SBlock_normal ?_
    | refine SBlock_ret ?_
    | refine SBlock_exit ?_
    | refine SBlock_exit_ne (by decide) ?_
    | (refine AW_region_AO ?_; simp [dv, hn1, hn2])
    | (refine AOg_split_notdec (fun h => ?_) (fun h => ?_) <;> (simp [h, dv, hn1, hn2]))
    | (refine AOg_split_dec (fun h => ?_) (fun h => ?_) <;> (simp [h, dv, hn1, hn2]))
    | (refine AOg_split_not (fun h => ?_) (fun h => ?_) <;> (simp [h, dv, hn1, hn2]))
    | (refine AOg_split (fun h => ?_) (fun h => ?_) <;> (simp [h, dv, hn1, hn2]))
    | refine AW_cond_t rfl ?_
    | refine AW_cond_f rfl ?_
    | refine AW_cond_notdec rfl (fun h => ?_) (fun h => ?_)
    | refine AW_cond_dec rfl (fun h => ?_) (fun h => ?_)
    | refine AW_cond_not rfl (fun h => ?_) (fun h => ?_)
    | refine AW_cond rfl (fun h => ?_) (fun h => ?_)
    | (refine APg_split_notdec (fun h => ?_) (fun h => ?_) <;> (simp [h, dv, hn1, hn2]))
    | (refine APg_split_dec (fun h => ?_) (fun h => ?_) <;> (simp [h, dv, hn1, hn2]))
    | (refine APg_split_not (fun h => ?_) (fun h => ?_) <;> (simp [h, dv, hn1, hn2]))
    | (refine APg_split (fun h => ?_) (fun h => ?_) <;> (simp [h, dv, hn1, hn2]))
    | (apply hK; clear hK K)
    | (refine AWh (by assumption) ?_))
  refine AW_loop (fun i : Nat => (⟨46, [(15, .int .i64 i), (14, .int .i64 l.length), (13, dv l), (0, .int .i64 n)], []⟩ : St)) (fun i => i ≤ l.length ∧ Pre l (fun x => rightD n x = true) i) (fun i => l.length - i) (x0 := 0) ?_ ?_ ?_ ?_
  · simp [Pre.zero]
  · constructor <;> simp [dv]
  · simp
  · intro i hi
    by_cases hlt : i < l.length
    · obtain ⟨x, hx⟩ : ∃ x, l[i] = x := ⟨_, rfl⟩
      have hx' : l[i]? = some x := by rw [List.getElem?_eq_getElem hlt, hx]
      have bad : rightD n x = false → wrongE n l = 7 := fun h => by unfold wrongE; rw [if_neg hn, all_idx_f i x hx' h]; rfl
      obtain ⟨di, dj, db⟩ := x
      repeat' (first
    | refine AW_seq_k fun K hK => ?_
    | refine AW_block ?_
    | refine AW_skip ?_
    | refine AW_exit ?_
    | refine AW_ret ?_
    | refine SThen_normal ?_
    | refine SThen_ret ?_
    | refine SThen_exit ?_
    | refine SBlock_normal ?_
    | refine SBlock_ret ?_
    | refine SBlock_exit ?_
    | refine SBlock_exit_ne (by decide) ?_
    | (refine AW_region_AO ?_; simp [dv, D.cells, hlt, hx, wrap_i64]; try (simp (disch := omega) only [wrap_i64]; try simp [dv, D.cells, hlt, hx, wrap_i64]))
    | (refine AOg_split_notdec (fun h => ?_) (fun h => ?_) <;> (simp [h, dv, D.cells, hlt, hx, wrap_i64]; try (simp (disch := omega) only [wrap_i64]; try simp [dv, D.cells, hlt, hx, wrap_i64])))
    | (refine AOg_split_dec (fun h => ?_) (fun h => ?_) <;> (simp [h, dv, D.cells, hlt, hx, wrap_i64]; try (simp (disch := omega) only [wrap_i64]; try simp [dv, D.cells, hlt, hx, wrap_i64])))
    | (refine AOg_split_not (fun h => ?_) (fun h => ?_) <;> (simp [h, dv, D.cells, hlt, hx, wrap_i64]; try (simp (disch := omega) only [wrap_i64]; try simp [dv, D.cells, hlt, hx, wrap_i64])))
    | (refine AOg_split (fun h => ?_) (fun h => ?_) <;> (simp [h, dv, D.cells, hlt, hx, wrap_i64]; try (simp (disch := omega) only [wrap_i64]; try simp [dv, D.cells, hlt, hx, wrap_i64])))
    | refine AW_cond_t rfl ?_
    | refine AW_cond_f rfl ?_
    | refine AW_cond_notdec rfl (fun h => ?_) (fun h => ?_)
    | refine AW_cond_dec rfl (fun h => ?_) (fun h => ?_)
    | refine AW_cond_not rfl (fun h => ?_) (fun h => ?_)
    | refine AW_cond rfl (fun h => ?_) (fun h => ?_)
    | (refine APg_split_notdec (fun h => ?_) (fun h => ?_) <;> (simp [h, dv, D.cells, hlt, hx, wrap_i64]; try (simp (disch := omega) only [wrap_i64]; try simp [dv, D.cells, hlt, hx, wrap_i64])))
    | (refine APg_split_dec (fun h => ?_) (fun h => ?_) <;> (simp [h, dv, D.cells, hlt, hx, wrap_i64]; try (simp (disch := omega) only [wrap_i64]; try simp [dv, D.cells, hlt, hx, wrap_i64])))
    | (refine APg_split_not (fun h => ?_) (fun h => ?_) <;> (simp [h, dv, D.cells, hlt, hx, wrap_i64]; try (simp (disch := omega) only [wrap_i64]; try simp [dv, D.cells, hlt, hx, wrap_i64])))
    | (refine APg_split (fun h => ?_) (fun h => ?_) <;> (simp [h, dv, D.cells, hlt, hx, wrap_i64]; try (simp (disch := omega) only [wrap_i64]; try simp [dv, D.cells, hlt, hx, wrap_i64])))
    | (refine AS_call1 (f := 25) rfl rfl (c_right _) rfl rfl rfl ?_; simp [dv, D.cells, hlt, hx, wrap_i64]; try (simp (disch := omega) only [wrap_i64]; try simp [dv, D.cells, hlt, hx, wrap_i64]))
    | (apply hK; clear hK K)
    | (refine AWh (by assumption) ?_))
      all_goals first
        | exact retq1 (conv_eq (by simp; exact (bad (by simp [rightD]; intros; first | assumption | (exfalso; omega))).symm) rfl)
        | (refine ⟨i + 1, ⟨by omega, hi.2.succ hx' (by simp only [rightD, Bool.and_eq_true, decide_eq_true_eq]; exact ⟨by omega, by assumption⟩)⟩, by omega, ?_⟩
           constructor <;> simp [dv])
    · have hall : l.all (rightD n) = true := hi.2.all (by omega)
      repeat' (first
    | refine AW_seq_k fun K hK => ?_
    | refine AW_block ?_
    | refine AW_skip ?_
    | refine AW_exit ?_
    | refine AW_ret ?_
    | refine SThen_normal ?_
    | refine SThen_ret ?_
    | refine SThen_exit ?_
    | refine SBlock_normal ?_
    | refine SBlock_ret ?_
    | refine SBlock_exit ?_
    | refine SBlock_exit_ne (by decide) ?_
    | (refine AW_region_AO ?_; simp [dv, hlt])
    | (refine AOg_split_notdec (fun h => ?_) (fun h => ?_) <;> (simp [h, dv, hlt]))
    | (refine AOg_split_dec (fun h => ?_) (fun h => ?_) <;> (simp [h, dv, hlt]))
    | (refine AOg_split_not (fun h => ?_) (fun h => ?_) <;> (simp [h, dv, hlt]))
    | (refine AOg_split (fun h => ?_) (fun h => ?_) <;> (simp [h, dv, hlt]))
    | refine AW_cond_t rfl ?_
    | refine AW_cond_f rfl ?_
    | refine AW_cond_notdec rfl (fun h => ?_) (fun h => ?_)
    | refine AW_cond_dec rfl (fun h => ?_) (fun h => ?_)
    | refine AW_cond_not rfl (fun h => ?_) (fun h => ?_)
    | refine AW_cond rfl (fun h => ?_) (fun h => ?_)
    | (refine APg_split_notdec (fun h => ?_) (fun h => ?_) <;> (simp [h, dv, hlt]))
    | (refine APg_split_dec (fun h => ?_) (fun h => ?_) <;> (simp [h, dv, hlt]))
    | (refine APg_split_not (fun h => ?_) (fun h => ?_) <;> (simp [h, dv, hlt]))
    | (refine APg_split (fun h => ?_) (fun h => ?_) <;> (simp [h, dv, hlt]))
    | (apply hK; clear hK K)
    | (refine AWh (by assumption) ?_))
      exact retq1 (conv_eq (by simp [wrongE, hn, hall]) rfl)

theorem c_index (l : List Int) (v : Int) (hl : big l.length) : ∃ k : Int, PC 26 [iv l, .int .i64 v] (.int .i64 k) ∧ (0 ≤ k ↔ v ∈ l) := by
  unfold big at hl
  refine ⟨if v ∈ l then (l.idxOf v : Int) else -1, ?_, by split <;> simp_all⟩
  refine PCall_body Try.func26 rfl (by decide) Try.ntmps26 (by simp) Try.results26 ?_
  repeat' (first
    | refine AW_seq_k fun K hK => ?_
    | refine AW_block ?_
    | refine AW_skip ?_
    | refine AW_exit ?_
    | refine AW_ret ?_
    | refine SThen_normal ?_
    | refine SThen_ret ?_
    | refine SThen_exit ?_
    | refine SBlock_normal ?_
    | refine SBlock_ret ?_
    | refine SBlock_exit ?_
    | refine SBlock_exit_ne (by decide) ?_
    | (refine AW_region_AO ?_; simp [iv])
    | (refine AOg_split_notdec (fun h => ?_) (fun h => ?_) <;> (simp [h, iv]))
    | (refine AOg_split_dec (fun h => ?_) (fun h => ?_) <;> (simp [h, iv]))
    | (refine AOg_split_not (fun h => ?_) (fun h => ?_) <;> (simp [h, iv]))
    | (refine AOg_split (fun h => ?_) (fun h => ?_) <;> (simp [h, iv]))
    | refine AW_cond_t rfl ?_
    | refine AW_cond_f rfl ?_
    | refine AW_cond_notdec rfl (fun h => ?_) (fun h => ?_)
    | refine AW_cond_dec rfl (fun h => ?_) (fun h => ?_)
    | refine AW_cond_not rfl (fun h => ?_) (fun h => ?_)
    | refine AW_cond rfl (fun h => ?_) (fun h => ?_)
    | (refine APg_split_notdec (fun h => ?_) (fun h => ?_) <;> (simp [h, iv]))
    | (refine APg_split_dec (fun h => ?_) (fun h => ?_) <;> (simp [h, iv]))
    | (refine APg_split_not (fun h => ?_) (fun h => ?_) <;> (simp [h, iv]))
    | (refine APg_split (fun h => ?_) (fun h => ?_) <;> (simp [h, iv]))
    | (apply hK; clear hK K)
    | (refine AWh (by assumption) ?_))
  refine AW_loop (fun i : Nat => (⟨19, [(8, .int .i64 i), (7, .int .i64 l.length), (0, iv l), (1, .int .i64 v)], []⟩ : St)) (fun i => i ≤ l.length ∧ Pre l (fun x => x ≠ v) i) (fun i => l.length - i) (x0 := 0) ?_ ?_ ?_ ?_
  · simp [Pre.zero]
  · constructor <;> simp [iv]
  · simp
  · intro i hi
    by_cases hlt : i < l.length
    · obtain ⟨x, hx⟩ : ∃ x, l[i] = x := ⟨_, rfl⟩
      have hx' : l[i]? = some x := by rw [List.getElem?_eq_getElem hlt, hx]
      repeat' (first
    | refine AW_seq_k fun K hK => ?_
    | refine AW_block ?_
    | refine AW_skip ?_
    | refine AW_exit ?_
    | refine AW_ret ?_
    | refine SThen_normal ?_
    | refine SThen_ret ?_
    | refine SThen_exit ?_
    | refine SBlock_normal ?_
    | refine SBlock_ret ?_
    | refine SBlock_exit ?_
    | refine SBlock_exit_ne (by decide) ?_
    | (refine AW_region_AO ?_; simp [iv, hlt, hx, wrap_i64]; try (simp (disch := omega) only [wrap_i64]; try simp [iv, hlt, hx, wrap_i64]))
    | (refine AOg_split_notdec (fun h => ?_) (fun h => ?_) <;> (simp [h, iv, hlt, hx, wrap_i64]; try (simp (disch := omega) only [wrap_i64]; try simp [iv, hlt, hx, wrap_i64])))
    | (refine AOg_split_dec (fun h => ?_) (fun h => ?_) <;> (simp [h, iv, hlt, hx, wrap_i64]; try (simp (disch := omega) only [wrap_i64]; try simp [iv, hlt, hx, wrap_i64])))
    | (refine AOg_split_not (fun h => ?_) (fun h => ?_) <;> (simp [h, iv, hlt, hx, wrap_i64]; try (simp (disch := omega) only [wrap_i64]; try simp [iv, hlt, hx, wrap_i64])))
    | (refine AOg_split (fun h => ?_) (fun h => ?_) <;> (simp [h, iv, hlt, hx, wrap_i64]; try (simp (disch := omega) only [wrap_i64]; try simp [iv, hlt, hx, wrap_i64])))
    | refine AW_cond_t rfl ?_
    | refine AW_cond_f rfl ?_
    | refine AW_cond_notdec rfl (fun h => ?_) (fun h => ?_)
    | refine AW_cond_dec rfl (fun h => ?_) (fun h => ?_)
    | refine AW_cond_not rfl (fun h => ?_) (fun h => ?_)
    | refine AW_cond rfl (fun h => ?_) (fun h => ?_)
    | (refine APg_split_notdec (fun h => ?_) (fun h => ?_) <;> (simp [h, iv, hlt, hx, wrap_i64]; try (simp (disch := omega) only [wrap_i64]; try simp [iv, hlt, hx, wrap_i64])))
    | (refine APg_split_dec (fun h => ?_) (fun h => ?_) <;> (simp [h, iv, hlt, hx, wrap_i64]; try (simp (disch := omega) only [wrap_i64]; try simp [iv, hlt, hx, wrap_i64])))
    | (refine APg_split_not (fun h => ?_) (fun h => ?_) <;> (simp [h, iv, hlt, hx, wrap_i64]; try (simp (disch := omega) only [wrap_i64]; try simp [iv, hlt, hx, wrap_i64])))
    | (refine APg_split (fun h => ?_) (fun h => ?_) <;> (simp [h, iv, hlt, hx, wrap_i64]; try (simp (disch := omega) only [wrap_i64]; try simp [iv, hlt, hx, wrap_i64])))
    | (apply hK; clear hK K)
    | (refine AWh (by assumption) ?_))
      · have hv : v ∈ l := by rw [h]; exact List.mem_of_getElem? hx'
        have hi' : l.idxOf v = i := by
          have h1 : l.idxOf v ≤ i := by
            rcases Nat.lt_or_ge i (l.idxOf v) with h2 | h2
            · exfalso
              have := List.not_of_lt_findIdx (p := (· == v)) (xs := l) (i := i) h2
              simp [hx, h] at this
            · exact h2
          rcases Nat.lt_or_ge (l.idxOf v) i with h2 | h2
          · exact absurd (by simp) (hi.2 (l.idxOf v) v h2 (by rw [List.getElem?_eq_getElem (List.idxOf_lt_length_of_mem hv)]; simp))
          · omega
        exact retq1 (conv_eq (by simp [hv, hi']) rfl)
      · refine ⟨i + 1, ⟨by omega, hi.2.succ hx' (fun h' => h h'.symm)⟩, by omega, ?_⟩
        constructor <;> simp [iv]
    · have hv : v ∉ l := fun hm => by
        obtain ⟨j, hj⟩ := List.getElem?_of_mem hm
        have := (List.getElem?_eq_some_iff.1 hj).1
        exact hi.2 j v (by omega) hj rfl
      repeat' (first
    | refine AW_seq_k fun K hK => ?_
    | refine AW_block ?_
    | refine AW_skip ?_
    | refine AW_exit ?_
    | refine AW_ret ?_
    | refine SThen_normal ?_
    | refine SThen_ret ?_
    | refine SThen_exit ?_
    | refine SBlock_normal ?_
    | refine SBlock_ret ?_
    | refine SBlock_exit ?_
    | refine SBlock_exit_ne (by decide) ?_
    | (refine AW_region_AO ?_; simp [iv, hlt])
    | (refine AOg_split_notdec (fun h => ?_) (fun h => ?_) <;> (simp [h, iv, hlt]))
    | (refine AOg_split_dec (fun h => ?_) (fun h => ?_) <;> (simp [h, iv, hlt]))
    | (refine AOg_split_not (fun h => ?_) (fun h => ?_) <;> (simp [h, iv, hlt]))
    | (refine AOg_split (fun h => ?_) (fun h => ?_) <;> (simp [h, iv, hlt]))
    | refine AW_cond_t rfl ?_
    | refine AW_cond_f rfl ?_
    | refine AW_cond_notdec rfl (fun h => ?_) (fun h => ?_)
    | refine AW_cond_dec rfl (fun h => ?_) (fun h => ?_)
    | refine AW_cond_not rfl (fun h => ?_) (fun h => ?_)
    | refine AW_cond rfl (fun h => ?_) (fun h => ?_)
    | (refine APg_split_notdec (fun h => ?_) (fun h => ?_) <;> (simp [h, iv, hlt]))
    | (refine APg_split_dec (fun h => ?_) (fun h => ?_) <;> (simp [h, iv, hlt]))
    | (refine APg_split_not (fun h => ?_) (fun h => ?_) <;> (simp [h, iv, hlt]))
    | (refine APg_split (fun h => ?_) (fun h => ?_) <;> (simp [h, iv, hlt]))
    | (apply hK; clear hK K)
    | (refine AWh (by assumption) ?_))
      exact retq1 (conv_eq (by simp [hv]) rfl)

theorem c_contains (l : List Int) (v : Int) (hl : big l.length) : PC 18 [iv l, .int .i64 v] (.bool (decide (v ∈ l))) := by
  obtain ⟨k, hk, hk'⟩ := c_index l v hl
  refine PCall_body Try.func18 rfl (by decide) Try.ntmps18 (by simp) Try.results18 ?_
  repeat' (first
    | refine AW_seq_k fun K hK => ?_
    | refine AW_block ?_
    | refine AW_skip ?_
    | refine AW_exit ?_
    | refine AW_ret ?_
    | refine SThen_normal ?_
    | refine SThen_ret ?_
    | refine SThen_exit ?_
    | refine SBlock_normal ?_
    | refine SBlock_ret ?_
    | refine SBlock_exit ?_
    | refine SBlock_exit_ne (by decide) ?_
    | (refine AW_region_AO ?_; simp)
    | (refine AOg_split_notdec (fun h => ?_) (fun h => ?_) <;> (simp [h]))
    | (refine AOg_split_dec (fun h => ?_) (fun h => ?_) <;> (simp [h]))
    | (refine AOg_split_not (fun h => ?_) (fun h => ?_) <;> (simp [h]))
    | (refine AOg_split (fun h => ?_) (fun h => ?_) <;> (simp [h]))
    | refine AW_cond_t rfl ?_
    | refine AW_cond_f rfl ?_
    | refine AW_cond_notdec rfl (fun h => ?_) (fun h => ?_)
    | refine AW_cond_dec rfl (fun h => ?_) (fun h => ?_)
    | refine AW_cond_not rfl (fun h => ?_) (fun h => ?_)
    | refine AW_cond rfl (fun h => ?_) (fun h => ?_)
    | (refine APg_split_notdec (fun h => ?_) (fun h => ?_) <;> (simp [h]))
    | (refine APg_split_dec (fun h => ?_) (fun h => ?_) <;> (simp [h]))
    | (refine APg_split_not (fun h => ?_) (fun h => ?_) <;> (simp [h]))
    | (refine APg_split (fun h => ?_) (fun h => ?_) <;> (simp [h]))
    | (refine AS_call1 (f := 26) rfl rfl (hk) rfl rfl rfl ?_; simp)
    | (apply hK; clear hK K)
    | (refine AWh (by assumption) ?_))
  exact retq1 (conv_eq (by simp [hk']) rfl)
end Go.Proofs.Ytgmlimipejcpgaa
