/-
  YtgmlimipejcpgaaT6: a step of the proof of a law of the program: what this text proves holds under the hypotheses that its theorems name, and no others.
-/
import Derived.Test.YtgmlimipejcpgaaTD
set_option linter.unusedVariables false
set_option linter.unusedSimpArgs false
namespace Go.Proofs.Ytgmlimipejcpgaa
open Go Go.AM Fx
theorem c_sameTimes (xs ys : List Int) (hx : xs.length ≤ 4611686018427387904) (hy : ys.length ≤ 4611686018427387904) : PC 8 [iv xs, iv ys] (.bool (decide (xs = ys))) := by
  refine PCall_body Try.func8 rfl (by decide) Try.ntmps8 (by simp) Try.results8 ?_
  by_cases hl : xs.length = ys.length
  · repeat' (first
    | refine AW_seq_k fun K hK => ?_
    | refine AW_block ?_
    | refine AW_skip ?_
    | refine AW_exit ?_
    | refine AW_ret ?_
    | refine AW_scope ?_
    | refine AW_label ?_
    | refine SScope_normal ?_
    | refine SScope_ret ?_
    | refine SScope_exit ?_
    | refine SThen_normal ?_
    | refine SThen_ret ?_
    | refine SThen_exit ?_
    | refine SBlock_normal ?_
    | refine SBlock_ret ?_
    | refine SBlock_exit ?_
    | refine SBlock_exit_ne (by decide) ?_
    | (refine AW_region_AO ?_; simp [iv, hl])
    | (refine AOg_split_notdec (fun h => ?_) (fun h => ?_) <;> (simp [h, iv, hl]))
    | (refine AOg_split_dec (fun h => ?_) (fun h => ?_) <;> (simp [h, iv, hl]))
    | (refine AOg_split_not (fun h => ?_) (fun h => ?_) <;> (simp [h, iv, hl]))
    | (refine AOg_split (fun h => ?_) (fun h => ?_) <;> (simp [h, iv, hl]))
    | refine AW_cond_t rfl ?_
    | refine AW_cond_f rfl ?_
    | refine AW_cond_notdec rfl (fun h => ?_) (fun h => ?_)
    | refine AW_cond_dec rfl (fun h => ?_) (fun h => ?_)
    | refine AW_cond_not rfl (fun h => ?_) (fun h => ?_)
    | refine AW_cond rfl (fun h => ?_) (fun h => ?_)
    | (refine APg_split_notdec (fun h => ?_) (fun h => ?_) <;> (simp [h, iv, hl]))
    | (refine APg_split_dec (fun h => ?_) (fun h => ?_) <;> (simp [h, iv, hl]))
    | (refine APg_split_not (fun h => ?_) (fun h => ?_) <;> (simp [h, iv, hl]))
    | (refine APg_split (fun h => ?_) (fun h => ?_) <;> (simp [h, iv, hl]))
    | (apply hK; clear hK K)
    | (refine AWh (by assumption) ?_))
    refine AW_loop (fun i : Nat => (⟨26, [(5, .int .i64 i), (4, .bool false), (0, iv xs), (1, iv ys)], []⟩ : St)) (fun i => i ≤ xs.length ∧ ∀ j, j < i → xs[j]? = ys[j]?) (fun i => xs.length - i) (x0 := 0) ?_ ?_ ?_ ?_
    · simp
    · constructor <;> simp [iv, hl]
    · simp
    · intro i hi
      by_cases hlt : i < xs.length
      · have hlt2 : i < ys.length := by omega
        repeat' (first
    | refine AW_seq_k fun K hK => ?_
    | refine AW_block ?_
    | refine AW_skip ?_
    | refine AW_exit ?_
    | refine AW_ret ?_
    | refine AW_scope ?_
    | refine AW_label ?_
    | refine SScope_normal ?_
    | refine SScope_ret ?_
    | refine SScope_exit ?_
    | refine SThen_normal ?_
    | refine SThen_ret ?_
    | refine SThen_exit ?_
    | refine SBlock_normal ?_
    | refine SBlock_ret ?_
    | refine SBlock_exit ?_
    | refine SBlock_exit_ne (by decide) ?_
    | (refine AW_region_AO ?_; simp [iv, hlt, wrap_i64, hlt2]; try (simp (disch := omega) only [wrap_i64]; try simp [iv, hlt, wrap_i64, hlt2]))
    | (refine AOg_split_notdec (fun h => ?_) (fun h => ?_) <;> (simp [h, iv, hlt, wrap_i64, hlt2]; try (simp (disch := omega) only [wrap_i64]; try simp [iv, hlt, wrap_i64, hlt2])))
    | (refine AOg_split_dec (fun h => ?_) (fun h => ?_) <;> (simp [h, iv, hlt, wrap_i64, hlt2]; try (simp (disch := omega) only [wrap_i64]; try simp [iv, hlt, wrap_i64, hlt2])))
    | (refine AOg_split_not (fun h => ?_) (fun h => ?_) <;> (simp [h, iv, hlt, wrap_i64, hlt2]; try (simp (disch := omega) only [wrap_i64]; try simp [iv, hlt, wrap_i64, hlt2])))
    | (refine AOg_split (fun h => ?_) (fun h => ?_) <;> (simp [h, iv, hlt, wrap_i64, hlt2]; try (simp (disch := omega) only [wrap_i64]; try simp [iv, hlt, wrap_i64, hlt2])))
    | refine AW_cond_t rfl ?_
    | refine AW_cond_f rfl ?_
    | refine AW_cond_notdec rfl (fun h => ?_) (fun h => ?_)
    | refine AW_cond_dec rfl (fun h => ?_) (fun h => ?_)
    | refine AW_cond_not rfl (fun h => ?_) (fun h => ?_)
    | refine AW_cond rfl (fun h => ?_) (fun h => ?_)
    | (refine APg_split_notdec (fun h => ?_) (fun h => ?_) <;> (simp [h, iv, hlt, wrap_i64, hlt2]; try (simp (disch := omega) only [wrap_i64]; try simp [iv, hlt, wrap_i64, hlt2])))
    | (refine APg_split_dec (fun h => ?_) (fun h => ?_) <;> (simp [h, iv, hlt, wrap_i64, hlt2]; try (simp (disch := omega) only [wrap_i64]; try simp [iv, hlt, wrap_i64, hlt2])))
    | (refine APg_split_not (fun h => ?_) (fun h => ?_) <;> (simp [h, iv, hlt, wrap_i64, hlt2]; try (simp (disch := omega) only [wrap_i64]; try simp [iv, hlt, wrap_i64, hlt2])))
    | (refine APg_split (fun h => ?_) (fun h => ?_) <;> (simp [h, iv, hlt, wrap_i64, hlt2]; try (simp (disch := omega) only [wrap_i64]; try simp [iv, hlt, wrap_i64, hlt2])))
    | (refine AW_region_APx (id := 6) 9 mixed (by decide) ?_; simp [iv, hlt, wrap_i64, hlt2]; try (simp (disch := omega) only [wrap_i64]; try simp [iv, hlt, wrap_i64, hlt2]))
    | (apply hK; clear hK K)
    | (refine AWh (by assumption) ?_))
        · refine retq1 (conv_eq ?_ rfl)
          simp; intro he; subst he; exact h rfl
        · skip
          refine ⟨i + 1, ⟨by omega, fun j hj => ?_⟩, by omega, ?_⟩
          · rcases Nat.lt_or_ge j i with h1 | h1
            · exact hi.2 j h1
            · have : j = i := by omega
              subst this
              rw [List.getElem?_eq_getElem hlt, List.getElem?_eq_getElem hlt2, h]
          · constructor <;> simp
      · have hlt2 : ¬ i < ys.length := by omega
        repeat' (first
    | refine AW_seq_k fun K hK => ?_
    | refine AW_block ?_
    | refine AW_skip ?_
    | refine AW_exit ?_
    | refine AW_ret ?_
    | refine AW_scope ?_
    | refine AW_label ?_
    | refine SScope_normal ?_
    | refine SScope_ret ?_
    | refine SScope_exit ?_
    | refine SThen_normal ?_
    | refine SThen_ret ?_
    | refine SThen_exit ?_
    | refine SBlock_normal ?_
    | refine SBlock_ret ?_
    | refine SBlock_exit ?_
    | refine SBlock_exit_ne (by decide) ?_
    | (refine AW_region_AO ?_; simp [iv, hlt, hlt2])
    | (refine AOg_split_notdec (fun h => ?_) (fun h => ?_) <;> (simp [h, iv, hlt, hlt2]))
    | (refine AOg_split_dec (fun h => ?_) (fun h => ?_) <;> (simp [h, iv, hlt, hlt2]))
    | (refine AOg_split_not (fun h => ?_) (fun h => ?_) <;> (simp [h, iv, hlt, hlt2]))
    | (refine AOg_split (fun h => ?_) (fun h => ?_) <;> (simp [h, iv, hlt, hlt2]))
    | refine AW_cond_t rfl ?_
    | refine AW_cond_f rfl ?_
    | refine AW_cond_notdec rfl (fun h => ?_) (fun h => ?_)
    | refine AW_cond_dec rfl (fun h => ?_) (fun h => ?_)
    | refine AW_cond_not rfl (fun h => ?_) (fun h => ?_)
    | refine AW_cond rfl (fun h => ?_) (fun h => ?_)
    | (refine APg_split_notdec (fun h => ?_) (fun h => ?_) <;> (simp [h, iv, hlt, hlt2]))
    | (refine APg_split_dec (fun h => ?_) (fun h => ?_) <;> (simp [h, iv, hlt, hlt2]))
    | (refine APg_split_not (fun h => ?_) (fun h => ?_) <;> (simp [h, iv, hlt, hlt2]))
    | (refine APg_split (fun h => ?_) (fun h => ?_) <;> (simp [h, iv, hlt, hlt2]))
    | (apply hK; clear hK K)
    | (refine AWh (by assumption) ?_))
        refine retq1 (conv_eq ?_ rfl)
        simp
        refine List.ext_getElem? fun j => ?_
        rcases Nat.lt_or_ge j i with h1 | h1
        · exact hi.2 j h1
        · rw [List.getElem?_eq_none (by omega), List.getElem?_eq_none (by omega)]
  · have hl' : ¬ (xs.length : Int) = ys.length := by omega
    repeat' (first
    | refine AW_seq_k fun K hK => ?_
    | refine AW_block ?_
    | refine AW_skip ?_
    | refine AW_exit ?_
    | refine AW_ret ?_
    | refine AW_scope ?_
    | refine AW_label ?_
    | refine SScope_normal ?_
    | refine SScope_ret ?_
    | refine SScope_exit ?_
    | refine SThen_normal ?_
    | refine SThen_ret ?_
    | refine SThen_exit ?_
    | refine SBlock_normal ?_
    | refine SBlock_ret ?_
    | refine SBlock_exit ?_
    | refine SBlock_exit_ne (by decide) ?_
    | (refine AW_region_AO ?_; simp [iv, hl, hl'])
    | (refine AOg_split_notdec (fun h => ?_) (fun h => ?_) <;> (simp [h, iv, hl, hl']))
    | (refine AOg_split_dec (fun h => ?_) (fun h => ?_) <;> (simp [h, iv, hl, hl']))
    | (refine AOg_split_not (fun h => ?_) (fun h => ?_) <;> (simp [h, iv, hl, hl']))
    | (refine AOg_split (fun h => ?_) (fun h => ?_) <;> (simp [h, iv, hl, hl']))
    | refine AW_cond_t rfl ?_
    | refine AW_cond_f rfl ?_
    | refine AW_cond_notdec rfl (fun h => ?_) (fun h => ?_)
    | refine AW_cond_dec rfl (fun h => ?_) (fun h => ?_)
    | refine AW_cond_not rfl (fun h => ?_) (fun h => ?_)
    | refine AW_cond rfl (fun h => ?_) (fun h => ?_)
    | (refine APg_split_notdec (fun h => ?_) (fun h => ?_) <;> (simp [h, iv, hl, hl']))
    | (refine APg_split_dec (fun h => ?_) (fun h => ?_) <;> (simp [h, iv, hl, hl']))
    | (refine APg_split_not (fun h => ?_) (fun h => ?_) <;> (simp [h, iv, hl, hl']))
    | (refine APg_split (fun h => ?_) (fun h => ?_) <;> (simp [h, iv, hl, hl']))
    | (apply hK; clear hK K)
    | (refine AWh (by assumption) ?_))
    all_goals (refine retq1 (conv_eq ?_ rfl); simp)
    all_goals (intro h; exact hl (by rw [h]))
end Go.Proofs.Ytgmlimipejcpgaa
