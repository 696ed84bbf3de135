/-
  YtgmlimipejcpgaaT5: a step of the proof of a law of the program: what this text proves holds under the hypotheses that its theorems name, and no others.
-/
import Derived.Test.YtgmlimipejcpgaaT4
set_option linter.unusedVariables false
set_option linter.unusedSimpArgs false
namespace Go.Proofs.Ytgmlimipejcpgaa
open Go Go.AM Fx
theorem r_holds (b num den : Int) (hb : I32 b) (hn : I64 num) (hd : I64 den) : PC 13 [.int .i32 b, .int .i64 num, .int .i64 den] (.bool (holdsB b num den)) := by
  refine PCall_body Try.func13 rfl (by decide) Try.ntmps13 (by simp) Try.results13 ?_
  by_cases hs : someB b = true
  · have hv : PC 23 [.int .i32 b] (.tup [.int .i64 (b / 2), .bool (decide (b % 2 = 1)), .bool true]) := by have := r_value b hb; simpa [valueV, hs] using this
    have hb2 : I64 (b / 2) := by simp [someB, rightB] at hs; unfold I64; omega
    have hb3 : b ≠ 2147483647 := by simp [someB, rightB] at hs; omega
    have hb4 : rightB b = true := by simp [someB] at hs; exact hs.2
    repeat' (first
    | refine AW_seq_k fun K hK => ?_
    | refine AW_block ?_
    | refine AW_skip ?_
    | refine AW_exit ?_
    | refine AW_ret ?_
    | refine SThen_normal ?_
    | refine SThen_ret ?_
    | refine SThen_exit ?_
    | refine SBlock_normal ?_
    | refine SBlock_ret ?_
    | refine SBlock_exit ?_
    | refine SBlock_exit_ne (by decide) ?_
    | (refine AW_region_AO ?_; simp [hb4])
    | (refine AOg_split_notdec (fun h => ?_) (fun h => ?_) <;> simp [h, hb4])
    | (refine AOg_split_dec (fun h => ?_) (fun h => ?_) <;> simp [h, hb4])
    | (refine AOg_split_not (fun h => ?_) (fun h => ?_) <;> simp [h, hb4])
    | (refine AOg_split (fun h => ?_) (fun h => ?_) <;> simp [h, hb4])
    | refine AW_cond_t rfl ?_
    | refine AW_cond_f rfl ?_
    | refine AW_cond_notdec rfl (fun h => ?_) (fun h => ?_)
    | refine AW_cond_dec rfl (fun h => ?_) (fun h => ?_)
    | refine AW_cond_not rfl (fun h => ?_) (fun h => ?_)
    | refine AW_cond rfl (fun h => ?_) (fun h => ?_)
    | (refine AS_call1 (f := 22) rfl rfl (r_right _ hb) rfl rfl rfl ?_; simp [hb4])
    | (refine AS_call1 (f := 23) rfl rfl (hv) rfl rfl rfl ?_; simp [hb4])
    | (refine AS_call1 (f := 24) rfl rfl (r_less _ _ _ hn hd (by omega) hb2) rfl rfl rfl ?_; simp)
    | (apply hK; clear hK K))
    all_goals (refine retq1 (conv_eq ?_ rfl); simp [holdsB, hs, hb3]; simp [cmpI] at *)
    all_goals (generalize b / 2 * den = q at *; by_cases ho : b % 2 = 1 <;> simp [ho])
    all_goals (try (rw [Bool.eq_iff_iff]; simp))
    all_goals (repeat' split at *) 
    all_goals (first | omega | trace_state)
  · have hv : PC 23 [.int .i32 b] (.tup [.int .i64 0, .bool false, .bool false]) := by have := r_value b hb; simpa [valueV, hs] using this
    repeat' (first
    | refine AW_seq_k fun K hK => ?_
    | refine AW_block ?_
    | refine AW_skip ?_
    | refine AW_exit ?_
    | refine AW_ret ?_
    | refine SThen_normal ?_
    | refine SThen_ret ?_
    | refine SThen_exit ?_
    | refine SBlock_normal ?_
    | refine SBlock_ret ?_
    | refine SBlock_exit ?_
    | refine SBlock_exit_ne (by decide) ?_
    | (refine AW_region_AO ?_; simp)
    | (refine AOg_split_notdec (fun h => ?_) (fun h => ?_) <;> simp [h])
    | (refine AOg_split_dec (fun h => ?_) (fun h => ?_) <;> simp [h])
    | (refine AOg_split_not (fun h => ?_) (fun h => ?_) <;> simp [h])
    | (refine AOg_split (fun h => ?_) (fun h => ?_) <;> simp [h])
    | refine AW_cond_t rfl ?_
    | refine AW_cond_f rfl ?_
    | refine AW_cond_notdec rfl (fun h => ?_) (fun h => ?_)
    | refine AW_cond_dec rfl (fun h => ?_) (fun h => ?_)
    | refine AW_cond_not rfl (fun h => ?_) (fun h => ?_)
    | refine AW_cond rfl (fun h => ?_) (fun h => ?_)
    | (refine AS_call1 (f := 22) rfl rfl (r_right _ hb) rfl rfl rfl ?_; simp)
    | (refine AS_call1 (f := 23) rfl rfl (hv) rfl rfl rfl ?_; simp)
    | (apply hK; clear hK K))
    all_goals (refine retq1 (conv_eq ?_ rfl); simp [holdsB, hs]; simp_all [someB, rightB])
    all_goals (try omega)
end Go.Proofs.Ytgmlimipejcpgaa
