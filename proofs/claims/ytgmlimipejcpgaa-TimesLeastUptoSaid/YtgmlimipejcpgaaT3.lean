/-
  YtgmlimipejcpgaaT3: a step of the proof of a law of the program: what this text proves holds under the hypotheses that its theorems name, and no others.
-/
import Derived.Test.YtgmlimipejcpgaaT2
set_option linter.unusedVariables false
set_option linter.unusedSimpArgs false
namespace Go.Proofs.Ytgmlimipejcpgaa
open Go Go.AM Fx

theorem wrap_i64' (n : Int) : IntKind.i64.wrap n = (n + 9223372036854775808) % 18446744073709551616 - 9223372036854775808 := by
  unfold IntKind.wrap; simp [IntKind.bits, IntKind.signed]
  split <;> omega
def I64 (n : Int) : Prop := -9223372036854775808 ≤ n ∧ n ≤ 9223372036854775807

theorem sq_lo {a b n : Int} (h1 : -n ≤ a) (h2 : a ≤ n) (h3 : -n ≤ b) (h4 : b ≤ n) (h0 : 0 ≤ n) : -(n * n) ≤ a * b ∧ a * b ≤ n * n := by
  have key : (a * b).natAbs ≤ (n * n).natAbs := by
    rw [Int.natAbs_mul, Int.natAbs_mul]
    exact Nat.mul_le_mul (by omega) (by omega)
  have := Int.mul_nonneg h0 h0
  omega

theorem prod_mod (a b : Int) : (a % 18446744073709551616) * (b % 18446744073709551616) % 18446744073709551616 = a * b % 18446744073709551616 := (Int.mul_emod a b _).symm

@[simp] def prodV (a b : Int) : V := .tup [.int .i64 (a * b / 18446744073709551616), .int .u64 (a * b % 18446744073709551616)]
theorem c_product (a b : Int) (ha : I64 a) (hb : I64 b) : PC 21 [.int .i64 a, .int .i64 b] (prodV a b) := by
  unfold I64 at ha hb
  refine PCall_body Try.func21 rfl (by decide) Try.ntmps21 (by simp) Try.results21 ?_
  repeat' (first
    | refine AW_seq_k fun K hK => ?_
    | refine AW_block ?_
    | refine AW_skip ?_
    | refine AW_exit ?_
    | refine AW_ret ?_
    | refine SThen_normal ?_
    | refine SThen_ret ?_
    | refine SThen_exit ?_
    | refine SBlock_normal ?_
    | refine SBlock_ret ?_
    | refine SBlock_exit ?_
    | refine SBlock_exit_ne (by decide) ?_
    | (refine AW_region_AO ?_; simp)
    | (refine AOg_split_notdec (fun h => ?_) (fun h => ?_) <;> simp [h])
    | (refine AOg_split_dec (fun h => ?_) (fun h => ?_) <;> simp [h])
    | (refine AOg_split_not (fun h => ?_) (fun h => ?_) <;> simp [h])
    | (refine AOg_split (fun h => ?_) (fun h => ?_) <;> simp [h])
    | refine AW_cond_t rfl ?_
    | refine AW_cond_f rfl ?_
    | refine AW_cond_notdec rfl (fun h => ?_) (fun h => ?_)
    | refine AW_cond_dec rfl (fun h => ?_) (fun h => ?_)
    | refine AW_cond_not rfl (fun h => ?_) (fun h => ?_)
    | refine AW_cond rfl (fun h => ?_) (fun h => ?_)
    | (refine AS_call1 (f := 27) rfl rfl (c_mul64 _ _ ?_ ?_ ?_ ?_) rfl rfl rfl ?_ <;> simp [wrap_u64] <;> (try omega))
    | (apply hK; clear hK K))
  all_goals (refine retq2 (conv_eq ?_ rfl); simp [prodV, wrap_u64, wrap_i64', prod_mod])
  all_goals (have hr := sq_lo (n := 9223372036854775808) (by omega) (by omega) (by omega) (by omega) (by omega) (a := a) (b := b))
  all_goals simp at hr
  · have e1 : a % 18446744073709551616 = a + 18446744073709551616 := by omega
    have e2 : b % 18446744073709551616 = b + 18446744073709551616 := by omega
    rw [e1, e2, Int.add_mul, Int.mul_add]
    omega
  · have e1 : a % 18446744073709551616 = a + 18446744073709551616 := by omega
    have e2 : b % 18446744073709551616 = b := by omega
    rw [e1, e2, Int.add_mul]
    omega
  · have e1 : a % 18446744073709551616 = a := by omega
    have e2 : b % 18446744073709551616 = b + 18446744073709551616 := by omega
    rw [e1, e2, Int.mul_add]
    omega
  · have e1 : a % 18446744073709551616 = a := by omega
    have e2 : b % 18446744073709551616 = b := by omega
    rw [e1, e2]
    omega
def holdsB (b num den : Int) : Bool := decide (1 ≤ den) && (decide (b = 2147483647) || (someB b && decide (if b % 2 = 1 then num ≤ b / 2 * den else num < b / 2 * den)))
theorem c_holds (b num den : Int) (hn : I64 num) (hd : I64 den) : PC 12 [.int .i32 b, .int .i64 num, .int .i64 den] (.bool (holdsB b num den)) := by
  unfold I64 at hn hd
  refine PCall_body Try.func12 rfl (by decide) Try.ntmps12 (by simp) Try.results12 ?_
  by_cases hs : someB b = true
  · have hv : PC 20 [.int .i32 b] (.tup [.int .i64 (b / 2), .bool (decide (b % 2 = 1)), .bool true]) := by have := c_value b; simpa [valueV, hs] using this
    have hb2 : I64 (b / 2) := by simp [someB, rightB] at hs; unfold I64; omega
    have hb3 : b ≠ 2147483647 := by simp [someB, rightB] at hs; omega
    repeat' (first
    | refine AW_seq_k fun K hK => ?_
    | refine AW_block ?_
    | refine AW_skip ?_
    | refine AW_exit ?_
    | refine AW_ret ?_
    | refine SThen_normal ?_
    | refine SThen_ret ?_
    | refine SThen_exit ?_
    | refine SBlock_normal ?_
    | refine SBlock_ret ?_
    | refine SBlock_exit ?_
    | refine SBlock_exit_ne (by decide) ?_
    | (refine AW_region_AO ?_; simp)
    | (refine AOg_split_notdec (fun h => ?_) (fun h => ?_) <;> simp [h])
    | (refine AOg_split_dec (fun h => ?_) (fun h => ?_) <;> simp [h])
    | (refine AOg_split_not (fun h => ?_) (fun h => ?_) <;> simp [h])
    | (refine AOg_split (fun h => ?_) (fun h => ?_) <;> simp [h])
    | refine AW_cond_t rfl ?_
    | refine AW_cond_f rfl ?_
    | refine AW_cond_notdec rfl (fun h => ?_) (fun h => ?_)
    | refine AW_cond_dec rfl (fun h => ?_) (fun h => ?_)
    | refine AW_cond_not rfl (fun h => ?_) (fun h => ?_)
    | refine AW_cond rfl (fun h => ?_) (fun h => ?_)
    | (refine AS_call1 (f := 20) rfl rfl (hv) rfl rfl rfl ?_; simp)
    | (refine AS_call1 (f := 21) rfl rfl (c_product _ _ hb2 hd) rfl rfl rfl ?_; simp)
    | (apply hK; clear hK K))
    all_goals (have hr := sq_lo (n := 9223372036854775808) (by unfold I64 at hb2; omega) (by unfold I64 at hb2; omega) (by omega) (by omega) (by omega) (a := b / 2) (b := den))
    all_goals (refine retq1 (conv_eq ?_ rfl); simp [holdsB, hs, hb3]; simp [wrap_u64] at *)
    all_goals (generalize b / 2 * den = q at *)
    all_goals (by_cases ho : b % 2 = 1 <;> simp [ho])
    all_goals (first | omega | (rw [Bool.eq_iff_iff]; simp; omega))
  · have hv : PC 20 [.int .i32 b] (.tup [.int .i64 0, .bool false, .bool false]) := by have := c_value b; simpa [valueV, hs] using this
    repeat' (first
    | refine AW_seq_k fun K hK => ?_
    | refine AW_block ?_
    | refine AW_skip ?_
    | refine AW_exit ?_
    | refine AW_ret ?_
    | refine SThen_normal ?_
    | refine SThen_ret ?_
    | refine SThen_exit ?_
    | refine SBlock_normal ?_
    | refine SBlock_ret ?_
    | refine SBlock_exit ?_
    | refine SBlock_exit_ne (by decide) ?_
    | (refine AW_region_AO ?_; simp)
    | (refine AOg_split_notdec (fun h => ?_) (fun h => ?_) <;> simp [h])
    | (refine AOg_split_dec (fun h => ?_) (fun h => ?_) <;> simp [h])
    | (refine AOg_split_not (fun h => ?_) (fun h => ?_) <;> simp [h])
    | (refine AOg_split (fun h => ?_) (fun h => ?_) <;> simp [h])
    | refine AW_cond_t rfl ?_
    | refine AW_cond_f rfl ?_
    | refine AW_cond_notdec rfl (fun h => ?_) (fun h => ?_)
    | refine AW_cond_dec rfl (fun h => ?_) (fun h => ?_)
    | refine AW_cond_not rfl (fun h => ?_) (fun h => ?_)
    | refine AW_cond rfl (fun h => ?_) (fun h => ?_)
    | (refine AS_call1 (f := 20) rfl rfl (hv) rfl rfl rfl ?_; simp)
    | (apply hK; clear hK K))
    all_goals (refine retq1 (conv_eq ?_ rfl); simp [holdsB, hs]; omega)
end Go.Proofs.Ytgmlimipejcpgaa
