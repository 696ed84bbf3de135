/-
  YtgmlimipejcpgaaT4: a step of the proof of a law of the program: what this text proves holds under the hypotheses that its theorems name, and no others.
-/
import Derived.Test.YtgmlimipejcpgaaT3
set_option linter.unusedVariables false
set_option linter.unusedSimpArgs false
namespace Go.Proofs.Ytgmlimipejcpgaa
open Go Go.AM Fx
def I32 (n : Int) : Prop := -2147483648 ≤ n ∧ n ≤ 2147483647

theorem tdiv_two (n : Int) : n.tdiv 2 = n / 2 + if 0 ≤ n ∨ n % 2 = 0 then 0 else 1 := by
  rw [Int.tdiv_eq_ediv]
  have : (2 ∣ n) ↔ n % 2 = 0 := by omega
  simp only [this]; rfl
theorem tmod_two (n : Int) : n.tmod 2 = n % 2 - if 0 ≤ n ∨ n % 2 = 0 then 0 else 2 := by
  rw [Int.tmod_eq_emod]
  have : (2 ∣ n) ↔ n % 2 = 0 := by omega
  simp only [this]; split <;> rfl

theorem r_number (b : Int) (hb : I32 b) : PC 28 [.int .i32 b] (.int .i64 (b / 2)) := by
  unfold I32 at hb
  have w1 : IntKind.i64.wrap b = b := wrap_i64 (by omega) (by omega)
  refine PCall_body Try.func28 rfl (by decide) Try.ntmps28 (by simp) Try.results28 ?_
  repeat' (first
    | refine AW_seq_k fun K hK => ?_
    | refine AW_block ?_
    | refine AW_skip ?_
    | refine AW_exit ?_
    | refine AW_ret ?_
    | refine SThen_normal ?_
    | refine SThen_ret ?_
    | refine SThen_exit ?_
    | refine SBlock_normal ?_
    | refine SBlock_ret ?_
    | refine SBlock_exit ?_
    | refine SBlock_exit_ne (by decide) ?_
    | (refine AW_region_AO ?_; simp [w1])
    | (refine AOg_split_notdec (fun h => ?_) (fun h => ?_) <;> simp [h, w1])
    | (refine AOg_split_dec (fun h => ?_) (fun h => ?_) <;> simp [h, w1])
    | (refine AOg_split_not (fun h => ?_) (fun h => ?_) <;> simp [h, w1])
    | (refine AOg_split (fun h => ?_) (fun h => ?_) <;> simp [h, w1])
    | refine AW_cond_t rfl ?_
    | refine AW_cond_f rfl ?_
    | refine AW_cond_notdec rfl (fun h => ?_) (fun h => ?_)
    | refine AW_cond_dec rfl (fun h => ?_) (fun h => ?_)
    | refine AW_cond_not rfl (fun h => ?_) (fun h => ?_)
    | refine AW_cond rfl (fun h => ?_) (fun h => ?_)
    | (apply hK; clear hK K))
  all_goals (refine retq1 (conv_eq ?_ rfl); simp [wrap_i64', tdiv_two, tmod_two] at *)
  all_goals (split at * <;> omega)

theorem r_right (b : Int) (hb : I32 b) : PC 22 [.int .i32 b] (.bool (rightB b)) := by
  refine PCall_body Try.func22 rfl (by decide) Try.ntmps22 (by simp) Try.results22 ?_
  repeat' (first
    | refine AW_seq_k fun K hK => ?_
    | refine AW_block ?_
    | refine AW_skip ?_
    | refine AW_exit ?_
    | refine AW_ret ?_
    | refine SThen_normal ?_
    | refine SThen_ret ?_
    | refine SThen_exit ?_
    | refine SBlock_normal ?_
    | refine SBlock_ret ?_
    | refine SBlock_exit ?_
    | refine SBlock_exit_ne (by decide) ?_
    | (refine AW_region_AO ?_; simp)
    | (refine AOg_split_notdec (fun h => ?_) (fun h => ?_) <;> simp [h])
    | (refine AOg_split_dec (fun h => ?_) (fun h => ?_) <;> simp [h])
    | (refine AOg_split_not (fun h => ?_) (fun h => ?_) <;> simp [h])
    | (refine AOg_split (fun h => ?_) (fun h => ?_) <;> simp [h])
    | refine AW_cond_t rfl ?_
    | refine AW_cond_f rfl ?_
    | refine AW_cond_notdec rfl (fun h => ?_) (fun h => ?_)
    | refine AW_cond_dec rfl (fun h => ?_) (fun h => ?_)
    | refine AW_cond_not rfl (fun h => ?_) (fun h => ?_)
    | refine AW_cond rfl (fun h => ?_) (fun h => ?_)
    | (refine AS_call1 (f := 28) rfl rfl (r_number _ hb) rfl rfl rfl ?_; simp)
    | (apply hK; clear hK K))
  all_goals (refine retq1 (conv_eq ?_ rfl); simp_all [rightB])
  all_goals (first | omega | (rw [Bool.eq_iff_iff]; simp; omega))

theorem r_value (b : Int) (hb : I32 b) : PC 23 [.int .i32 b] (valueV b) := by
  have w1 : IntKind.i64.wrap b = b := by unfold I32 at hb; exact wrap_i64 (by omega) (by omega)
  have w2 : IntKind.i64.wrap (2 * (b / 2)) = 2 * (b / 2) := by unfold I32 at hb; exact wrap_i64 (by omega) (by omega)
  refine PCall_body Try.func23 rfl (by decide) Try.ntmps23 (by simp) Try.results23 ?_
  repeat' (first
    | refine AW_seq_k fun K hK => ?_
    | refine AW_block ?_
    | refine AW_skip ?_
    | refine AW_exit ?_
    | refine AW_ret ?_
    | refine SThen_normal ?_
    | refine SThen_ret ?_
    | refine SThen_exit ?_
    | refine SBlock_normal ?_
    | refine SBlock_ret ?_
    | refine SBlock_exit ?_
    | refine SBlock_exit_ne (by decide) ?_
    | (refine AW_region_AO ?_; simp [w1, w2])
    | (refine AOg_split_notdec (fun h => ?_) (fun h => ?_) <;> simp [h, w1, w2])
    | (refine AOg_split_dec (fun h => ?_) (fun h => ?_) <;> simp [h, w1, w2])
    | (refine AOg_split_not (fun h => ?_) (fun h => ?_) <;> simp [h, w1, w2])
    | (refine AOg_split (fun h => ?_) (fun h => ?_) <;> simp [h, w1, w2])
    | refine AW_cond_t rfl ?_
    | refine AW_cond_f rfl ?_
    | refine AW_cond_notdec rfl (fun h => ?_) (fun h => ?_)
    | refine AW_cond_dec rfl (fun h => ?_) (fun h => ?_)
    | refine AW_cond_not rfl (fun h => ?_) (fun h => ?_)
    | refine AW_cond rfl (fun h => ?_) (fun h => ?_)
    | (refine AS_call1 (f := 22) rfl rfl (r_right _ hb) rfl rfl rfl ?_; simp [w1, w2])
    | (refine AS_call1 (f := 28) rfl rfl (r_number _ hb) rfl rfl rfl ?_; simp [w1, w2])
    | (apply hK; clear hK K))
  all_goals (refine retq3 (conv_eq ?_ ?_) <;> simp_all [valueV, someB] <;> (first | omega | (rw [Bool.eq_iff_iff]; simp; omega)))

theorem r_wide (a b : Int) (ha : I64 a) (hb : I64 b) (hb1 : 1 ≤ b) : PC 29 [.int .i64 a, .int .i64 b]
    (.tup [.int .u64 ((a.natAbs : Int) * b / 18446744073709551616), .int .u64 ((a.natAbs : Int) * b % 18446744073709551616), .bool (decide (a < 0))]) := by
  unfold I64 at ha hb
  have wb : IntKind.u64.wrap b = b := by rw [wrap_u64]; omega
  have hpos : a < 0 → 1 ≤ (a.natAbs : Int) * b := fun h => by
    have := Int.mul_le_mul (a := 1) (b := 1) (c := (a.natAbs : Int)) (d := b) (by omega) hb1 (by omega) (by omega)
    omega
  refine PCall_body Try.func29 rfl (by decide) Try.ntmps29 (by simp) Try.results29 ?_
  by_cases h0 : a < 0
  · have wa : IntKind.u64.wrap (-IntKind.u64.wrap a) = a.natAbs := by simp only [wrap_u64]; omega
    repeat' (first
    | refine AW_seq_k fun K hK => ?_
    | refine AW_block ?_
    | refine AW_skip ?_
    | refine AW_exit ?_
    | refine AW_ret ?_
    | refine SThen_normal ?_
    | refine SThen_ret ?_
    | refine SThen_exit ?_
    | refine SBlock_normal ?_
    | refine SBlock_ret ?_
    | refine SBlock_exit ?_
    | refine SBlock_exit_ne (by decide) ?_
    | (refine AW_region_AO ?_; simp [h0, wa, wb])
    | (refine AOg_split_notdec (fun h => ?_) (fun h => ?_) <;> simp [h, h0, wa, wb])
    | (refine AOg_split_dec (fun h => ?_) (fun h => ?_) <;> simp [h, h0, wa, wb])
    | (refine AOg_split_not (fun h => ?_) (fun h => ?_) <;> simp [h, h0, wa, wb])
    | (refine AOg_split (fun h => ?_) (fun h => ?_) <;> simp [h, h0, wa, wb])
    | refine AW_cond_t rfl ?_
    | refine AW_cond_f rfl ?_
    | refine AW_cond_notdec rfl (fun h => ?_) (fun h => ?_)
    | refine AW_cond_dec rfl (fun h => ?_) (fun h => ?_)
    | refine AW_cond_not rfl (fun h => ?_) (fun h => ?_)
    | refine AW_cond rfl (fun h => ?_) (fun h => ?_)
    | (refine AS_call1 (f := 27) rfl rfl (c_mul64 a.natAbs b (by omega) (by omega) (by omega) (by omega)) rfl rfl rfl ?_; simp)
    | (apply hK; clear hK K))
    all_goals (refine retq3 (conv_eq ?_ rfl); simp [h0] at *)
    all_goals omega
  · have wa : IntKind.u64.wrap a = a.natAbs := by simp only [wrap_u64]; omega
    repeat' (first
    | refine AW_seq_k fun K hK => ?_
    | refine AW_block ?_
    | refine AW_skip ?_
    | refine AW_exit ?_
    | refine AW_ret ?_
    | refine SThen_normal ?_
    | refine SThen_ret ?_
    | refine SThen_exit ?_
    | refine SBlock_normal ?_
    | refine SBlock_ret ?_
    | refine SBlock_exit ?_
    | refine SBlock_exit_ne (by decide) ?_
    | (refine AW_region_AO ?_; simp [h0, wa, wb])
    | (refine AOg_split_notdec (fun h => ?_) (fun h => ?_) <;> simp [h, h0, wa, wb])
    | (refine AOg_split_dec (fun h => ?_) (fun h => ?_) <;> simp [h, h0, wa, wb])
    | (refine AOg_split_not (fun h => ?_) (fun h => ?_) <;> simp [h, h0, wa, wb])
    | (refine AOg_split (fun h => ?_) (fun h => ?_) <;> simp [h, h0, wa, wb])
    | refine AW_cond_t rfl ?_
    | refine AW_cond_f rfl ?_
    | refine AW_cond_notdec rfl (fun h => ?_) (fun h => ?_)
    | refine AW_cond_dec rfl (fun h => ?_) (fun h => ?_)
    | refine AW_cond_not rfl (fun h => ?_) (fun h => ?_)
    | refine AW_cond rfl (fun h => ?_) (fun h => ?_)
    | (refine AS_call1 (f := 27) rfl rfl (c_mul64 a.natAbs b (by omega) (by omega) (by omega) (by omega)) rfl rfl rfl ?_; simp)
    | (apply hK; clear hK K))
    all_goals (refine retq3 (conv_eq ?_ rfl); simp [h0] at *)
    all_goals (try omega)

def cmpI (a b : Int) : Int := if a < b then -1 else if a = b then 0 else 1
set_option maxHeartbeats 2000000 in
theorem r_less (num den v : Int) (hn : I64 num) (hd : I64 den) (hd1 : 1 ≤ den) (hv : I64 v) : PC 24 [.int .i64 num, .int .i64 den, .int .i64 v] (.int .i64 (cmpI num (v * den))) := by
  have hw := r_wide v den hv hd hd1
  unfold I64 at hn hd hv
  have hr := sq_lo (n := 9223372036854775808) (by omega) (by omega) (by omega) (by omega) (by omega) (a := v) (b := den)
  simp at hr
  refine PCall_body Try.func24 rfl (by decide) Try.ntmps24 (by simp) Try.results24 ?_
  by_cases h0 : v < 0
  · have h1 : (v.natAbs : Int) = -v := by omega
    have h2 : v * den ≤ v * 1 := Int.mul_le_mul_of_nonpos_left (by omega) (by omega)
    rw [h1, Int.neg_mul, decide_eq_true h0] at hw
    generalize v * den = q at *
    by_cases h3 : num < 0
    · have w1 : IntKind.u64.wrap (-IntKind.u64.wrap num) = -num := by simp only [wrap_u64]; omega
      repeat' (first
    | refine AW_seq_k fun K hK => ?_
    | refine AW_block ?_
    | refine AW_skip ?_
    | refine AW_exit ?_
    | refine AW_ret ?_
    | refine SThen_normal ?_
    | refine SThen_ret ?_
    | refine SThen_exit ?_
    | refine SBlock_normal ?_
    | refine SBlock_ret ?_
    | refine SBlock_exit ?_
    | refine SBlock_exit_ne (by decide) ?_
    | (refine AW_region_AO ?_; simp [h3, w1])
    | (refine AOg_split_notdec (fun h => ?_) (fun h => ?_) <;> simp [h, h3, w1])
    | (refine AOg_split_dec (fun h => ?_) (fun h => ?_) <;> simp [h, h3, w1])
    | (refine AOg_split_not (fun h => ?_) (fun h => ?_) <;> simp [h, h3, w1])
    | (refine AOg_split (fun h => ?_) (fun h => ?_) <;> simp [h, h3, w1])
    | refine AW_cond_t rfl ?_
    | refine AW_cond_f rfl ?_
    | refine AW_cond_notdec rfl (fun h => ?_) (fun h => ?_)
    | refine AW_cond_dec rfl (fun h => ?_) (fun h => ?_)
    | refine AW_cond_not rfl (fun h => ?_) (fun h => ?_)
    | refine AW_cond rfl (fun h => ?_) (fun h => ?_)
    | (refine AS_call1 (f := 29) rfl rfl (hw) rfl rfl rfl ?_; simp [h3, w1])
    | (apply hK; clear hK K))
      all_goals (refine retq1 (conv_eq ?_ rfl); simp [wrap_i64', cmpI] at *; omega)
    · have w1 : IntKind.u64.wrap num = num := by simp only [wrap_u64]; omega
      repeat' (first
    | refine AW_seq_k fun K hK => ?_
    | refine AW_block ?_
    | refine AW_skip ?_
    | refine AW_exit ?_
    | refine AW_ret ?_
    | refine SThen_normal ?_
    | refine SThen_ret ?_
    | refine SThen_exit ?_
    | refine SBlock_normal ?_
    | refine SBlock_ret ?_
    | refine SBlock_exit ?_
    | refine SBlock_exit_ne (by decide) ?_
    | (refine AW_region_AO ?_; simp [h3, w1])
    | (refine AOg_split_notdec (fun h => ?_) (fun h => ?_) <;> simp [h, h3, w1])
    | (refine AOg_split_dec (fun h => ?_) (fun h => ?_) <;> simp [h, h3, w1])
    | (refine AOg_split_not (fun h => ?_) (fun h => ?_) <;> simp [h, h3, w1])
    | (refine AOg_split (fun h => ?_) (fun h => ?_) <;> simp [h, h3, w1])
    | refine AW_cond_t rfl ?_
    | refine AW_cond_f rfl ?_
    | refine AW_cond_notdec rfl (fun h => ?_) (fun h => ?_)
    | refine AW_cond_dec rfl (fun h => ?_) (fun h => ?_)
    | refine AW_cond_not rfl (fun h => ?_) (fun h => ?_)
    | refine AW_cond rfl (fun h => ?_) (fun h => ?_)
    | (refine AS_call1 (f := 29) rfl rfl (hw) rfl rfl rfl ?_; simp [h3, w1])
    | (apply hK; clear hK K))
      all_goals (refine retq1 (conv_eq ?_ rfl); simp [wrap_i64', cmpI] at *; omega)
  · have h1 : (v.natAbs : Int) = v := by omega
    have h2 : 0 ≤ v * den := Int.mul_nonneg (by omega) (by omega)
    rw [h1, decide_eq_false h0] at hw
    generalize v * den = q at *
    by_cases h3 : num < 0
    · have w1 : IntKind.u64.wrap (-IntKind.u64.wrap num) = -num := by simp only [wrap_u64]; omega
      repeat' (first
    | refine AW_seq_k fun K hK => ?_
    | refine AW_block ?_
    | refine AW_skip ?_
    | refine AW_exit ?_
    | refine AW_ret ?_
    | refine SThen_normal ?_
    | refine SThen_ret ?_
    | refine SThen_exit ?_
    | refine SBlock_normal ?_
    | refine SBlock_ret ?_
    | refine SBlock_exit ?_
    | refine SBlock_exit_ne (by decide) ?_
    | (refine AW_region_AO ?_; simp [h3, w1])
    | (refine AOg_split_notdec (fun h => ?_) (fun h => ?_) <;> simp [h, h3, w1])
    | (refine AOg_split_dec (fun h => ?_) (fun h => ?_) <;> simp [h, h3, w1])
    | (refine AOg_split_not (fun h => ?_) (fun h => ?_) <;> simp [h, h3, w1])
    | (refine AOg_split (fun h => ?_) (fun h => ?_) <;> simp [h, h3, w1])
    | refine AW_cond_t rfl ?_
    | refine AW_cond_f rfl ?_
    | refine AW_cond_notdec rfl (fun h => ?_) (fun h => ?_)
    | refine AW_cond_dec rfl (fun h => ?_) (fun h => ?_)
    | refine AW_cond_not rfl (fun h => ?_) (fun h => ?_)
    | refine AW_cond rfl (fun h => ?_) (fun h => ?_)
    | (refine AS_call1 (f := 29) rfl rfl (hw) rfl rfl rfl ?_; simp [h3, w1])
    | (apply hK; clear hK K))
      all_goals (refine retq1 (conv_eq ?_ rfl); simp [wrap_i64', cmpI] at *; omega)
    · have w1 : IntKind.u64.wrap num = num := by simp only [wrap_u64]; omega
      repeat' (first
    | refine AW_seq_k fun K hK => ?_
    | refine AW_block ?_
    | refine AW_skip ?_
    | refine AW_exit ?_
    | refine AW_ret ?_
    | refine SThen_normal ?_
    | refine SThen_ret ?_
    | refine SThen_exit ?_
    | refine SBlock_normal ?_
    | refine SBlock_ret ?_
    | refine SBlock_exit ?_
    | refine SBlock_exit_ne (by decide) ?_
    | (refine AW_region_AO ?_; simp [h3, w1])
    | (refine AOg_split_notdec (fun h => ?_) (fun h => ?_) <;> simp [h, h3, w1])
    | (refine AOg_split_dec (fun h => ?_) (fun h => ?_) <;> simp [h, h3, w1])
    | (refine AOg_split_not (fun h => ?_) (fun h => ?_) <;> simp [h, h3, w1])
    | (refine AOg_split (fun h => ?_) (fun h => ?_) <;> simp [h, h3, w1])
    | refine AW_cond_t rfl ?_
    | refine AW_cond_f rfl ?_
    | refine AW_cond_notdec rfl (fun h => ?_) (fun h => ?_)
    | refine AW_cond_dec rfl (fun h => ?_) (fun h => ?_)
    | refine AW_cond_not rfl (fun h => ?_) (fun h => ?_)
    | refine AW_cond rfl (fun h => ?_) (fun h => ?_)
    | (refine AS_call1 (f := 29) rfl rfl (hw) rfl rfl rfl ?_; simp [h3, w1])
    | (apply hK; clear hK K))
      all_goals (refine retq1 (conv_eq ?_ rfl); simp [wrap_i64', cmpI] at *; omega)

end Go.Proofs.Ytgmlimipejcpgaa
