/-
  YtgmlimipejcpgaaT1: a step of the proof of a law of the program: what this text proves holds under the hypotheses that its theorems name, and no others.
-/
import Derived.Test.YtgmlimipejcpgaaFxTry
set_option linter.unusedVariables false
set_option linter.unusedSimpArgs false
namespace Go.Proofs.Ytgmlimipejcpgaa
open Go Go.AM Fx
def GV : GEnv := fun _ => none
abbrev PC := PCall Try.prog GV

def rightB (b : Int) : Bool := decide (b = 2147483647) || (decide (-536870912 ≤ b) && decide (b ≤ 536870913))

theorem c_right (b : Int) : PC 25 [.int .i32 b] (.bool (rightB b)) := by
  refine PCall_body Try.func25 rfl (by decide) Try.ntmps25 (by simp) Try.results25 ?_
  repeat' (first
    | refine AW_seq_k fun K hK => ?_
    | refine AW_block ?_
    | refine AW_skip ?_
    | refine AW_exit ?_
    | refine AW_ret ?_
    | refine SThen_normal ?_
    | refine SThen_ret ?_
    | refine SThen_exit ?_
    | refine SBlock_normal ?_
    | refine SBlock_ret ?_
    | refine SBlock_exit ?_
    | refine SBlock_exit_ne (by decide) ?_
    | (refine AW_region_AO ?_; simp)
    | (refine AOg_split_notdec (fun h => ?_) (fun h => ?_) <;> simp [h])
    | (refine AOg_split_dec (fun h => ?_) (fun h => ?_) <;> simp [h])
    | (refine AOg_split_not (fun h => ?_) (fun h => ?_) <;> simp [h])
    | (refine AOg_split (fun h => ?_) (fun h => ?_) <;> simp [h])
    | refine AW_cond_t rfl ?_
    | refine AW_cond_f rfl ?_
    | refine AW_cond_notdec rfl (fun h => ?_) (fun h => ?_)
    | refine AW_cond_dec rfl (fun h => ?_) (fun h => ?_)
    | refine AW_cond_not rfl (fun h => ?_) (fun h => ?_)
    | refine AW_cond rfl (fun h => ?_) (fun h => ?_)
    | (apply hK; clear hK K))
  all_goals (refine retq1 (conv_eq ?_ ?_) <;> simp_all [rightB] <;> omega)

/-- A bound's number, is it reached, is there one. -/
def someB (b : Int) : Bool := !(decide (b = 2147483647)) && rightB b
def valueV (b : Int) : V := if someB b = true then .tup [.int .i64 (b / 2), .bool (decide (b % 2 = 1)), .bool true] else .tup [.int .i64 0, .bool false, .bool false]

theorem and_one (b : Int) : bits .and .i32 b 1 = b % 2 := by
  have h : (BitVec.ofInt 32 b &&& BitVec.ofInt 32 1).toNat = (b % 2).toNat := by
    have h1 : BitVec.ofInt 32 1 = 1#32 := by decide
    rw [h1, BitVec.toNat_and]
    have h2 : (1#32).toNat = 1 := by decide
    rw [h2, Nat.and_one_is_mod, BitVec.toNat_ofInt]
    omega
  show IntKind.i32.wrap ((BitVec.ofInt 32 b &&& BitVec.ofInt 32 1).toNat : Int) = b % 2
  rw [h]
  unfold IntKind.wrap
  simp [IntKind.bits, IntKind.signed]
  omega
theorem wrap_i64 {n : Int} (h1 : -9223372036854775808 ≤ n) (h2 : n ≤ 9223372036854775807) : IntKind.i64.wrap n = n := by
  unfold IntKind.wrap; simp [IntKind.bits, IntKind.signed]; omega
theorem wrap_i32 {n : Int} (h1 : -2147483648 ≤ n) (h2 : n ≤ 2147483647) : IntKind.i32.wrap n = n := by
  unfold IntKind.wrap; simp [IntKind.bits, IntKind.signed]; omega
theorem fdiv_two (n : Int) : n.fdiv 2 = n / 2 := by rw [Int.fdiv_eq_ediv_of_nonneg _ (by decide)]

theorem c_value (b : Int) : PC 20 [.int .i32 b] (valueV b) := by
  refine PCall_body Try.func20 rfl (by decide) Try.ntmps20 (by simp) Try.results20 ?_
  repeat' (first
    | refine AW_seq_k fun K hK => ?_
    | refine AW_block ?_
    | refine AW_skip ?_
    | refine AW_exit ?_
    | refine AW_ret ?_
    | refine SThen_normal ?_
    | refine SThen_ret ?_
    | refine SThen_exit ?_
    | refine SBlock_normal ?_
    | refine SBlock_ret ?_
    | refine SBlock_exit ?_
    | refine SBlock_exit_ne (by decide) ?_
    | (refine AW_region_AO ?_; simp)
    | (refine AOg_split_notdec (fun h => ?_) (fun h => ?_) <;> simp [h])
    | (refine AOg_split_dec (fun h => ?_) (fun h => ?_) <;> simp [h])
    | (refine AOg_split_not (fun h => ?_) (fun h => ?_) <;> simp [h])
    | (refine AOg_split (fun h => ?_) (fun h => ?_) <;> simp [h])
    | refine AW_cond_t rfl ?_
    | refine AW_cond_f rfl ?_
    | refine AW_cond_notdec rfl (fun h => ?_) (fun h => ?_)
    | refine AW_cond_dec rfl (fun h => ?_) (fun h => ?_)
    | refine AW_cond_not rfl (fun h => ?_) (fun h => ?_)
    | refine AW_cond rfl (fun h => ?_) (fun h => ?_)
    | (refine AS_call1 (f := 25) rfl rfl (c_right _) rfl rfl rfl ?_; simp)
    | (apply hK; clear hK K))
  · refine retq3 (conv_eq ?_ ?_) <;> simp_all [valueV, someB]
  · refine retq3 (conv_eq ?_ ?_)
    · simp_all [valueV, someB, and_one, IntKind.bits, fdiv_two]
      simp [rightB] at *
      exact wrap_i64 (by omega) (by omega)
    · simp
  all_goals (refine retq3 (conv_eq ?_ ?_) <;> simp_all [valueV, someB])
end Go.Proofs.Ytgmlimipejcpgaa
