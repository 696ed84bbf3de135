/-
  YtgmlimipejcpgaaT2: a step of the proof of a law of the program: what this text proves holds under the hypotheses that its theorems name, and no others.
-/
import Derived.Test.YtgmlimipejcpgaaT1
set_option linter.unusedVariables false
set_option linter.unusedSimpArgs false
namespace Go.Proofs.Ytgmlimipejcpgaa
open Go Go.AM Fx

theorem wrap_u64 (n : Int) : IntKind.u64.wrap n = n % 18446744073709551616 := by
  unfold IntKind.wrap; simp [IntKind.bits, IntKind.signed]
theorem and_mask (x : Int) (hx : 0 ≤ x) (hx' : x < 18446744073709551616) : bits .and .u64 x 4294967295 = x % 4294967296 := by
  have h : (BitVec.ofInt 64 x &&& BitVec.ofInt 64 4294967295).toNat = (x % 4294967296).toNat := by
    have h1 : BitVec.ofInt 64 4294967295 = 4294967295#64 := by decide
    rw [h1, BitVec.toNat_and]
    have h2 : (4294967295#64).toNat = 2 ^ 32 - 1 := by decide
    rw [h2, Nat.and_two_pow_sub_one_eq_mod, BitVec.toNat_ofInt]
    omega
  show IntKind.u64.wrap ((BitVec.ofInt 64 x &&& BitVec.ofInt 64 4294967295).toNat : Int) = x % 4294967296
  rw [h, wrap_u64]
  omega
theorem shr32 (x : Int) : x.fdiv (2 ^ min 32 IntKind.u64.bits) = x / 4294967296 := by
  have : (2 : Int) ^ min 32 IntKind.u64.bits = 4294967296 := by decide
  rw [this, Int.fdiv_eq_ediv_of_nonneg _ (by decide)]

theorem mul_lt {a b n : Int} (ha : 0 ≤ a) (hb : 0 ≤ b) (ha' : a ≤ n) (hb' : b ≤ n) : 0 ≤ a * b ∧ a * b ≤ n * n :=
  ⟨Int.mul_nonneg ha hb, Int.mul_le_mul ha' hb' hb (by omega)⟩

theorem mul64_law (x y : Int) (hx : 0 ≤ x) (hx' : x < 18446744073709551616) (hy : 0 ≤ y) (hy' : y < 18446744073709551616) :
    ((x / 4294967296) * (y / 4294967296) % 18446744073709551616 + ((x / 4294967296) * (y % 4294967296) % 18446744073709551616 + (x % 4294967296) * (y % 4294967296) % 18446744073709551616 / 4294967296) % 18446744073709551616 / 4294967296) % 18446744073709551616 +
      (((x / 4294967296) * (y % 4294967296) % 18446744073709551616 + (x % 4294967296) * (y % 4294967296) % 18446744073709551616 / 4294967296) % 18446744073709551616 % 4294967296 + (x % 4294967296) * (y / 4294967296) % 18446744073709551616) % 18446744073709551616 / 4294967296 = x * y / 18446744073709551616 := by
  have h1 : x = x / 4294967296 * 4294967296 + x % 4294967296 := by omega
  have h2 : y = y / 4294967296 * 4294967296 + y % 4294967296 := by omega
  have b1 : 0 ≤ x / 4294967296 ∧ x / 4294967296 ≤ 4294967295 := by omega
  have b2 : 0 ≤ x % 4294967296 ∧ x % 4294967296 ≤ 4294967295 := by omega
  have b3 : 0 ≤ y / 4294967296 ∧ y / 4294967296 ≤ 4294967295 := by omega
  have b4 : 0 ≤ y % 4294967296 ∧ y % 4294967296 ≤ 4294967295 := by omega
  generalize x / 4294967296 = a at *
  generalize x % 4294967296 = b at *
  generalize y / 4294967296 = c at *
  generalize y % 4294967296 = d at *
  have hxy : x * y = a * c * 18446744073709551616 + (a * d + b * c) * 4294967296 + b * d := by
    rw [h1, h2]
    have e : (18446744073709551616 : Int) = 4294967296 * 4294967296 := by decide
    rw [e]
    generalize (4294967296 : Int) = m
    simp only [Int.add_mul, Int.mul_add, Int.mul_assoc, Int.mul_left_comm, Int.mul_comm, Int.add_assoc, Int.add_left_comm, Int.add_comm]
  have p1 := mul_lt b1.1 b3.1 b1.2 b3.2
  have p2 := mul_lt b1.1 b4.1 b1.2 b4.2
  have p3 := mul_lt b2.1 b3.1 b2.2 b3.2
  have p4 := mul_lt b2.1 b4.1 b2.2 b4.2
  rw [hxy]
  generalize a * c = s at *
  generalize a * d = q at *
  generalize b * c = r at *
  generalize b * d = p at *
  clear h1 h2 hxy b1 b2 b3 b4 hx hx' hy hy'
  omega

theorem mul_hi (x y : Int) (hx : 0 ≤ x) (hx' : x < 18446744073709551616) (hy : 0 ≤ y) (hy' : y < 18446744073709551616) : 0 ≤ x * y ∧ x * y ≤ 340282366920938463426481119284349108225 :=
  mul_lt (n := 18446744073709551615) hx hy (by omega) (by omega)

theorem c_mul64 (x y : Int) (hx : 0 ≤ x) (hx' : x < 18446744073709551616) (hy : 0 ≤ y) (hy' : y < 18446744073709551616) : PC 27 [.int .u64 x, .int .u64 y] (.tup [.int .u64 (x * y / 18446744073709551616), .int .u64 (x * y % 18446744073709551616)]) := by
  refine PCall_body Try.func27 rfl (by decide) Try.ntmps27 (by simp) Try.results27 ?_
  repeat' (first
    | refine AW_seq_k fun K hK => ?_
    | refine AW_block ?_
    | refine AW_skip ?_
    | refine AW_exit ?_
    | refine AW_ret ?_
    | refine SThen_normal ?_
    | refine SThen_ret ?_
    | refine SThen_exit ?_
    | refine SBlock_normal ?_
    | refine SBlock_ret ?_
    | refine SBlock_exit ?_
    | refine SBlock_exit_ne (by decide) ?_
    | (refine AW_region_AO ?_; simp)
    | (refine AOg_split_notdec (fun h => ?_) (fun h => ?_) <;> simp [h])
    | (refine AOg_split_dec (fun h => ?_) (fun h => ?_) <;> simp [h])
    | (refine AOg_split_not (fun h => ?_) (fun h => ?_) <;> simp [h])
    | (refine AOg_split (fun h => ?_) (fun h => ?_) <;> simp [h])
    | refine AW_cond_t rfl ?_
    | refine AW_cond_f rfl ?_
    | refine AW_cond_notdec rfl (fun h => ?_) (fun h => ?_)
    | refine AW_cond_dec rfl (fun h => ?_) (fun h => ?_)
    | refine AW_cond_not rfl (fun h => ?_) (fun h => ?_)
    | refine AW_cond rfl (fun h => ?_) (fun h => ?_)
    | (apply hK; clear hK K))
  refine retq2 (conv_eq ?_ rfl)
  simp [and_mask x hx hx', and_mask y hy hy', shr32, wrap_u64]
  rw [and_mask _ (by omega) (by omega)]
  have hl := mul64_law x y hx hx' hy hy'
  have hm := mul_hi x y hx hx' hy hy'
  omega
end Go.Proofs.Ytgmlimipejcpgaa
