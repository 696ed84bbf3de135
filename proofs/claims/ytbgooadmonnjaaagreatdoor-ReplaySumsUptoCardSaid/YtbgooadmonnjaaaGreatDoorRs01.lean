/-
  YtbgooadmonnjaaaGreatDoorRs01: steps of the proof of a law of the program: what these texts prove holds under the hypotheses that their theorems name, and no others.
-/
import Derived.Test.YtbgooadmonnjaaaGreatDoorRc24
import Derived.Test.YtbgooadmonnjaaaGreatDoorRc21
import Derived.Test.YtbgooadmonnjaaaGreatDoorRc11
import Derived.Test.YtbgooadmonnjaaaGreatDoorRs00
import Derived.Test.YtbgooadmonnjaaaGreatDoorRc08
import Derived.Test.YtbgooadmonnjaaaGreatDoorProg
import Derived.Test.YtbgooadmonnjaaaGreatDoorRc07
import Derived.Test.YtbgooadmonnjaaaGreatDoorRc06
import Derived.Test.YtbgooadmonnjaaaGreatDoorRc05
import Derived.Test.YtbgooadmonnjaaaGreatDoorRc04
import Derived.Test.YtbgooadmonnjaaaGreatDoorRc03
import Derived.Test.YtbgooadmonnjaaaGreatDoorRc02
import Derived.Test.YtbgooadmonnjaaaGreatDoorRc01
import Derived.Test.YtbgooadmonnjaaaGreatDoorRc00
import Derived.Tactics
import Derived.Below
import Derived.Laws.AppendOwn
import Derived.Laws.CopyRow
import Derived.Laws.Rows
import Derived.Laws.Entries
import Derived.Laws.StructEq
import Derived.ChangeKeysEq
import Derived.Laws.IdiomStrings
import Derived.KernelRfl
import Derived.Test.YtbgooadmonnjaaaGreatDoorRc10
import Derived.Test.YtbgooadmonnjaaaGreatDoorRc09
import Derived.Orders
import Derived.Scope
import Derived.ChangeSlices
import Derived.MapKept
import Derived.Test.YtbgooadmonnjaaaGreatDoorRows
import Derived.Test.YtbgooadmonnjaaaGreatDoorRc12
import Derived.Test.YtbgooadmonnjaaaGreatDoorRc20
import Derived.Shelf.Spec.BitsCarry
import Derived.Test.YtbgooadmonnjaaaGreatDoorRc17
import Derived.Test.YtbgooadmonnjaaaGreatDoorRc15
import Derived.Lib.AppendZeros
import Derived.Test.YtbgooadmonnjaaaGreatDoorRc18
import Derived.Test.YtbgooadmonnjaaaGreatDoorRc16
import Derived.Test.YtbgooadmonnjaaaGreatDoorRc13
import Derived.Test.YtbgooadmonnjaaaGreatDoorRc14
import Derived.Test.YtbgooadmonnjaaaGreatDoorRc33
import Derived.Test.YtbgooadmonnjaaaGreatDoorRc31
import Derived.Test.YtbgooadmonnjaaaGreatDoorRc29
import Derived.Test.YtbgooadmonnjaaaGreatDoorRc28
import Derived.Test.YtbgooadmonnjaaaGreatDoorRc26
import Derived.Test.YtbgooadmonnjaaaGreatDoorRc25
import Derived.Test.YtbgooadmonnjaaaGreatDoorRc23
import Derived.Test.YtbgooadmonnjaaaGreatDoorRc19
import Derived.Laws.IdiomCopy
import Derived.Test.YtbgooadmonnjaaaGreatDoorRc22
import Derived.Test.YtbgooadmonnjaaaGreatDoorRc27
import Derived.Test.YtbgooadmonnjaaaGreatDoorRc30
import Derived.Test.YtbgooadmonnjaaaGreatDoorRc32
import Derived.Test.YtbgooadmonnjaaaGreatDoorRc34
section
set_option linter.unusedSimpArgs false
set_option linter.unusedVariables false
namespace Go.Proofs.YtbgooadmonnjaaaGreatDoor
open Go Go.AM Fx
theorem r_below (a b : Nat) : PC 92 [wV a, wV b] (.bool (decide (a < b))) := by
  simp only [wV, wC]
  by_cases h1 : (a : Int) / 18446744073709551616 < (b : Int) / 18446744073709551616
  · have e : a < b := by omega
    refine pB Tryz.func92 rfl (by decide) Tryz.ntmps92 (by simp) Tryz.results92 ?_
    repeat' (first
 |refine aK fun K hK=>?_|refine Step.by1 ?_|refine sE (by decide) ?_|refine cz rfl ?_|refine Fork.by2 (fun h=>?_) fun h=>?_
 |(refine aR ?_;simp [h1])
 |(refine Split.by2 (fun h=>?_) (fun h=>?_)<;>(simp [h, h1]))
 |(apply hK;clear hK K)|refine AWh ‹_› ?_)
    exact r1q (cE (by simp [e]) rfl)
  · by_cases h2 : (a : Int) / 18446744073709551616 = (b : Int) / 18446744073709551616
    · have e : ((a : Int) % 18446744073709551616 < (b : Int) % 18446744073709551616) ↔ a < b := by omega
      have h3 : ¬ (b : Int) / 18446744073709551616 < (b : Int) / 18446744073709551616 := by omega
      refine pB Tryz.func92 rfl (by decide) Tryz.ntmps92 (by simp) Tryz.results92 ?_
      repeat' (first
 |refine aK fun K hK=>?_|refine Step.by1 ?_|refine sE (by decide) ?_|refine cz rfl ?_|refine Fork.by2 (fun h=>?_) fun h=>?_
 |(refine aR ?_;simp [h2, h3])
 |(refine Split.by2 (fun h=>?_) (fun h=>?_)<;>(simp [h, h2, h3]))
 |(apply hK;clear hK K)|refine AWh ‹_› ?_)
      exact r1q (cE (by simp [e]) rfl)
    · have e : ¬ a < b := by omega
      refine pB Tryz.func92 rfl (by decide) Tryz.ntmps92 (by simp) Tryz.results92 ?_
      repeat' (first
 |refine aK fun K hK=>?_|refine Step.by1 ?_|refine sE (by decide) ?_|refine cz rfl ?_|refine Fork.by2 (fun h=>?_) fun h=>?_
 |(refine aR ?_;simp [h1, h2])
 |(refine Split.by2 (fun h=>?_) (fun h=>?_)<;>(simp [h, h1, h2]))
 |(apply hK;clear hK K)|refine AWh ‹_› ?_)
      exact r1q (cE (by simp [e]) rfl)
theorem r_size (n : Int) (hn : I64 n) : PC 90 [.int .i64 n] (.int .u64 n.natAbs) := by
  obtain ⟨h1, h2⟩ := hn
  have e0 : n < 0 → IntKind.u64.wrap (-IntKind.u64.wrap n) = (n.natAbs : Int) := fun h => by rw [wrap_u64, wrap_u64]; omega
  have e1 : ¬ n < 0 → IntKind.u64.wrap n = (n.natAbs : Int) := fun h => by rw [wrap_u64]; omega
  generalize (n.natAbs : Int) = m at *
  by_cases h0 : n < 0
  · have e0 := e0 h0
    refine pB Tryz.func90 rfl (by decide) Tryz.ntmps90 (by simp) Tryz.results90 ?_
    repeat' (first
 |refine aK fun K hK=>?_|refine Step.by1 ?_|refine sE (by decide) ?_|refine cz rfl ?_|refine Fork.by2 (fun h=>?_) fun h=>?_
 |(refine aR ?_;simp [h0])
 |(refine Split.by2 (fun h=>?_) (fun h=>?_)<;>(simp [h, h0]))
 |(apply hK;clear hK K)|refine AWh ‹_› ?_)
    exact r1q (cE (by simp [e0]) rfl)
  · have e1 := e1 h0
    refine pB Tryz.func90 rfl (by decide) Tryz.ntmps90 (by simp) Tryz.results90 ?_
    repeat' (first
 |refine aK fun K hK=>?_|refine Step.by1 ?_|refine sE (by decide) ?_|refine cz rfl ?_|refine Fork.by2 (fun h=>?_) fun h=>?_
 |(refine aR ?_;simp [h0])
 |(refine Split.by2 (fun h=>?_) (fun h=>?_)<;>(simp [h, h0]))
 |(apply hK;clear hK K)|refine AWh ‹_› ?_)
    exact r1q (cE (by simp [e1]) rfl)
theorem r_mul (a b : Nat) (ha : a < 18446744073709551616) (hb : b < 18446744073709551616) : PC 91 [.int .u64 a, .int .u64 b] (wV (a * b)) := by
  have hm := c_mul64 a b (by omega) (by omega) (by omega) (by omega)
  have hP : (a : Int) * (b : Int) = ((a * b : Nat) : Int) := by simp
  rw [hP] at hm
  generalize a * b = P at *
  clear hP
  simp only [wV, wC]
  refine pB Tryz.func91 rfl (by decide) Tryz.ntmps91 (by simp) Tryz.results91 ?_
  repeat' (first
 |refine aK fun K hK=>?_|refine Step.by1 ?_|refine sE (by decide) ?_|refine cz rfl ?_|refine Fork.by2 (fun h=>?_) fun h=>?_
 |((first|refine aR ?_|refine aC (f:=159) rfl rfl (hm) rfl rfl rfl ?_);simp)
 |(refine Split.by2 (fun h=>?_) (fun h=>?_)<;>(simp [h]))
 |(apply hK;clear hK K)|refine AWh ‹_› ?_)
  exact retqc rfl (by simp) (cE (by simp) (by simp))
theorem r_plus (a b : Nat) (h : a + b < 340282366920938463463374607431768211456) : PC 130 [wV a, wV b] (wV (a + b)) := by
  simp only [wV, wC]
  refine pB Tryz.func130 rfl (by decide) Tryz.ntmps130 (by simp) Tryz.results130 ?_
  repeat' (first
 |refine aK fun K hK=>?_|refine Step.by1 ?_|refine sE (by decide) ?_|refine cz rfl ?_|refine Fork.by2 (fun h=>?_) fun h=>?_
 |(refine aR ?_;simp)
 |(refine Split.by2 (fun h=>?_) (fun h=>?_)<;>(simp [h]))
 |(refine AS_op1 rfl (S_add64 (f := 193) rfl rfl rfl rfl Tryz.func193 rfl rfl (by kernel_rfl) (by kernel_rfl) (by omega) (by omega) (by omega) (by omega)) ?_; simp)
 |(apply hK;clear hK K)|refine AWh ‹_› ?_)
  exact retqc rfl (by simp) (cE (by simp; omega) (by simp))
theorem r_minus (a b : Nat) (h : b ≤ a) (ha : a < 340282366920938463463374607431768211456) : PC 131 [wV a, wV b] (wV (a - b)) := by
  simp only [wV, wC]
  have hb1 : 0 ≤ bor ((a : Int) % 18446744073709551616) ((b : Int) % 18446744073709551616) 0 ∧ bor ((a : Int) % 18446744073709551616) ((b : Int) % 18446744073709551616) 0 ≤ 1 := by unfold bor; split <;> omega
  have hb2 : bor ((a : Int) % 18446744073709551616) ((b : Int) % 18446744073709551616) 0 = if (a : Int) % 18446744073709551616 < (b : Int) % 18446744073709551616 then 1 else 0 := by unfold bor; rw [Int.add_zero]
  generalize hB : bor ((a : Int) % 18446744073709551616) ((b : Int) % 18446744073709551616) 0 = B at *
  refine pB Tryz.func131 rfl (by decide) Tryz.ntmps131 (by simp) Tryz.results131 ?_
  repeat' (first
 |refine aK fun K hK=>?_|refine Step.by1 ?_|refine sE (by decide) ?_|refine cz rfl ?_|refine Fork.by2 (fun h=>?_) fun h=>?_
 |(refine aR ?_;simp)
 |(refine Split.by2 (fun h=>?_) (fun h=>?_)<;>(simp [h]))
 |(refine AS_op1 rfl (S_sub64I (f := 194) rfl rfl rfl rfl Tryz.func194 rfl rfl (by kernel_rfl) (by kernel_rfl) (by omega) (by omega) (by omega)) ?_; simp [hB])
 |(apply hK;clear hK K)|refine AWh ‹_› ?_)
  exact retqc rfl (by simp) (cE (by simp; split at hb2 <;> omega) (by simp))
def dvH (s t k : Nat) : List B := [.var (wC s), .var (wC t), .var [.int .u64 0, .int .u64 0], .var [.int .u64 0, .int .u64 0], .var (wC (s / 2 ^ k / t)), .var (wC (s / 2 ^ k % t))]
set_option maxRecDepth 20000 in
set_option maxHeartbeats 8000000 in
theorem r_divide (s t : Nat) (hs : s < 340282366920938463463374607431768211456) (ht : 0 < t) (ht2 : t ≤ 170141183460469231731687303715884105728) : PC 158 [wV s, wV t] (.tup [wV (s / t), wV (s % t)]) := by
  have h128 : s / 2 ^ 128 = 0 := Nat.div_eq_of_lt (by omega)
  simp only [wV]
  refine pB Tryz.func158 rfl (by decide) Tryz.ntmps158 (by simp) Tryz.results158 ?_
  repeat' (first
 |refine aK fun K hK=>?_|refine Step.by1 ?_|refine sE (by decide) ?_|refine cz rfl ?_|refine Fork.by2 (fun h=>?_) fun h=>?_
 |(refine aR ?_;simp [wC])
 |(refine Split.by2 (fun h=>?_) (fun h=>?_)<;>(simp [h, wC]))
 |(apply hK;clear hK K)|refine AWh ‹_› ?_)
  refine aL [2, 3, 4, 5, 6, 7] (fun k : Nat => [(8, .int .i64 ((k : Int) - 1))]) (fun k => dvH s t k) (fun k => k ≤ 128) (fun k => k) 128 (Nat.le_refl _) (by apply Weak.mk' <;> simp [dvH, wC, h128]) (fun _ _ => rfl) ?_
  intro k hk
  by_cases h0 : k = 0
  · subst h0
    clear h128
    repeat' (first
 |refine aK fun K hK=>?_|refine Step.by1 ?_|refine sE (by decide) ?_|refine cz rfl ?_|refine Fork.by2 (fun h=>?_) fun h=>?_
 |(refine aR ?_;simp [dvH, wC])
 |(refine Split.by2 (fun h=>?_) (fun h=>?_)<;>(simp [h, dvH, wC]))
 |(apply hK;clear hK K)|refine AWh ‹_› ?_)
    refine AW_region_chain 4 5 [0, 1] (fun H => H[4]? = some (.var [.int .u64 ((s : Int) / t / 18446744073709551616), .int .u64 ((s : Int) / t % 18446744073709551616)]) ∧ H[5]? = some (.var [.int .u64 ((s : Int) % t / 18446744073709551616), .int .u64 ((s : Int) % t % 18446744073709551616)])) mixed (by decide) (by decide) rfl ⟨rfl, rfl⟩ ?_
    simp only [List.take_succ_cons, List.take_zero]
    refine PX_op (v := .agg [.int .u64 ((s : Int) / t / 18446744073709551616), .int .u64 ((s : Int) / t % 18446744073709551616)]) rfl rfl rfl rfl (fun H hs => by simp [hs.1]) ?_
    refine PX_op (v := .agg [.int .u64 ((s : Int) % t / 18446744073709551616), .int .u64 ((s : Int) % t % 18446744073709551616)]) rfl rfl rfl rfl (fun H hs => by simp [hs.2]) ?_
    refine PX_skip rfl ?_
    refine PX_skip rfl ?_
    refine PX_nil ?_
    refine Ch_1 2 (by decide) (by decide) ?_
    refine ChS_op rfl rfl rfl rfl (by simp) rfl (by simp) ?_
    refine Ch_1 3 (by decide) (by decide) ?_
    refine ChS_op rfl rfl rfl rfl (by simp) rfl (by simp) ?_
    refine Ch_end (by decide) ?_
    simp
    refine AS_nil ?_
    apply hK
    repeat' (first
 |refine aK fun K hK=>?_|refine Step.by1 ?_|refine sE (by decide) ?_|refine cz rfl ?_|refine Fork.by2 (fun h=>?_) fun h=>?_
 |(refine aR ?_;simp)
 |(refine Split.by2 (fun h=>?_) (fun h=>?_)<;>(simp [h]))
 |(apply hK;clear hK K)|refine AWh ‹_› ?_)
    exact retqcc (cs := [.int .u64 ((s : Int) / t / 18446744073709551616), .int .u64 ((s : Int) / t % 18446744073709551616)]) (off := 0) (cs2 := [.int .u64 ((s : Int) % t / 18446744073709551616), .int .u64 ((s : Int) % t % 18446744073709551616)]) (off2 := 0) rfl (by simp) rfl (by simp) (cE (by simp [wC]) (by simp))
  · obtain ⟨j, rfl⟩ : ∃ j, k = j + 1 := ⟨k - 1, by omega⟩
    have hdiv := div_step (s := s / 2 ^ (j + 1)) (b := s / 2 ^ j % 2) ht (Nat.mod_lt _ (by omega))
    have hbt : s / 2 ^ j % 2 < 2 := Nat.mod_lt _ (by omega)
    rw [← half_bit] at hdiv
    have hr := Nat.mod_lt (s / 2 ^ (j + 1)) ht
    have hq0 : s / 2 ^ (j + 1) / t ≤ s / 2 ^ (j + 1) := Nat.div_le_self _ _
    have hq1 : s / 2 ^ (j + 1) < 170141183460469231731687303715884105728 := by
      have h1 : s / 2 ^ (j + 1) ≤ s / 2 := by rw [Nat.pow_succ', ← Nat.div_div_eq_div_mul]; exact Nat.div_le_self _ _
      omega
    have b1 := fun h : j < 64 => bit_low (s := s) h
    have b2 := fun h : 64 ≤ j => bit_high (s := s) h (by omega) hs
    have hH : dvH s t (j + 1) = [.var (wC s), .var (wC t), .var [.int .u64 0, .int .u64 0], .var [.int .u64 0, .int .u64 0], .var (wC (s / 2 ^ (j + 1) / t)), .var (wC (s / 2 ^ (j + 1) % t))] := rfl
    have hH2 : dvH s t j = [.var (wC s), .var (wC t), .var [.int .u64 0, .int .u64 0], .var [.int .u64 0, .int .u64 0], .var (wC (s / 2 ^ j / t)), .var (wC (s / 2 ^ j % t))] := rfl
    rw [hdiv.1, hdiv.2] at hH2
    rw [hH]
    obtain ⟨e1, x2, e2, e3⟩ := sh_all (r := s / 2 ^ (j + 1) % t) (b := s / 2 ^ j % 2) (by omega) hbt
    obtain ⟨g1, y2, g2, g3⟩ := sh_all (r := s / 2 ^ (j + 1) / t) (b := 1) (by omega) (by omega)
    have g4 : y2 = ((2 * (s / 2 ^ (j + 1) / t) : Nat) : Int) % 18446744073709551616 := by
      rw [← g2, u64bits, show min 1 64 = 1 from rfl, wrap_u64]
      generalize s / 2 ^ (j + 1) / t = Q
      omega
    clear hdiv hH h128 hq1 hq0
    generalize s / 2 ^ (j + 1) % t = r at *
    generalize s / 2 ^ j % 2 = bt at *
    generalize s / 2 ^ (j + 1) / t = Q at *
    subst g4
    have g5 : ((2 * Q + 1 : Nat) : Int) / 18446744073709551616 = ((2 * Q : Nat) : Int) / 18446744073709551616 := by omega
    rw [g5] at g1
    have g6 : (((1 : Nat) : Int)) = 1 := rfl
    rw [g6] at g3
    generalize hQ3 : 2 * Q + 1 = Q3 at *
    generalize 2 * Q = Q2 at *
    generalize hR : 2 * r + bt = r2 at *
    have hcc := r_below r2 t
    have hll := fun h : t ≤ r2 => r_minus r2 t h (by omega)
    have w0 : ((j + 1 : Nat) : Int) - 1 = j := by omega
    have j0 : (0 : Int) ≤ j := by omega
    have wm : IntKind.i64.wrap ((j : Int) - 1) = j - 1 := wI (by omega) (by omega)
    have rt : ((r : Int) / 18446744073709551616).fdiv (2 ^ min 63 IntKind.u64.bits) = 0 := by
      rw [u64bits, show min 63 64 = 63 from rfl, Int.fdiv_eq_ediv_of_nonneg _ (by decide)]; omega
    have tm : IntKind.u64.wrap ((j : Int).tmod 64) = ((j % 64 : Nat) : Int) := by
      rw [Int.tmod_eq_emod_of_nonneg (by omega), wrap_u64]; omega
    simp only [wV] at hcc hll
    by_cases hj : j < 64
    · have b1 := b1 hj
      have hj63 : ¬ (64 : Int) ≤ j := by omega
      have hjm : j % 64 = j := Nat.mod_eq_of_lt hj
      rw [hjm] at tm
      clear b2
      by_cases hle : t ≤ r2
      · have hll := hll hle
        rw [decide_eq_false (show ¬ r2 < t by omega)] at hcc
        rw [if_pos hle, if_pos hle, hQ3] at hH2
        simp only [wC] at hcc hll
        repeat' (first
 |refine aK fun K hK=>?_|refine Step.by1 ?_|refine sE (by decide) ?_|refine cz rfl ?_|refine Fork.by2 (fun h=>?_) fun h=>?_
 |((first|refine aR ?_|refine aC (f:=92) rfl rfl (hcc) rfl rfl rfl ?_|refine aC (f:=131) rfl rfl (hll) rfl rfl rfl ?_);simp [wC, w0, j0, wm, e1, e2, e3, g1, g2, g3, b1, hj63, rt, tm])
 |(refine Split.by2 (fun h=>?_) (fun h=>?_)<;>(simp [h, wC, w0, j0, wm, e1, e2, e3, g1, g2, g3, b1, hj63, rt, tm]))
 |(apply hK;clear hK K)|refine AWh ‹_› ?_)
        refine ⟨j, by omega, by omega, ?_⟩
        rw [hH2]
        apply Weak.mk' <;> simp [wC, g1, g3, g5]
      · rw [decide_eq_true (show r2 < t by omega)] at hcc
        rw [if_neg hle, if_neg hle, Nat.add_zero] at hH2
        simp only [wC] at hcc
        repeat' (first
 |refine aK fun K hK=>?_|refine Step.by1 ?_|refine sE (by decide) ?_|refine cz rfl ?_|refine Fork.by2 (fun h=>?_) fun h=>?_
 |((first|refine aR ?_|refine aC (f:=92) rfl rfl (hcc) rfl rfl rfl ?_);simp [wC, w0, j0, wm, e1, e2, e3, g1, g2, g3, b1, hj63, rt, tm])
 |(refine Split.by2 (fun h=>?_) (fun h=>?_)<;>(simp [h, wC, w0, j0, wm, e1, e2, e3, g1, g2, g3, b1, hj63, rt, tm]))
 |(apply hK;clear hK K)|refine AWh ‹_› ?_)
        refine ⟨j, by omega, by omega, ?_⟩
        rw [hH2]
        apply Weak.mk' <;> simp [wC, g1, g3, g5]
    · have b2 := b2 (by omega)
      have hj63 : (64 : Int) ≤ j := by omega
      have wj : IntKind.i64.wrap ((j : Int) - 64) = ((j - 64 : Nat) : Int) := by rw [wI (by omega) (by omega)]; omega
      have wu : IntKind.u64.wrap ((j - 64 : Nat) : Int) = ((j - 64 : Nat) : Int) := by rw [wrap_u64]; omega
      clear b1
      generalize j - 64 = jj at *
      generalize j % 64 = jm at *
      have jm0 : (0 : Int) ≤ (jm : Int) := by omega
      have jj0 : (0 : Int) ≤ (jj : Int) := by omega
      by_cases hle : t ≤ r2
      · have hll := hll hle
        rw [decide_eq_false (show ¬ r2 < t by omega)] at hcc
        rw [if_pos hle, if_pos hle, hQ3] at hH2
        simp only [wC] at hcc hll
        repeat' (first
 |refine aK fun K hK=>?_|refine Step.by1 ?_|refine sE (by decide) ?_|refine cz rfl ?_|refine Fork.by2 (fun h=>?_) fun h=>?_
 |((first|refine aR ?_|refine aC (f:=92) rfl rfl (hcc) rfl rfl rfl ?_|refine aC (f:=131) rfl rfl (hll) rfl rfl rfl ?_);simp [wC, w0, j0, wm, wj, wu, jm0, jj0, e1, e2, e3, g1, g2, g3, b2, hj63, rt, tm])
 |(refine Split.by2 (fun h=>?_) (fun h=>?_)<;>(simp [h, wC, w0, j0, wm, wj, wu, jm0, jj0, e1, e2, e3, g1, g2, g3, b2, hj63, rt, tm]))
 |(apply hK;clear hK K)|refine AWh ‹_› ?_)
        refine ⟨j, by omega, by omega, ?_⟩
        rw [hH2]
        apply Weak.mk' <;> simp [wC, g1, g3, g5]
      · rw [decide_eq_true (show r2 < t by omega)] at hcc
        rw [if_neg hle, if_neg hle, Nat.add_zero] at hH2
        simp only [wC] at hcc
        repeat' (first
 |refine aK fun K hK=>?_|refine Step.by1 ?_|refine sE (by decide) ?_|refine cz rfl ?_|refine Fork.by2 (fun h=>?_) fun h=>?_
 |((first|refine aR ?_|refine aC (f:=92) rfl rfl (hcc) rfl rfl rfl ?_);simp [wC, w0, j0, wm, wj, wu, jm0, jj0, e1, e2, e3, g1, g2, g3, b2, hj63, rt, tm])
 |(refine Split.by2 (fun h=>?_) (fun h=>?_)<;>(simp [h, wC, w0, j0, wm, wj, wu, jm0, jj0, e1, e2, e3, g1, g2, g3, b2, hj63, rt, tm]))
 |(apply hK;clear hK K)|refine AWh ‹_› ?_)
        refine ⟨j, by omega, by omega, ?_⟩
        rw [hH2]
        apply Weak.mk' <;> simp [wC, g1, g3, g5]
theorem r_common (a b : Nat) (ha : a < 340282366920938463463374607431768211456) (hb : b ≤ 170141183460469231731687303715884105728) : PC 89 [wV a, wV b] (wV (Nat.gcd a b)) := by
  obtain ⟨d, hd⟩ : ∃ d, Nat.gcd a b = d := ⟨_, rfl⟩
  rw [hd]
  simp only [wV]
  refine pB Tryz.func89 rfl (by decide) Tryz.ntmps89 (by simp) Tryz.results89 ?_
  repeat' (first
 |refine aK fun K hK=>?_|refine Step.by1 ?_|refine sE (by decide) ?_|refine cz rfl ?_|refine Fork.by2 (fun h=>?_) fun h=>?_
 |(refine aR ?_;simp)
 |(refine Split.by2 (fun h=>?_) (fun h=>?_)<;>(simp [h]))
 |(apply hK;clear hK K)|refine AWh ‹_› ?_)
  refine aL [2, 3, 4] (fun _ : Nat × Nat => []) (fun x => [.var (wC x.1), .var (wC x.2), .var [.int .u64 0, .int .u64 0]]) (fun x => Nat.gcd x.1 x.2 = d ∧ x.1 < 340282366920938463463374607431768211456 ∧ x.2 ≤ 170141183460469231731687303715884105728) (fun x => x.2) (a, b) ⟨hd, ha, hb⟩ (by apply Weak.mk' <;> simp [wC]) (fun _ _ => rfl) ?_
  rintro ⟨x, y⟩ ⟨h1, h2, h3⟩
  simp only at h1 h2 h3
  have ho := fun h : 0 < y => r_divide x y h2 h h3
  simp only [wV, wC] at ho
  by_cases h0 : y = 0
  · rw [h0] at ⊢
    rw [h0, Nat.gcd_zero_right] at h1
    subst h1
    repeat' (first
 |refine aK fun K hK=>?_|refine Step.by1 ?_|refine sE (by decide) ?_|refine cz rfl ?_|refine Fork.by2 (fun h=>?_) fun h=>?_
 |(refine aR ?_;simp [wC])
 |(refine Split.by2 (fun h=>?_) (fun h=>?_)<;>(simp [h, wC]))
 |(apply hK;clear hK K)|refine AWh ‹_› ?_)
    exact retqc rfl (by simp) (cE (by simp [wC]) (by simp))
  · have ho := ho (by omega)
    have hy0 : ¬ ((y : Int) / 18446744073709551616 = 0 ∧ (y : Int) % 18446744073709551616 = 0) := by omega
    have hm := Nat.mod_lt x (show 0 < y by omega)
    repeat' (first
 |refine aK fun K hK=>?_|refine Step.by1 ?_|refine sE (by decide) ?_|refine cz rfl ?_|refine Fork.by2 (fun h=>?_) fun h=>?_
 |((first|refine aR ?_|refine aC (f:=158) rfl rfl (ho) rfl rfl rfl ?_);simp [wC, hy0])
 |(refine Split.by2 (fun h=>?_) (fun h=>?_)<;>(simp [h, wC, hy0]))
 |(apply hK;clear hK K)|refine AWh ‹_› ?_)
    · refine ⟨y, x % y, ⟨by rw [gcd_step]; exact h1, by omega, by omega⟩, hm, ?_⟩
      apply Weak.mk' <;> simp [wC]
    · exfalso
      simp_all
theorem signed_low (neg : Bool) (m d : Nat) : lowQ (signed neg m) d = ⟨signed neg (m / Nat.gcd m d), ((d / Nat.gcd m d : Nat) : Int)⟩ := by
  have e : (signed neg m).natAbs = m := by unfold signed; split <;> omega
  unfold lowQ
  rw [e]
  congr 1
  unfold signed
  cases neg
  · simp only [Bool.false_eq_true, if_false]
    rw [if_neg (by omega)]
  · simp only [if_true]
    by_cases h0 : m = 0
    · subst h0; simp
    · rw [if_pos (by omega)]
set_option maxRecDepth 20000 in
set_option maxHeartbeats 8000000 in
theorem r_held (neg : Bool) (m d : Nat) (hm : m < 340282366920938463463374607431768211456) (hd : 0 < d) (hd2 : d ≤ 170141183460469231731687303715884105728) :
    PC 129 [.bool neg, wV m, wV d] (.tup [.agg (lowE (signed neg m) d).1.cells, .int .i64 (lowE (signed neg m) d).2]) := by
  have h1 := r_common m d hm hd2
  have hg : 0 < Nat.gcd m d := Nat.gcd_pos_of_pos_right _ hd
  have hgd : Nat.gcd m d ≤ d := Nat.gcd_le_right _ hd
  have h2 := r_divide m (Nat.gcd m d) hm hg (by omega)
  have h3 := r_divide d (Nat.gcd m d) (by omega) hg (by omega)
  have hE : lowE (signed neg m) d = if (fitB (signed neg (m / Nat.gcd m d)) && fitB ((d / Nat.gcd m d : Nat) : Int)) = true then (⟨signed neg (m / Nat.gcd m d), ((d / Nat.gcd m d : Nat) : Int)⟩, 0) else (⟨0, 0⟩, 20) := by unfold lowE; rw [signed_low]
  have q1 : m / Nat.gcd m d ≤ m := Nat.div_le_self _ _
  have q2 : d / Nat.gcd m d ≤ d := Nat.div_le_self _ _
  have hdb : (decide ((d : Int) / 18446744073709551616 = 0) && decide ((d : Int) % 18446744073709551616 = 0)) = false := by
    rw [Bool.and_eq_false_iff, decide_eq_false_iff_not, decide_eq_false_iff_not]; omega
  have wl : IntKind.u64.wrap 9223372036854775808 = 9223372036854775808 := by rw [wrap_u64]; decide
  rw [hE]
  clear hE hg hgd
  simp only [wV, wC] at h1 h2 h3 ⊢
  generalize m / Nat.gcd m d = N1 at *
  generalize d / Nat.gcd m d = D1 at *
  generalize m % Nat.gcd m d = N2 at *
  generalize d % Nat.gcd m d = D2 at *
  generalize Nat.gcd m d = g at *
  cases neg
  · have hs : signed false N1 = (N1 : Int) := rfl
    rw [hs]
    by_cases hf : (N1 : Int) ≤ 9223372036854775807 ∧ (D1 : Int) ≤ 9223372036854775807
    · have e : (fitB ((N1 : Int)) && fitB (D1 : Int)) = true := by simp [fitB]; omega
      rw [if_pos e]
      have a1 : (N1 : Int) / 18446744073709551616 = 0 := by omega
      have a2 : (N1 : Int) % 18446744073709551616 = N1 := by omega
      have a3 : (D1 : Int) / 18446744073709551616 = 0 := by omega
      have a4 : (D1 : Int) % 18446744073709551616 = D1 := by omega
      have a5 : ¬ (9223372036854775807 : Int) < N1 := by omega
      have a6 : ¬ (9223372036854775807 : Int) < D1 := by omega
      have w1 : IntKind.i64.wrap (N1 : Int) = N1 := wI (by omega) (by omega)
      have w2 : IntKind.i64.wrap (D1 : Int) = D1 := wI (by omega) (by omega)
      rw [a1, a2] at h2
      rw [a3, a4] at h3
      clear e hf a1 a2 a3 a4 hs
      refine pB Tryz.func129 rfl (by decide) Tryz.ntmps129 (by simp) Tryz.results129 ?_
      repeat' (first
 |refine aK fun K hK=>?_|refine Step.by1 ?_|refine sE (by decide) ?_|refine cz rfl ?_|refine Fork.by2 (fun h=>?_) fun h=>?_
 |((first|refine aR ?_|refine aC (f:=89) rfl rfl (h1) rfl rfl rfl ?_|refine aC (f:=158) rfl rfl (h2) rfl rfl rfl ?_|refine aC (f:=158) rfl rfl (h3) rfl rfl rfl ?_);simp [hdb, wl, a5, a6, w1, w2])
 |(refine Split.by2 (fun h=>?_) (fun h=>?_)<;>(simp [h, hdb, wl, a5, a6, w1, w2]))
 |(apply hK;clear hK K)|refine AWh ‹_› ?_)
      exact retq2ct rfl (by simp) (cE (by simp [RatD.cells, w1, w2]) (by simp))
    · have e : ¬ (fitB ((N1 : Int)) && fitB (D1 : Int)) = true := by simp [fitB]; omega
      rw [if_neg e]
      rcases (show ¬ (N1 : Int) / 18446744073709551616 = 0 ∨ ((N1 : Int) / 18446744073709551616 = 0 ∧ (9223372036854775807 : Int) < (N1 : Int) % 18446744073709551616) ∨ ((N1 : Int) / 18446744073709551616 = 0 ∧ ¬ (9223372036854775807 : Int) < (N1 : Int) % 18446744073709551616 ∧ ¬ (D1 : Int) / 18446744073709551616 = 0) ∨ ((N1 : Int) / 18446744073709551616 = 0 ∧ ¬ (9223372036854775807 : Int) < (N1 : Int) % 18446744073709551616 ∧ (D1 : Int) / 18446744073709551616 = 0 ∧ (9223372036854775807 : Int) < (D1 : Int) % 18446744073709551616) by omega) with a1 | ⟨a1, a2⟩ | ⟨a1, a2, a3⟩ | ⟨a1, a2, a3, a4⟩
      · clear e hf hs
        refine pB Tryz.func129 rfl (by decide) Tryz.ntmps129 (by simp) Tryz.results129 ?_
        repeat' (first
 |refine aK fun K hK=>?_|refine Step.by1 ?_|refine sE (by decide) ?_|refine cz rfl ?_|refine Fork.by2 (fun h=>?_) fun h=>?_
 |((first|refine aR ?_|refine aC (f:=89) rfl rfl (h1) rfl rfl rfl ?_|refine aC (f:=158) rfl rfl (h2) rfl rfl rfl ?_|refine aC (f:=158) rfl rfl (h3) rfl rfl rfl ?_);simp [hdb, wl, a1])
 |(refine Split.by2 (fun h=>?_) (fun h=>?_)<;>(simp [h, hdb, wl, a1]))
 |(apply hK;clear hK K)|refine AWh ‹_› ?_)
        exact retq2ct rfl (by simp) (cE (by simp [RatD.cells]) (by simp))
      · clear e hf hs
        refine pB Tryz.func129 rfl (by decide) Tryz.ntmps129 (by simp) Tryz.results129 ?_
        repeat' (first
 |refine aK fun K hK=>?_|refine Step.by1 ?_|refine sE (by decide) ?_|refine cz rfl ?_|refine Fork.by2 (fun h=>?_) fun h=>?_
 |((first|refine aR ?_|refine aC (f:=89) rfl rfl (h1) rfl rfl rfl ?_|refine aC (f:=158) rfl rfl (h2) rfl rfl rfl ?_|refine aC (f:=158) rfl rfl (h3) rfl rfl rfl ?_);simp [hdb, wl, a1, a2])
 |(refine Split.by2 (fun h=>?_) (fun h=>?_)<;>(simp [h, hdb, wl, a1, a2]))
 |(apply hK;clear hK K)|refine AWh ‹_› ?_)
        exact retq2ct rfl (by simp) (cE (by simp [RatD.cells]) (by simp))
      · clear e hf hs
        refine pB Tryz.func129 rfl (by decide) Tryz.ntmps129 (by simp) Tryz.results129 ?_
        repeat' (first
 |refine aK fun K hK=>?_|refine Step.by1 ?_|refine sE (by decide) ?_|refine cz rfl ?_|refine Fork.by2 (fun h=>?_) fun h=>?_
 |((first|refine aR ?_|refine aC (f:=89) rfl rfl (h1) rfl rfl rfl ?_|refine aC (f:=158) rfl rfl (h2) rfl rfl rfl ?_|refine aC (f:=158) rfl rfl (h3) rfl rfl rfl ?_);simp [hdb, wl, a1, a2, a3])
 |(refine Split.by2 (fun h=>?_) (fun h=>?_)<;>(simp [h, hdb, wl, a1, a2, a3]))
 |(apply hK;clear hK K)|refine AWh ‹_› ?_)
        exact retq2ct rfl (by simp) (cE (by simp [RatD.cells]) (by simp))
      · clear e hf hs
        refine pB Tryz.func129 rfl (by decide) Tryz.ntmps129 (by simp) Tryz.results129 ?_
        repeat' (first
 |refine aK fun K hK=>?_|refine Step.by1 ?_|refine sE (by decide) ?_|refine cz rfl ?_|refine Fork.by2 (fun h=>?_) fun h=>?_
 |((first|refine aR ?_|refine aC (f:=89) rfl rfl (h1) rfl rfl rfl ?_|refine aC (f:=158) rfl rfl (h2) rfl rfl rfl ?_|refine aC (f:=158) rfl rfl (h3) rfl rfl rfl ?_);simp [hdb, wl, a1, a2, a3, a4])
 |(refine Split.by2 (fun h=>?_) (fun h=>?_)<;>(simp [h, hdb, wl, a1, a2, a3, a4]))
 |(apply hK;clear hK K)|refine AWh ‹_› ?_)
        exact retq2ct rfl (by simp) (cE (by simp [RatD.cells]) (by simp))
  · have hs : signed true N1 = -(N1 : Int) := rfl
    rw [hs]
    by_cases hf : (N1 : Int) ≤ 9223372036854775808 ∧ (D1 : Int) ≤ 9223372036854775807
    · have e : (fitB (-(N1 : Int)) && fitB (D1 : Int)) = true := by simp [fitB]; omega
      rw [if_pos e]
      have a1 : (N1 : Int) / 18446744073709551616 = 0 := by omega
      have a2 : (N1 : Int) % 18446744073709551616 = N1 := by omega
      have a3 : (D1 : Int) / 18446744073709551616 = 0 := by omega
      have a4 : (D1 : Int) % 18446744073709551616 = D1 := by omega
      have a5 : ¬ (9223372036854775808 : Int) < N1 := by omega
      have a6 : ¬ (9223372036854775807 : Int) < D1 := by omega
      have w1 : IntKind.i64.wrap (IntKind.u64.wrap (-(N1 : Int))) = -N1 := by rw [wrap_u64]; unfold IntKind.wrap; simp [IntKind.bits, IntKind.signed]; omega
      have w2 : IntKind.i64.wrap (D1 : Int) = D1 := wI (by omega) (by omega)
      rw [a1, a2] at h2
      rw [a3, a4] at h3
      clear e hf a1 a2 a3 a4 hs
      refine pB Tryz.func129 rfl (by decide) Tryz.ntmps129 (by simp) Tryz.results129 ?_
      repeat' (first
 |refine aK fun K hK=>?_|refine Step.by1 ?_|refine sE (by decide) ?_|refine cz rfl ?_|refine Fork.by2 (fun h=>?_) fun h=>?_
 |((first|refine aR ?_|refine aC (f:=89) rfl rfl (h1) rfl rfl rfl ?_|refine aC (f:=158) rfl rfl (h2) rfl rfl rfl ?_|refine aC (f:=158) rfl rfl (h3) rfl rfl rfl ?_);simp [hdb, wl, a5, a6, w1, w2])
 |(refine Split.by2 (fun h=>?_) (fun h=>?_)<;>(simp [h, hdb, wl, a5, a6, w1, w2]))
 |(apply hK;clear hK K)|refine AWh ‹_› ?_)
      exact retq2ct rfl (by simp) (cE (by simp [RatD.cells, w1, w2]) (by simp))
    · have e : ¬ (fitB (-(N1 : Int)) && fitB (D1 : Int)) = true := by simp [fitB]; omega
      rw [if_neg e]
      rcases (show ¬ (N1 : Int) / 18446744073709551616 = 0 ∨ ((N1 : Int) / 18446744073709551616 = 0 ∧ (9223372036854775808 : Int) < (N1 : Int) % 18446744073709551616) ∨ ((N1 : Int) / 18446744073709551616 = 0 ∧ ¬ (9223372036854775808 : Int) < (N1 : Int) % 18446744073709551616 ∧ ¬ (D1 : Int) / 18446744073709551616 = 0) ∨ ((N1 : Int) / 18446744073709551616 = 0 ∧ ¬ (9223372036854775808 : Int) < (N1 : Int) % 18446744073709551616 ∧ (D1 : Int) / 18446744073709551616 = 0 ∧ (9223372036854775807 : Int) < (D1 : Int) % 18446744073709551616) by omega) with a1 | ⟨a1, a2⟩ | ⟨a1, a2, a3⟩ | ⟨a1, a2, a3, a4⟩
      · clear e hf hs
        refine pB Tryz.func129 rfl (by decide) Tryz.ntmps129 (by simp) Tryz.results129 ?_
        repeat' (first
 |refine aK fun K hK=>?_|refine Step.by1 ?_|refine sE (by decide) ?_|refine cz rfl ?_|refine Fork.by2 (fun h=>?_) fun h=>?_
 |((first|refine aR ?_|refine aC (f:=89) rfl rfl (h1) rfl rfl rfl ?_|refine aC (f:=158) rfl rfl (h2) rfl rfl rfl ?_|refine aC (f:=158) rfl rfl (h3) rfl rfl rfl ?_);simp [hdb, wl, a1])
 |(refine Split.by2 (fun h=>?_) (fun h=>?_)<;>(simp [h, hdb, wl, a1]))
 |(apply hK;clear hK K)|refine AWh ‹_› ?_)
        exact retq2ct rfl (by simp) (cE (by simp [RatD.cells]) (by simp))
      · clear e hf hs
        refine pB Tryz.func129 rfl (by decide) Tryz.ntmps129 (by simp) Tryz.results129 ?_
        repeat' (first
 |refine aK fun K hK=>?_|refine Step.by1 ?_|refine sE (by decide) ?_|refine cz rfl ?_|refine Fork.by2 (fun h=>?_) fun h=>?_
 |((first|refine aR ?_|refine aC (f:=89) rfl rfl (h1) rfl rfl rfl ?_|refine aC (f:=158) rfl rfl (h2) rfl rfl rfl ?_|refine aC (f:=158) rfl rfl (h3) rfl rfl rfl ?_);simp [hdb, wl, a1, a2])
 |(refine Split.by2 (fun h=>?_) (fun h=>?_)<;>(simp [h, hdb, wl, a1, a2]))
 |(apply hK;clear hK K)|refine AWh ‹_› ?_)
        exact retq2ct rfl (by simp) (cE (by simp [RatD.cells]) (by simp))
      · clear e hf hs
        refine pB Tryz.func129 rfl (by decide) Tryz.ntmps129 (by simp) Tryz.results129 ?_
        repeat' (first
 |refine aK fun K hK=>?_|refine Step.by1 ?_|refine sE (by decide) ?_|refine cz rfl ?_|refine Fork.by2 (fun h=>?_) fun h=>?_
 |((first|refine aR ?_|refine aC (f:=89) rfl rfl (h1) rfl rfl rfl ?_|refine aC (f:=158) rfl rfl (h2) rfl rfl rfl ?_|refine aC (f:=158) rfl rfl (h3) rfl rfl rfl ?_);simp [hdb, wl, a1, a2, a3])
 |(refine Split.by2 (fun h=>?_) (fun h=>?_)<;>(simp [h, hdb, wl, a1, a2, a3]))
 |(apply hK;clear hK K)|refine AWh ‹_› ?_)
        exact retq2ct rfl (by simp) (cE (by simp [RatD.cells]) (by simp))
      · clear e hf hs
        refine pB Tryz.func129 rfl (by decide) Tryz.ntmps129 (by simp) Tryz.results129 ?_
        repeat' (first
 |refine aK fun K hK=>?_|refine Step.by1 ?_|refine sE (by decide) ?_|refine cz rfl ?_|refine Fork.by2 (fun h=>?_) fun h=>?_
 |((first|refine aR ?_|refine aC (f:=89) rfl rfl (h1) rfl rfl rfl ?_|refine aC (f:=158) rfl rfl (h2) rfl rfl rfl ?_|refine aC (f:=158) rfl rfl (h3) rfl rfl rfl ?_);simp [hdb, wl, a1, a2, a3, a4])
 |(refine Split.by2 (fun h=>?_) (fun h=>?_)<;>(simp [h, hdb, wl, a1, a2, a3, a4]))
 |(apply hK;clear hK K)|refine AWh ‹_› ?_)
        exact retq2ct rfl (by simp) (cE (by simp [RatD.cells]) (by simp))
theorem r_RightQ (r : RatD) (hr : r.ok) : PC 32 [.agg r.cells] (.bool (rightQ r)) := by
  by_cases h0 : 1 ≤ r.den
  · have h1 := r_size r.num hr.1
    have h2 := r_common r.num.natAbs r.den.natAbs (by have := hr.1.1; have := hr.1.2; omega) (by have := hr.2.2; omega)
    obtain ⟨⟨b1, b2⟩, b3, b4⟩ := hr
    have hq : rightQ r = decide (Nat.gcd r.num.natAbs r.den.natAbs = 1) := by simp [rightQ, h0]
    have hlt : 0 < r.den := by omega
    have e1 : (r.num.natAbs : Int) / 18446744073709551616 = 0 := by omega
    have e2 : (r.num.natAbs : Int) % 18446744073709551616 = r.num.natAbs := by omega
    have e3 : (r.den.natAbs : Int) / 18446744073709551616 = 0 := by omega
    have e4 : (r.den.natAbs : Int) % 18446744073709551616 = r.den := by omega
    have e5 : IntKind.u64.wrap r.den = r.den := by rw [wrap_u64]; omega
    have hg : Nat.gcd r.num.natAbs r.den.natAbs ≤ r.den.natAbs := Nat.gcd_le_right _ (by omega)
    rw [hq]
    simp only [wV, wC, e1, e2, e3, e4] at h2
    have hgb : decide (Nat.gcd r.num.natAbs r.den.natAbs = 1) = (decide (((Nat.gcd r.num.natAbs r.den.natAbs : Nat) : Int) / 18446744073709551616 = 0) && decide (((Nat.gcd r.num.natAbs r.den.natAbs : Nat) : Int) % 18446744073709551616 = 1)) := by
      rw [← Bool.decide_and, decide_eq_decide]; omega
    rw [hgb]
    clear hgb hg hq e1 e2 e3 e4
    generalize Nat.gcd r.num.natAbs r.den.natAbs = g at *
    generalize (r.num.natAbs : Int) = m at *
    obtain ⟨n, d⟩ := r
    simp only [RatD.cells] at *
    refine pB Tryz.func32 rfl (by decide) Tryz.ntmps32 (by simp) Tryz.results32 ?_
    repeat' (first
 |refine aK fun K hK=>?_|refine Step.by1 ?_|refine sE (by decide) ?_|refine cz rfl ?_|refine Fork.by2 (fun h=>?_) fun h=>?_
 |((first|refine aR ?_|refine aX (id:=1) 16 mixed (by decide) ?_|refine aP1 (f:=90) rfl rfl (h1) rfl rfl rfl ?_|refine aP1 (f:=89) rfl rfl (h2) rfl rfl rfl ?_);simp [hlt, e5])
 |(refine Split.by2 (fun h=>?_) (fun h=>?_)<;>(simp [h, hlt, e5]))
 |(apply hK;clear hK K)|refine AWh ‹_› ?_)
    exact r1q (cE (by simp) rfl)
  · have hq : rightQ r = false := by simp [rightQ, h0]
    have hlt : ¬ 0 < r.den := by omega
    rw [hq]
    obtain ⟨n, d⟩ := r
    simp only [RatD.cells] at *
    refine pB Tryz.func32 rfl (by decide) Tryz.ntmps32 (by simp) Tryz.results32 ?_
    repeat' (first
 |refine aK fun K hK=>?_|refine Step.by1 ?_|refine sE (by decide) ?_|refine cz rfl ?_|refine Fork.by2 (fun h=>?_) fun h=>?_
 |((first|refine aR ?_|refine aX (id:=1) 16 mixed (by decide) ?_);simp [hlt])
 |(refine Split.by2 (fun h=>?_) (fun h=>?_)<;>(simp [h, hlt]))
 |(apply hK;clear hK K)|refine AWh ‹_› ?_)
    exact r1q (cE rfl rfl)
theorem prod_signed {x d : Int} (hd : 0 < d) : x * d = signed (decide (x < 0)) (x.natAbs * d.natAbs) := by
  have e : (d.natAbs : Int) = d := by omega
  unfold signed
  rw [Int.natCast_mul, e]
  by_cases h : x < 0
  · have e2 : (x.natAbs : Int) = -x := by omega
    rw [if_pos (by simpa using h), e2, Int.neg_mul, Int.neg_neg]
  · have e2 : (x.natAbs : Int) = x := by omega
    rw [if_neg (by simpa using h), e2]
theorem prod_nat {x y : Int} (hx : I64 x) (hy : I64 y) : x.natAbs * y.natAbs ≤ 85070591730234615865843651857942052864 := by
  obtain ⟨h1, h2⟩ := hx
  obtain ⟨h3, h4⟩ := hy
  have := Nat.mul_le_mul (show x.natAbs ≤ 9223372036854775808 by omega) (show y.natAbs ≤ 9223372036854775808 by omega)
  omega
set_option maxRecDepth 20000 in
set_option maxHeartbeats 8000000 in
theorem r_sumQ (a b : RatD) (ha : a.ok) (hb : b.ok) (ha1 : 0 < a.den) (hb1 : 0 < b.den) : PC 61 [.agg a.cells, .agg b.cells]
    (.tup [.agg (lowE (a.num * b.den + b.num * a.den) (a.den * b.den).natAbs).1.cells, .int .i64 (lowE (a.num * b.den + b.num * a.den) (a.den * b.den).natAbs).2]) := by
  have s1 := r_size a.num ha.1
  have s2 := r_size b.num hb.1
  have wa : IntKind.u64.wrap a.den = (a.den.natAbs : Int) := by have := ha.2.2; rw [wrap_u64]; omega
  have wb : IntKind.u64.wrap b.den = (b.den.natAbs : Int) := by have := hb.2.2; rw [wrap_u64]; omega
  have x1 := ha.1.1; have x2 := ha.1.2; have x3 := hb.1.1; have x4 := hb.1.2
  have x5 := ha.2.2; have x6 := hb.2.2
  have m1 := r_mul a.num.natAbs b.den.natAbs (by omega) (by omega)
  have m2 := r_mul b.num.natAbs a.den.natAbs (by omega) (by omega)
  have m3 := r_mul a.den.natAbs b.den.natAbs (by omega) (by omega)
  have p1 := prod_nat ha.1 hb.2
  have p2 := prod_nat hb.1 ha.2
  have p3 := prod_nat ha.2 hb.2
  have p4 : 0 < a.den.natAbs * b.den.natAbs := Nat.mul_pos (by omega) (by omega)
  rw [prod_signed hb1, prod_signed ha1, Int.natAbs_mul]
  clear x1 x2 x3 x4 x5 x6 ha hb ha1 hb1
  obtain ⟨an, ad⟩ := a
  obtain ⟨bn, bd⟩ := b
  simp only [RatD.cells] at *
  generalize an.natAbs * bd.natAbs = X at *
  generalize bn.natAbs * ad.natAbs = Y at *
  generalize ad.natAbs * bd.natAbs = D at *
  have h1 := r_plus X Y (by omega)
  have h2 := r_below X Y
  have h3 := fun h : X ≤ Y => r_minus Y X h (by omega)
  have h4 := fun h : Y ≤ X => r_minus X Y h (by omega)
  generalize (an.natAbs : Int) = a1 at *
  generalize (bn.natAbs : Int) = b1 at *
  generalize (ad.natAbs : Int) = a2 at *
  generalize (bd.natAbs : Int) = b2 at *
  generalize hsa : decide (an < 0) = sa at *
  generalize hsb : decide (bn < 0) = sb at *
  have hge : decide (0 ≤ an) = !sa := by rw [← hsa, ← decide_not, decide_eq_decide]; omega
  by_cases hs : sa = sb
  · subst hs
    have h5 := r_held sa (X + Y) D (by omega) p4 (by omega)
    have e : signed sa X + signed sa Y = signed sa (X + Y) := by unfold signed; split <;> omega
    rw [e]
    generalize lowE (signed sa (X + Y)) D = p at *
    obtain ⟨⟨pn, pd⟩, pe⟩ := p
    simp only [wV, wC, RatD.cells] at *
    clear hge
    cases sa
    all_goals
      refine pB Tryz.func61 rfl (by decide) Tryz.ntmps61 (by simp) Tryz.results61 ?_
      repeat' (first
 |refine aK fun K hK=>?_|refine Step.by1 ?_|refine sE (by decide) ?_|refine cz rfl ?_|refine Fork.by2 (fun h=>?_) fun h=>?_
 |((first|refine aR ?_|refine aC (f:=91) rfl rfl (m3) rfl rfl rfl ?_|refine aX (id:=5) 10 mixed (by decide) ?_|refine aP1 (f:=130) rfl rfl (h1) rfl rfl rfl ?_|refine aP1 (f:=129) rfl rfl (h5) rfl rfl rfl ?_);simp [wa, wb, hsa, hsb])
 |(refine Split.by2 (fun h=>?_) (fun h=>?_)<;>(simp [h, wa, wb, hsa, hsb]))
 | (refine AW_region_APA (id := 1) 8 7 [.int .u64 0, .int .u64 0] mixed (by decide) (by decide) ?_; simp [wa, wb, hsa, hsb])
 | (refine APA_nil ?_; simp [wa, wb, hsa, hsb])
 | (refine APA_alloc (by rfl) rfl ?_; simp [wa, wb, hsa, hsb])
 | (refine APA_still (by decide) rfl rfl (by simp [wa, wb, hsa, hsb]) (by simp [Op.operands, Call.operands, wa, wb, hsa, hsb]) ?_; simp [wa, wb, hsa, hsb])
 | (refine AW_region_APA (id := 2) 8 7 [.int .u64 0, .int .u64 0] mixed (by decide) (by decide) ?_; simp [wa, wb, hsa, hsb])
 | (refine APA_nil ?_; simp [wa, wb, hsa, hsb])
 | (refine APA_alloc (by rfl) rfl ?_; simp [wa, wb, hsa, hsb])
 | (refine APA_still (by decide) rfl rfl (by simp [wa, wb, hsa, hsb]) (by simp [Op.operands, Call.operands, wa, wb, hsa, hsb]) ?_; simp [wa, wb, hsa, hsb])
 | (refine APA_call (f := 90) (by decide) rfl rfl (s1) rfl rfl rfl (by simp [Op.operands, Call.operands, wa, wb, hsa, hsb]) ?_; simp [wa, wb, hsa, hsb])
 | (refine APA_call (f := 90) (by decide) rfl rfl (s2) rfl rfl rfl (by simp [Op.operands, Call.operands, wa, wb, hsa, hsb]) ?_; simp [wa, wb, hsa, hsb])
 | (refine APA_call (f := 91) (by decide) rfl rfl (m1) rfl rfl rfl (by simp [Op.operands, Call.operands, wa, wb, hsa, hsb]) ?_; simp [wa, wb, hsa, hsb])
 | (refine APA_call (f := 91) (by decide) rfl rfl (m2) rfl rfl rfl (by simp [Op.operands, Call.operands, wa, wb, hsa, hsb]) ?_; simp [wa, wb, hsa, hsb])
 |(apply hK;clear hK K)|refine AWh ‹_› ?_)
      exact retq2ct rfl (by simp) (cE (by simp) (by simp))
  · have hsb2 : sb = !sa := by revert hs; cases sa <;> cases sb <;> simp
    subst hsb2
    by_cases hxy : X < Y
    · have h3 := h3 (by omega)
      have h5 := r_held (!sa) (Y - X) D (by omega) p4 (by omega)
      have e : signed sa X + signed (!sa) Y = signed (!sa) (Y - X) := by unfold signed; cases sa <;> simp <;> omega
      rw [e]
      generalize lowE (signed (!sa) (Y - X)) D = p at *
      obtain ⟨⟨pn, pd⟩, pe⟩ := p
      rw [decide_eq_true hxy] at h2
      simp only [wV, wC, RatD.cells] at *
      cases sa
      all_goals
        refine pB Tryz.func61 rfl (by decide) Tryz.ntmps61 (by simp) Tryz.results61 ?_
        repeat' (first
 |refine aK fun K hK=>?_|refine Step.by1 ?_|refine sE (by decide) ?_|refine cz rfl ?_|refine Fork.by2 (fun h=>?_) fun h=>?_
 |((first|refine aR ?_|refine aC (f:=91) rfl rfl (m3) rfl rfl rfl ?_|refine aC (f:=92) rfl rfl (h2) rfl rfl rfl ?_|refine aX (id:=7) 10 mixed (by decide) ?_|refine aP1 (f:=131) rfl rfl (h3) rfl rfl rfl ?_|refine aP1 (f:=129) rfl rfl (h5) rfl rfl rfl ?_);simp [wa, wb, hsa, hsb])
 |(refine Split.by2 (fun h=>?_) (fun h=>?_)<;>(simp [h, wa, wb, hsa, hsb]))
 | (refine AW_region_APA (id := 1) 8 7 [.int .u64 0, .int .u64 0] mixed (by decide) (by decide) ?_; simp [wa, wb, hsa, hsb])
 | (refine APA_nil ?_; simp [wa, wb, hsa, hsb])
 | (refine APA_alloc (by rfl) rfl ?_; simp [wa, wb, hsa, hsb])
 | (refine APA_still (by decide) rfl rfl (by simp [wa, wb, hsa, hsb]) (by simp [Op.operands, Call.operands, wa, wb, hsa, hsb]) ?_; simp [wa, wb, hsa, hsb])
 | (refine AW_region_APA (id := 2) 8 7 [.int .u64 0, .int .u64 0] mixed (by decide) (by decide) ?_; simp [wa, wb, hsa, hsb])
 | (refine APA_nil ?_; simp [wa, wb, hsa, hsb])
 | (refine APA_alloc (by rfl) rfl ?_; simp [wa, wb, hsa, hsb])
 | (refine APA_still (by decide) rfl rfl (by simp [wa, wb, hsa, hsb]) (by simp [Op.operands, Call.operands, wa, wb, hsa, hsb]) ?_; simp [wa, wb, hsa, hsb])
 | (refine APA_call (f := 90) (by decide) rfl rfl (s1) rfl rfl rfl (by simp [Op.operands, Call.operands, wa, wb, hsa, hsb]) ?_; simp [wa, wb, hsa, hsb])
 | (refine APA_call (f := 90) (by decide) rfl rfl (s2) rfl rfl rfl (by simp [Op.operands, Call.operands, wa, wb, hsa, hsb]) ?_; simp [wa, wb, hsa, hsb])
 | (refine APA_call (f := 91) (by decide) rfl rfl (m1) rfl rfl rfl (by simp [Op.operands, Call.operands, wa, wb, hsa, hsb]) ?_; simp [wa, wb, hsa, hsb])
 | (refine APA_call (f := 91) (by decide) rfl rfl (m2) rfl rfl rfl (by simp [Op.operands, Call.operands, wa, wb, hsa, hsb]) ?_; simp [wa, wb, hsa, hsb])
 |(apply hK;clear hK K)|refine AWh ‹_› ?_)
        exact retq2ct rfl (by simp) (cE (by simp) (by simp))
    · have h4 := h4 (by omega)
      have h5 := r_held sa (X - Y) D (by omega) p4 (by omega)
      have e : signed sa X + signed (!sa) Y = signed sa (X - Y) := by unfold signed; cases sa <;> simp <;> omega
      rw [e]
      generalize lowE (signed sa (X - Y)) D = p at *
      obtain ⟨⟨pn, pd⟩, pe⟩ := p
      rw [decide_eq_false hxy] at h2
      simp only [wV, wC, RatD.cells] at *
      cases sa
      all_goals
        refine pB Tryz.func61 rfl (by decide) Tryz.ntmps61 (by simp) Tryz.results61 ?_
        repeat' (first
 |refine aK fun K hK=>?_|refine Step.by1 ?_|refine sE (by decide) ?_|refine cz rfl ?_|refine Fork.by2 (fun h=>?_) fun h=>?_
 |((first|refine aR ?_|refine aC (f:=91) rfl rfl (m3) rfl rfl rfl ?_|refine aC (f:=92) rfl rfl (h2) rfl rfl rfl ?_|refine aX (id:=8) 10 mixed (by decide) ?_|refine aP1 (f:=131) rfl rfl (h4) rfl rfl rfl ?_|refine aP1 (f:=129) rfl rfl (h5) rfl rfl rfl ?_);simp [wa, wb, hsa, hsb])
 |(refine Split.by2 (fun h=>?_) (fun h=>?_)<;>(simp [h, wa, wb, hsa, hsb]))
 | (refine AW_region_APA (id := 1) 8 7 [.int .u64 0, .int .u64 0] mixed (by decide) (by decide) ?_; simp [wa, wb, hsa, hsb])
 | (refine APA_nil ?_; simp [wa, wb, hsa, hsb])
 | (refine APA_alloc (by rfl) rfl ?_; simp [wa, wb, hsa, hsb])
 | (refine APA_still (by decide) rfl rfl (by simp [wa, wb, hsa, hsb]) (by simp [Op.operands, Call.operands, wa, wb, hsa, hsb]) ?_; simp [wa, wb, hsa, hsb])
 | (refine AW_region_APA (id := 2) 8 7 [.int .u64 0, .int .u64 0] mixed (by decide) (by decide) ?_; simp [wa, wb, hsa, hsb])
 | (refine APA_nil ?_; simp [wa, wb, hsa, hsb])
 | (refine APA_alloc (by rfl) rfl ?_; simp [wa, wb, hsa, hsb])
 | (refine APA_still (by decide) rfl rfl (by simp [wa, wb, hsa, hsb]) (by simp [Op.operands, Call.operands, wa, wb, hsa, hsb]) ?_; simp [wa, wb, hsa, hsb])
 | (refine APA_call (f := 90) (by decide) rfl rfl (s1) rfl rfl rfl (by simp [Op.operands, Call.operands, wa, wb, hsa, hsb]) ?_; simp [wa, wb, hsa, hsb])
 | (refine APA_call (f := 90) (by decide) rfl rfl (s2) rfl rfl rfl (by simp [Op.operands, Call.operands, wa, wb, hsa, hsb]) ?_; simp [wa, wb, hsa, hsb])
 | (refine APA_call (f := 91) (by decide) rfl rfl (m1) rfl rfl rfl (by simp [Op.operands, Call.operands, wa, wb, hsa, hsb]) ?_; simp [wa, wb, hsa, hsb])
 | (refine APA_call (f := 91) (by decide) rfl rfl (m2) rfl rfl rfl (by simp [Op.operands, Call.operands, wa, wb, hsa, hsb]) ?_; simp [wa, wb, hsa, hsb])
 |(apply hK;clear hK K)|refine AWh ‹_› ?_)
        exact retq2ct rfl (by simp) (cE (by simp) (by simp))
set_option maxHeartbeats 4000000 in
theorem r_AddQ (a b : RatD) (ha : a.ok) (hb : b.ok) : PC 23 [.agg a.cells, .agg b.cells] (.tup [.agg (addQ a b).1.cells, .int .i64 (addQ a b).2]) := by
  have h1 := r_RightQ a ha
  have h2 := r_RightQ b hb
  by_cases h : (rightQ a && rightQ b) = true
  · have e : addQ a b = lowE (a.num * b.den + b.num * a.den) (a.den * b.den).natAbs := by unfold addQ; rw [if_pos h]
    rw [e]
    have h0 := h
    simp only [Bool.and_eq_true, rightQ, decide_eq_true_eq] at h0
    have h3 := r_sumQ a b ha hb (by omega) (by omega)
    rw [Bool.and_eq_true] at h
    rw [h.1] at h1
    rw [h.2] at h2
    clear h0 h e
    generalize lowE (a.num * b.den + b.num * a.den) (a.den * b.den).natAbs = p at *
    obtain ⟨⟨pn, pd⟩, pe⟩ := p
    simp only [RatD.cells] at *
    refine pB Tryz.func23 rfl (by decide) Tryz.ntmps23 (by simp) Tryz.results23 ?_
    repeat' (first
 |refine aK fun K hK=>?_|refine Step.by1 ?_|refine sE (by decide) ?_|refine cz rfl ?_|refine Fork.by2 (fun h=>?_) fun h=>?_
 |((first|refine aR ?_|refine aC (f:=32) rfl rfl (h1) rfl rfl rfl ?_|refine aC (f:=32) rfl rfl (h2) rfl rfl rfl ?_|refine aC (f:=61) rfl rfl (h3) rfl rfl rfl ?_|refine aP1 (f:=61) rfl rfl (h3) rfl rfl rfl ?_);simp)
 |(refine Split.by2 (fun h=>?_) (fun h=>?_)<;>(simp [h]))
 |(apply hK;clear hK K)|refine AWh ‹_› ?_)
    exact retq2ct rfl (by simp) (cE (by simp) (by simp))
  · have e : addQ a b = (⟨0, 0⟩, 7) := by unfold addQ; rw [if_neg h]
    rw [e]
    clear e
    generalize rightQ a = x at *
    generalize rightQ b = y at *
    simp only [RatD.cells] at *
    refine pB Tryz.func23 rfl (by decide) Tryz.ntmps23 (by simp) Tryz.results23 ?_
    cases x <;> cases y <;> simp at h
    all_goals
      repeat' (first
 |refine aK fun K hK=>?_|refine Step.by1 ?_|refine sE (by decide) ?_|refine cz rfl ?_|refine Fork.by2 (fun h=>?_) fun h=>?_
 |((first|refine aR ?_|refine aC (f:=32) rfl rfl (h1) rfl rfl rfl ?_|refine aC (f:=32) rfl rfl (h2) rfl rfl rfl ?_);simp)
 |(refine Split.by2 (fun h=>?_) (fun h=>?_)<;>(simp [h]))
 |(apply hK;clear hK K)|refine AWh ‹_› ?_)
      exact retq2ct rfl (by simp) (cE (by simp) (by simp))
set_option maxHeartbeats 4000000 in
theorem c_turn (c : CfgD) (hc : c.ok) : PC 22 [.agg c.cells] (.agg c.cells) := by
  have hl1 := hc.1.1
  have hl2 := hc.1.2
  have hl3 := hc.2.1
  have hiv : (ivs c.st.locs).length = c.st.locs.length := by simp [ivs]
  have hivv : (ivs c.st.vars).length = c.st.vars.length := by simp [ivs]
  have tk1 : (ivs c.st.locs).take c.st.locs.length = ivs c.st.locs := List.take_of_length_le (by omega)
  have tk2 : (ivs c.st.vars).take c.st.vars.length = ivs c.st.vars := List.take_of_length_le (by omega)
  have tk3 : (c.clocks.map RatD.cells).take c.clocks.length = c.clocks.map RatD.cells := List.take_of_length_le (by simp)
  have hz1 := eq_true (show ∀ z ∈ ivs c.st.locs, z.length = 1 by intro z hz; simp [ivs] at hz; obtain ⟨_, _, rfl⟩ := hz; rfl)
  have hz2 := eq_true (show ∀ z ∈ ivs c.st.vars, z.length = 1 by intro z hz; simp [ivs] at hz; obtain ⟨_, _, rfl⟩ := hz; rfl)
  have hz3 : ∀ z : RatD, z.cells.length = 2 := fun _ => rfl
  have by1 : c.st.locs.length * 8 ≤ 140737488355328 := by omega
  have by2 : c.st.vars.length * 8 ≤ 140737488355328 := by omega
  have by3 : c.clocks.length * 16 ≤ 140737488355328 := by omega
  simp only [CfgD.cells, vl]
  refine pB Tryz.func22 rfl (by decide) Tryz.ntmps22 (by simp) Tryz.results22 ?_
  repeat' (first
 |refine aK fun K hK=>?_|refine Step.by1 ?_|refine sE (by decide) ?_|refine cz rfl ?_|refine Fork.by2 (fun h=>?_) fun h=>?_
 |(refine aR ?_;simp [hiv, hivv, tk1, tk2, tk3, hz1, hz2, hz3, by1, by2, by3])
 |(refine Split.by2 (fun h=>?_) (fun h=>?_)<;>(simp [h, hiv, hivv, tk1, tk2, tk3, hz1, hz2, hz3, by1, by2, by3]))
 |(apply hK;clear hK K)|refine AWh ‹_› ?_)
  refine retqc rfl (by simp) (.inl ⟨3, ?_, rfl⟩)
  simp [frz, hiv, hivv, Go.AM.V.isF]
end Go.Proofs.YtbgooadmonnjaaaGreatDoor
end
