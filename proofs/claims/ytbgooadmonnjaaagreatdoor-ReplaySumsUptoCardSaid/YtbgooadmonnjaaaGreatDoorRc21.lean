/-
  YtbgooadmonnjaaaGreatDoorRc21: steps of the proof of a law of the program: what these texts prove holds under the hypotheses that their theorems name, and no others.
-/
import Derived.Test.YtbgooadmonnjaaaGreatDoorRc11
import Derived.Test.YtbgooadmonnjaaaGreatDoorRc12
import Derived.Test.YtbgooadmonnjaaaGreatDoorRc08
import Derived.Test.YtbgooadmonnjaaaGreatDoorRc20
import Derived.Test.YtbgooadmonnjaaaGreatDoorRc17
import Derived.Test.YtbgooadmonnjaaaGreatDoorRc10
import Derived.Test.YtbgooadmonnjaaaGreatDoorRc18
section
set_option linter.unusedSimpArgs false
set_option linter.unusedVariables false
namespace Go.Proofs.YtbgooadmonnjaaaGreatDoor
open Go Go.AM Fx
def wC (n : Nat) : List V := [.int .u64 ((n : Int) / 18446744073709551616), .int .u64 ((n : Int) % 18446744073709551616)]
def wV (n : Nat) : V := .agg (wC n)
def cmpN (a b : Nat) : Int := if a < b then -1 else if a = b then 0 else 1
theorem c_isNaN (a : Int) : PC 272 [.int .u64 a] (.bool false) := by
  refine pB Tryz.func272 rfl (by decide) Tryz.ntmps272 (by simp) Tryz.results272 ?_
  repeat' (first
 |refine aK fun K hK=>?_|refine Step.by1 ?_|refine sE (by decide) ?_|refine cz rfl ?_|refine Fork.by2 (fun h=>?_) fun h=>?_
 |(refine aR ?_;simp)
 |(refine Split.by2 (fun h=>?_) (fun h=>?_)<;>(simp [h]))
 |(apply hK;clear hK K)|refine AWh ‹_› ?_)
  exact r1q (cE rfl rfl)
theorem c_cmp64 (a b : Int) : PC 257 [.int .u64 a, .int .u64 b] (.int .i64 (if a < b then -1 else if b < a then 1 else 0)) := by
  have h1 := c_isNaN a
  have h2 := c_isNaN b
  refine pB Tryz.func257 rfl (by decide) Tryz.ntmps257 (by simp) Tryz.results257 ?_
  repeat' (first
 |refine aK fun K hK=>?_|refine Step.by1 ?_|refine sE (by decide) ?_|refine cz rfl ?_|refine Fork.by2 (fun h=>?_) fun h=>?_
 |((first|refine aR ?_|refine aC (f:=272) rfl rfl (h1) rfl rfl rfl ?_|refine aC (f:=272) rfl rfl (h2) rfl rfl rfl ?_);simp)
 |(refine Split.by2 (fun h=>?_) (fun h=>?_)<;>(simp [h]))
 |(apply hK;clear hK K)|refine AWh ‹_› ?_)
  all_goals exact r1q (cE (by simp [*]) rfl)
def firstNZ : List Int → Int
  | [] => 0
  | x :: r => if x ≠ 0 then x else firstNZ r
theorem firstNZ_nil : firstNZ [] = 0 := rfl
theorem firstNZ_cons {x : Int} {r : List Int} : firstNZ (x :: r) = if x ≠ 0 then x else firstNZ r := rfl
theorem c_OrI (l : List Int) (hl : l.length ≤ 1099511627776) : PC 256 [.vec (l.map fun k => [V.int .i64 k]) l.length] (.int .i64 (firstNZ l)) := by
  obtain ⟨E, hE⟩ : ∃ E, firstNZ l = E := ⟨_, rfl⟩
  rw [hE]
  refine pB Tryz.func256 rfl (by decide) Tryz.ntmps256 (by simp) Tryz.results256 ?_
  repeat' (first
 |refine aK fun K hK=>?_|refine Step.by1 ?_|refine sE (by decide) ?_|refine cz rfl ?_|refine Fork.by2 (fun h=>?_) fun h=>?_
 |(refine aR ?_;simp)
 |(refine Split.by2 (fun h=>?_) (fun h=>?_)<;>(simp [h]))
 |(apply hK;clear hK K)|refine AWh ‹_› ?_)
  refine aS1 l 8 [3, 6, 7] firstNZ hE (by apply Weak.mk' <;> simp) ?_ ?_
  · intro i x _ hlt hx hF
    rw [firstNZ_cons] at hF
    have hlt' : (i : Int) < l.length := by omega
    have w1 : IntKind.i64.wrap ((i : Int) + 1) = i + 1 := wI (by omega) (by omega)
    by_cases h0 : x = 0
    · rw [if_neg (by simp [h0])] at hF
      repeat' (first
 |refine aK fun K hK=>?_|refine Step.by1 ?_|refine sE (by decide) ?_|refine cz rfl ?_|refine Fork.by2 (fun h=>?_) fun h=>?_
 |(refine aR ?_;simp [hlt, hlt', hx, h0, w1])
 |(refine Split.by2 (fun h=>?_) (fun h=>?_)<;>(simp [h, hlt, hlt', hx, h0, w1]))
 |(apply hK;clear hK K)|refine AWh ‹_› ?_)
      exact ⟨hF, by apply Weak.mk' <;> simp⟩
    · rw [if_pos h0] at hF
      repeat' (first
 |refine aK fun K hK=>?_|refine Step.by1 ?_|refine sE (by decide) ?_|refine cz rfl ?_|refine Fork.by2 (fun h=>?_) fun h=>?_
 |(refine aR ?_;simp [hlt, hlt', hx, h0, w1])
 |(refine Split.by2 (fun h=>?_) (fun h=>?_)<;>(simp [h, hlt, hlt', hx, h0, w1]))
 |(apply hK;clear hK K)|refine AWh ‹_› ?_)
      exact r1q (cE (by simp [hF]) rfl)
  · intro hF
    rw [firstNZ_nil] at hF
    repeat' (first
 |refine aK fun K hK=>?_|refine Step.by1 ?_|refine sE (by decide) ?_|refine cz rfl ?_|refine Fork.by2 (fun h=>?_) fun h=>?_
 |(refine aR ?_;simp)
 |(refine Split.by2 (fun h=>?_) (fun h=>?_)<;>(simp [h]))
 |(apply hK;clear hK K)|refine AWh ‹_› ?_)
    exact r1q (cE (by simp [← hF]) rfl)
theorem c_isZero (n : Nat) : PC 155 [wV n] (.bool (decide (n = 0))) := by
  simp only [wV, wC]
  refine pB Tryz.func155 rfl (by decide) Tryz.ntmps155 (by simp) Tryz.results155 ?_
  repeat' (first
 |refine aK fun K hK=>?_|refine Step.by1 ?_|refine sE (by decide) ?_|refine cz rfl ?_|refine Fork.by2 (fun h=>?_) fun h=>?_
 |(refine aR ?_;simp)
 |(refine Split.by2 (fun h=>?_) (fun h=>?_)<;>(simp [h]))
 |(apply hK;clear hK K)|refine AWh ‹_› ?_)
  · exact r1q (cE (by simp; omega) rfl)
  · exact r1q (cE (by simp; omega) rfl)
theorem c_compare (a b : Nat) : PC 210 [wV a, wV b] (.int .i64 (cmpN a b)) := by
  have h1 := c_cmp64 ((a : Int) / 18446744073709551616) ((b : Int) / 18446744073709551616)
  have h2 := c_cmp64 ((a : Int) % 18446744073709551616) ((b : Int) % 18446744073709551616)
  have h3 : firstNZ [(if (a : Int) / 18446744073709551616 < (b : Int) / 18446744073709551616 then -1 else if (b : Int) / 18446744073709551616 < (a : Int) / 18446744073709551616 then 1 else 0), (if (a : Int) % 18446744073709551616 < (b : Int) % 18446744073709551616 then -1 else if (b : Int) % 18446744073709551616 < (a : Int) % 18446744073709551616 then 1 else 0)] = cmpN a b := by
    simp only [firstNZ_cons, firstNZ_nil, cmpN]
    repeat' split
    all_goals omega
  generalize (if (a : Int) / 18446744073709551616 < (b : Int) / 18446744073709551616 then (-1 : Int) else if (b : Int) / 18446744073709551616 < (a : Int) / 18446744073709551616 then 1 else 0) = u at *
  generalize (if (a : Int) % 18446744073709551616 < (b : Int) % 18446744073709551616 then (-1 : Int) else if (b : Int) % 18446744073709551616 < (a : Int) % 18446744073709551616 then 1 else 0) = v at *
  have h4 := c_OrI [u, v] (by simp)
  rw [h3] at h4
  simp only [List.map_cons, List.map_nil, List.length_cons, List.length_nil] at h4
  simp only [wV, wC]
  refine pB Tryz.func210 rfl (by decide) Tryz.ntmps210 (by simp) Tryz.results210 ?_
  repeat' (first
 |refine aK fun K hK=>?_|refine Step.by1 ?_|refine sE (by decide) ?_|refine cz rfl ?_|refine Fork.by2 (fun h=>?_) fun h=>?_
 |((first|refine aR ?_|refine aX (id:=1) 12 mixed (by decide) ?_|refine aP1 (f:=257) rfl rfl (h1) rfl rfl rfl ?_|refine aP1 (f:=257) rfl rfl (h2) rfl rfl rfl ?_|refine aP1 (f:=256) rfl rfl (h4) rfl rfl rfl ?_);simp)
 |(refine Split.by2 (fun h=>?_) (fun h=>?_)<;>(simp [h]))
 |(refine AP_lit rfl (by simp) ?_;simp)
 |(apply hK;clear hK K)|refine AWh ‹_› ?_)
  exact r1q (cE rfl rfl)
theorem c_plus (a b : Nat) (h : a + b < 340282366920938463463374607431768211456) : PC 209 [wV a, wV b] (wV (a + b)) := by
  simp only [wV, wC]
  refine pB Tryz.func209 rfl (by decide) Tryz.ntmps209 (by simp) Tryz.results209 ?_
  repeat' (first
 |refine aK fun K hK=>?_|refine Step.by1 ?_|refine sE (by decide) ?_|refine cz rfl ?_|refine Fork.by2 (fun h=>?_) fun h=>?_
 |(refine aR ?_;simp)
 |(refine Split.by2 (fun h=>?_) (fun h=>?_)<;>(simp [h]))
 |(refine AS_op1 rfl (S_add64 (f := 193) rfl rfl rfl rfl Tryz.func193 rfl rfl (by kernel_rfl) (by kernel_rfl) (by omega) (by omega) (by omega) (by omega)) ?_; simp)
 |(apply hK;clear hK K)|refine AWh ‹_› ?_)
  exact retqc rfl (by simp) (cE (by simp; omega) (by simp))
theorem c_less (a b : Nat) (h : b ≤ a) (ha : a < 340282366920938463463374607431768211456) : PC 211 [wV a, wV b] (wV (a - b)) := by
  simp only [wV, wC]
  have hb1 : 0 ≤ bor ((a : Int) % 18446744073709551616) ((b : Int) % 18446744073709551616) 0 ∧ bor ((a : Int) % 18446744073709551616) ((b : Int) % 18446744073709551616) 0 ≤ 1 := by unfold bor; split <;> omega
  have hb2 : bor ((a : Int) % 18446744073709551616) ((b : Int) % 18446744073709551616) 0 = if (a : Int) % 18446744073709551616 < (b : Int) % 18446744073709551616 then 1 else 0 := by unfold bor; rw [Int.add_zero]
  generalize hB : bor ((a : Int) % 18446744073709551616) ((b : Int) % 18446744073709551616) 0 = B at *
  refine pB Tryz.func211 rfl (by decide) Tryz.ntmps211 (by simp) Tryz.results211 ?_
  repeat' (first
 |refine aK fun K hK=>?_|refine Step.by1 ?_|refine sE (by decide) ?_|refine cz rfl ?_|refine Fork.by2 (fun h=>?_) fun h=>?_
 |(refine aR ?_;simp)
 |(refine Split.by2 (fun h=>?_) (fun h=>?_)<;>(simp [h]))
 |(refine AS_op1 rfl (S_sub64I (f := 194) rfl rfl rfl rfl Tryz.func194 rfl rfl (by kernel_rfl) (by kernel_rfl) (by omega) (by omega) (by omega)) ?_; simp [hB])
 |(apply hK;clear hK K)|refine AWh ‹_› ?_)
  exact retqc rfl (by simp) (cE (by simp; split at hb2 <;> omega) (by simp))
theorem retqcc {P : Program} {st : St} {t u : Nat} {T U : TypeId} {cs cs2 : List V} {off off2 : Nat} {r : V} (hp : place st.h (lk st.tm t) = some (cs, off)) (ho : loadOk P T cs off) (hp2 : place st.h (lk st.tm u) = some (cs2, off2)) (ho2 : loadOk P U cs2 off2) (hc : Conv st.h (.tup [loadV P T cs off, loadV P U cs2 off2]) r) : RetQ P #[.cell t T, .cell u U] r .ret st :=
  ⟨.inr rfl, _, ⟨[loadV P T cs off, loadV P U cs2 off2], rfl, ⟨cs, off, hp, ho, rfl⟩, ⟨cs2, off2, hp2, ho2, rfl⟩, trivial⟩, hc⟩
def ovH (s t k : Nat) : List B := [.var (wC s), .var (wC t), .var [.int .u64 0, .int .u64 0], .var [.int .u64 0, .int .u64 0], .var (wC (2 ^ k * (s / 2 ^ k / t))), .var (wC (s / 2 ^ k % t))]
set_option maxHeartbeats 8000000 in
theorem c_over (s t : Nat) (hs : s < 340282366920938463463374607431768211456) (ht : 0 < t) (ht2 : t ≤ 170141183460469231731687303715884105728) : PC 166 [wV s, wV t] (.tup [wV (s / t), wV (s % t)]) := by
  have h128 : s / 2 ^ 128 = 0 := Nat.div_eq_of_lt (by omega)
  simp only [wV]
  refine pB Tryz.func166 rfl (by decide) Tryz.ntmps166 (by simp) Tryz.results166 ?_
  repeat' (first
 |refine aK fun K hK=>?_|refine Step.by1 ?_|refine sE (by decide) ?_|refine cz rfl ?_|refine Fork.by2 (fun h=>?_) fun h=>?_
 |(refine aR ?_;simp [wC])
 |(refine Split.by2 (fun h=>?_) (fun h=>?_)<;>(simp [h, wC]))
 |(apply hK;clear hK K)|refine AWh ‹_› ?_)
  refine aL [2, 3, 4, 5, 6, 7] (fun k : Nat => [(8, .int .i64 ((k : Int) - 1))]) (fun k => ovH s t k) (fun k => k ≤ 128) (fun k => k) 128 (Nat.le_refl _) (by apply Weak.mk' <;> simp [ovH, wC, h128]) (fun _ _ => rfl) ?_
  intro k hk
  by_cases h0 : k = 0
  · subst h0
    clear h128
    repeat' (first
 |refine aK fun K hK=>?_|refine Step.by1 ?_|refine sE (by decide) ?_|refine cz rfl ?_|refine Fork.by2 (fun h=>?_) fun h=>?_
 |(refine aR ?_;simp [ovH, wC])
 |(refine Split.by2 (fun h=>?_) (fun h=>?_)<;>(simp [h, ovH, wC]))
 |(apply hK;clear hK K)|refine AWh ‹_› ?_)
    refine AW_region_chain 4 5 [0, 1] (fun H => H[4]? = some (.var [.int .u64 ((s : Int) / t / 18446744073709551616), .int .u64 ((s : Int) / t % 18446744073709551616)]) ∧ H[5]? = some (.var [.int .u64 ((s : Int) % t / 18446744073709551616), .int .u64 ((s : Int) % t % 18446744073709551616)])) mixed (by decide) (by decide) rfl ⟨rfl, rfl⟩ ?_
    simp only [List.take_succ_cons, List.take_zero]
    refine PX_op (v := .agg [.int .u64 ((s : Int) / t / 18446744073709551616), .int .u64 ((s : Int) / t % 18446744073709551616)]) rfl rfl rfl rfl (fun H hs => by simp [hs.1]) ?_
    refine PX_op (v := .agg [.int .u64 ((s : Int) % t / 18446744073709551616), .int .u64 ((s : Int) % t % 18446744073709551616)]) rfl rfl rfl rfl (fun H hs => by simp [hs.2]) ?_
    refine PX_skip rfl ?_
    refine PX_skip rfl ?_
    refine PX_nil ?_
    refine Ch_1 2 (by decide) (by decide) ?_
    refine ChS_op rfl rfl rfl rfl (by simp) rfl (by simp) ?_
    refine Ch_1 3 (by decide) (by decide) ?_
    refine ChS_op rfl rfl rfl rfl (by simp) rfl (by simp) ?_
    refine Ch_end (by decide) ?_
    simp
    refine AS_nil ?_
    apply hK
    repeat' (first
 |refine aK fun K hK=>?_|refine Step.by1 ?_|refine sE (by decide) ?_|refine cz rfl ?_|refine Fork.by2 (fun h=>?_) fun h=>?_
 |(refine aR ?_;simp)
 |(refine Split.by2 (fun h=>?_) (fun h=>?_)<;>(simp [h]))
 |(apply hK;clear hK K)|refine AWh ‹_› ?_)
    exact retqcc (cs := [.int .u64 ((s : Int) / t / 18446744073709551616), .int .u64 ((s : Int) / t % 18446744073709551616)]) (off := 0) (cs2 := [.int .u64 ((s : Int) % t / 18446744073709551616), .int .u64 ((s : Int) % t % 18446744073709551616)]) (off2 := 0) rfl (by simp) rfl (by simp) (cE (by simp [wC]) (by simp))
  · obtain ⟨j, rfl⟩ : ∃ j, k = j + 1 := ⟨k - 1, by omega⟩
    have hdiv := div_step (s := s / 2 ^ (j + 1)) (b := s / 2 ^ j % 2) ht (Nat.mod_lt _ (by omega))
    have hbt : s / 2 ^ j % 2 < 2 := Nat.mod_lt _ (by omega)
    rw [← half_bit] at hdiv
    have hr := Nat.mod_lt (s / 2 ^ (j + 1)) ht
    have hqs : 2 ^ (j + 1) * (s / 2 ^ (j + 1) / t) ≤ s := Nat.le_trans (Nat.mul_le_mul_left _ (Nat.div_le_self _ _)) (Nat.mul_div_le _ _)
    have one1 : ∀ x : Int, 1 * x = x := Int.one_mul
    have b1 := fun h : j < 64 => bit_low (s := s) h
    have b2 := fun h : 64 ≤ j => bit_high (s := s) h (by omega) hs
    have q1 := fun h : j < 64 => q_low (q := s / 2 ^ (j + 1) / t) h (by omega)
    have q2 := fun h : 64 ≤ j => q_high (q := s / 2 ^ (j + 1) / t) h (by omega) (by omega)
    have hpow : (2 : Nat) ^ (j + 1) = 2 ^ j * 2 := Nat.pow_succ 2 j
    have hq2 : 2 ^ j * (s / 2 ^ j / t) = if t ≤ 2 * (s / 2 ^ (j + 1) % t) + s / 2 ^ j % 2 then 2 ^ (j + 1) * (s / 2 ^ (j + 1) / t) + 2 ^ j else 2 ^ (j + 1) * (s / 2 ^ (j + 1) / t) := by
      rw [hdiv.1, Nat.mul_add, ← Nat.mul_assoc, ← hpow]
      split <;> simp
    have hr2 := hdiv.2
    have hH : ovH s t (j + 1) = [.var (wC s), .var (wC t), .var [.int .u64 0, .int .u64 0], .var [.int .u64 0, .int .u64 0], .var (wC (2 ^ (j + 1) * (s / 2 ^ (j + 1) / t))), .var (wC (s / 2 ^ (j + 1) % t))] := rfl
    have hH2 : ovH s t j = [.var (wC s), .var (wC t), .var [.int .u64 0, .int .u64 0], .var [.int .u64 0, .int .u64 0], .var (wC (2 ^ j * (s / 2 ^ j / t))), .var (wC (s / 2 ^ j % t))] := rfl
    rw [hq2, hr2] at hH2
    rw [hH]
    clear hdiv hq2 hr2 hH h128 hpow
    obtain ⟨e1, x2, e2, e3⟩ := sh_all (r := s / 2 ^ (j + 1) % t) (b := s / 2 ^ j % 2) (by omega) hbt
    generalize s / 2 ^ (j + 1) % t = r at *
    generalize s / 2 ^ j % 2 = bt at *
    generalize 2 ^ (j + 1) * (s / 2 ^ (j + 1) / t) + 2 ^ j = Q2 at *
    generalize 2 ^ (j + 1) * (s / 2 ^ (j + 1) / t) = Q at *
    generalize hR : 2 * r + bt = r2 at *
    have hcc := c_compare r2 t
    have hll := fun h : t ≤ r2 => c_less r2 t h (by omega)
    have w0 : ((j + 1 : Nat) : Int) - 1 = j := by omega
    have j0 : (0 : Int) ≤ j := by omega
    have wm : IntKind.i64.wrap ((j : Int) - 1) = j - 1 := wI (by omega) (by omega)
    simp only [wV] at hcc hll
    by_cases hj : j < 64
    · have b1 := b1 hj
      obtain ⟨q1, q3⟩ := q1 hj
      rw [one1] at q1
      have hj63 : ¬ (63 : Int) < j := by omega
      clear b2 q2
      by_cases hle : t ≤ r2
      · have hll := hll hle
        obtain ⟨u, hu, hu0⟩ : ∃ u, cmpN r2 t = u ∧ 0 ≤ u := ⟨_, rfl, by unfold cmpN; split; omega; split <;> omega⟩
        rw [hu] at hcc
        rw [if_pos hle, if_pos hle] at hH2
        simp only [wC] at hcc hll
        repeat' (first
 |refine aK fun K hK=>?_|refine Step.by1 ?_|refine sE (by decide) ?_|refine cz rfl ?_|refine Fork.by2 (fun h=>?_) fun h=>?_
 |((first|refine aR ?_|refine aC (f:=210) rfl rfl (hcc) rfl rfl rfl ?_|refine aC (f:=211) rfl rfl (hll) rfl rfl rfl ?_|refine aX (id:=14) 6 mixed (by decide) ?_);simp [wC, w0, j0, wm, e1, e2, e3, b1, q1, q3, hj63, hu0])
 |(refine Split.by2 (fun h=>?_) (fun h=>?_)<;>(simp [h, wC, w0, j0, wm, e1, e2, e3, b1, q1, q3, hj63, hu0]))
 |(apply hK;clear hK K)|refine AWh ‹_› ?_)
        refine ⟨j, by omega, by omega, ?_⟩
        rw [hH2]
        apply Weak.mk' <;> simp [wC, q1, q3]
      · obtain ⟨u, hu, hu0⟩ : ∃ u, cmpN r2 t = u ∧ ¬ 0 ≤ u := ⟨_, rfl, by unfold cmpN; rw [if_pos (by omega)]; decide⟩
        rw [hu] at hcc
        rw [if_neg hle, if_neg hle] at hH2
        simp only [wC] at hcc
        repeat' (first
 |refine aK fun K hK=>?_|refine Step.by1 ?_|refine sE (by decide) ?_|refine cz rfl ?_|refine Fork.by2 (fun h=>?_) fun h=>?_
 |((first|refine aR ?_|refine aC (f:=210) rfl rfl (hcc) rfl rfl rfl ?_);simp [wC, w0, j0, wm, e1, e2, e3, b1, hj63, hu0])
 |(refine Split.by2 (fun h=>?_) (fun h=>?_)<;>(simp [h, wC, w0, j0, wm, e1, e2, e3, b1, hj63, hu0]))
 |(apply hK;clear hK K)|refine AWh ‹_› ?_)
        refine ⟨j, by omega, by omega, ?_⟩
        rw [hH2]
        apply Weak.mk' <;> simp [wC]
    · have b2 := b2 (by omega)
      obtain ⟨q2, q3⟩ := q2 (by omega)
      rw [one1] at q2
      have hj63 : (63 : Int) < j := by omega
      have wj : IntKind.i64.wrap ((j : Int) - 64) = ((j - 64 : Nat) : Int) := by rw [wI (by omega) (by omega)]; omega
      have wj0 : (0 : Int) ≤ ((j - 64 : Nat) : Int) := by omega
      have wjn : (((j - 64 : Nat) : Int)).toNat = j - 64 := by omega
      clear b1 q1
      generalize j - 64 = jj at *
      by_cases hle : t ≤ r2
      · have hll := hll hle
        obtain ⟨u, hu, hu0⟩ : ∃ u, cmpN r2 t = u ∧ 0 ≤ u := ⟨_, rfl, by unfold cmpN; split; omega; split <;> omega⟩
        rw [hu] at hcc
        rw [if_pos hle, if_pos hle] at hH2
        simp only [wC] at hcc hll
        repeat' (first
 |refine aK fun K hK=>?_|refine Step.by1 ?_|refine sE (by decide) ?_|refine cz rfl ?_|refine Fork.by2 (fun h=>?_) fun h=>?_
 |((first|refine aR ?_|refine aC (f:=210) rfl rfl (hcc) rfl rfl rfl ?_|refine aC (f:=211) rfl rfl (hll) rfl rfl rfl ?_|refine aX (id:=13) 7 mixed (by decide) ?_);simp [wC, w0, j0, wm, wj, e1, e2, e3, b2, q2, q3, hj63, hu0])
 |(refine Split.by2 (fun h=>?_) (fun h=>?_)<;>(simp [h, wC, w0, j0, wm, wj, e1, e2, e3, b2, q2, q3, hj63, hu0]))
 |(apply hK;clear hK K)|refine AWh ‹_› ?_)
        refine ⟨j, by omega, by omega, ?_⟩
        rw [hH2]
        apply Weak.mk' <;> simp [wC, q2, q3]
      · obtain ⟨u, hu, hu0⟩ : ∃ u, cmpN r2 t = u ∧ ¬ 0 ≤ u := ⟨_, rfl, by unfold cmpN; rw [if_pos (by omega)]; decide⟩
        rw [hu] at hcc
        rw [if_neg hle, if_neg hle] at hH2
        simp only [wC] at hcc
        repeat' (first
 |refine aK fun K hK=>?_|refine Step.by1 ?_|refine sE (by decide) ?_|refine cz rfl ?_|refine Fork.by2 (fun h=>?_) fun h=>?_
 |((first|refine aR ?_|refine aC (f:=210) rfl rfl (hcc) rfl rfl rfl ?_);simp [wC, w0, j0, wm, wj, e1, e2, e3, b2, hj63, hu0])
 |(refine Split.by2 (fun h=>?_) (fun h=>?_)<;>(simp [h, wC, w0, j0, wm, wj, e1, e2, e3, b2, hj63, hu0]))
 |(apply hK;clear hK K)|refine AWh ‹_› ?_)
        refine ⟨j, by omega, by omega, ?_⟩
        rw [hH2]
        apply Weak.mk' <;> simp [wC]
/-- The greatest common divisor. -/
theorem gcd_step {a b : Nat} : Nat.gcd b (a % b) = Nat.gcd a b := by rw [Nat.gcd_comm b (a % b), ← Nat.gcd_rec, Nat.gcd_comm]
theorem c_common (a b : Nat) (ha : a < 340282366920938463463374607431768211456) (hb : b ≤ 170141183460469231731687303715884105728) : PC 165 [wV a, wV b] (wV (Nat.gcd a b)) := by
  obtain ⟨d, hd⟩ : ∃ d, Nat.gcd a b = d := ⟨_, rfl⟩
  rw [hd]
  simp only [wV]
  refine pB Tryz.func165 rfl (by decide) Tryz.ntmps165 (by simp) Tryz.results165 ?_
  repeat' (first
 |refine aK fun K hK=>?_|refine Step.by1 ?_|refine sE (by decide) ?_|refine cz rfl ?_|refine Fork.by2 (fun h=>?_) fun h=>?_
 |(refine aR ?_;simp)
 |(refine Split.by2 (fun h=>?_) (fun h=>?_)<;>(simp [h]))
 |(apply hK;clear hK K)|refine AWh ‹_› ?_)
  refine aL [2, 3, 4] (fun _ : Nat × Nat => []) (fun x => [.var (wC x.1), .var (wC x.2), .var [.int .u64 0, .int .u64 0]]) (fun x => Nat.gcd x.1 x.2 = d ∧ x.1 < 340282366920938463463374607431768211456 ∧ x.2 ≤ 170141183460469231731687303715884105728) (fun x => x.2) (a, b) ⟨hd, ha, hb⟩ (by apply Weak.mk' <;> simp [wC]) (fun _ _ => rfl) ?_
  rintro ⟨x, y⟩ ⟨h1, h2, h3⟩
  simp only at h1 h2 h3
  have hz := c_isZero y
  have ho := fun h : 0 < y => c_over x y h2 h h3
  simp only [wV, wC] at hz ho
  by_cases h0 : y = 0
  · rw [h0] at hz ⊢
    rw [h0, Nat.gcd_zero_right] at h1
    subst h1
    simp at hz
    repeat' (first
 |refine aK fun K hK=>?_|refine Step.by1 ?_|refine sE (by decide) ?_|refine cz rfl ?_|refine Fork.by2 (fun h=>?_) fun h=>?_
 |((first|refine aR ?_|refine aC (f:=155) rfl rfl (hz) rfl rfl rfl ?_);simp [wC])
 |(refine Split.by2 (fun h=>?_) (fun h=>?_)<;>(simp [h, wC]))
 |(apply hK;clear hK K)|refine AWh ‹_› ?_)
    exact retqc rfl (by simp) (cE (by simp [wC]) (by simp))
  · have ho := ho (by omega)
    rw [show decide (y = 0) = false by simp [h0]] at hz
    repeat' (first
 |refine aK fun K hK=>?_|refine Step.by1 ?_|refine sE (by decide) ?_|refine cz rfl ?_|refine Fork.by2 (fun h=>?_) fun h=>?_
 |((first|refine aR ?_|refine aC (f:=155) rfl rfl (hz) rfl rfl rfl ?_|refine aC (f:=166) rfl rfl (ho) rfl rfl rfl ?_);simp [wC])
 |(refine Split.by2 (fun h=>?_) (fun h=>?_)<;>(simp [h, wC]))
 |(apply hK;clear hK K)|refine AWh ‹_› ?_)
    refine AW_region_chain 4 5 [1] (fun H => H[4]? = some (.var [.int .u64 ((x : Int) % y / 18446744073709551616), .int .u64 ((x : Int) % y % 18446744073709551616)])) mixed (by decide) (by decide) rfl rfl ?_
    simp only [List.take_succ_cons, List.take_zero]
    refine PX_skip rfl ?_
    refine PX_op (v := .agg [.int .u64 ((x : Int) % y / 18446744073709551616), .int .u64 ((x : Int) % y % 18446744073709551616)]) rfl rfl rfl rfl (fun H hs => by simp [hs]) ?_
    refine PX_skip rfl ?_
    refine PX_skip rfl ?_
    refine PX_nil ?_
    refine Ch_1 0 (by decide) (by decide) ?_
    refine cS1 rfl rfl rfl rfl (by simp) (by simp) ?_
    refine Ch_1 2 (by decide) (by decide) ?_
    refine ChS_op rfl rfl rfl rfl (by simp) rfl (by simp) ?_
    refine Ch_1 3 (by decide) (by decide) ?_
    refine ChS_op rfl rfl rfl rfl (by simp) rfl (by simp) ?_
    refine Ch_end (by decide) ?_
    simp
    refine AS_nil ?_
    have hm := Nat.mod_lt x (show 0 < y by omega)
    simp
    refine ⟨y, x % y, ⟨by rw [gcd_step]; exact h1, by omega, by omega⟩, hm, ?_⟩
    apply Weak.mk' <;> simp [wC]
/-- A magnitude and a sign. -/
def mC (m : Nat) (s : Bool) : List V := [.int .u64 ((m : Int) / 18446744073709551616), .int .u64 ((m : Int) % 18446744073709551616), .bool s]
def zC (z : Int) : List V := mC z.natAbs (decide (z < 0))
def zV (z : Int) : V := .agg (zC z)
theorem c_ofZ (n : Int) (hn : I64 n) : PC 102 [.int .i64 n] (zV n) := by
  obtain ⟨h1, h2⟩ := hn
  have e0 : n < 0 → IntKind.u64.wrap (-IntKind.u64.wrap n) = (n.natAbs : Int) := fun h => by rw [wrap_u64, wrap_u64]; omega
  have e1 : ¬ n < 0 → IntKind.u64.wrap n = (n.natAbs : Int) := fun h => by rw [wrap_u64]; omega
  have e2 : (n.natAbs : Int) / 18446744073709551616 = 0 := by omega
  have e3 : (n.natAbs : Int) % 18446744073709551616 = n.natAbs := by omega
  by_cases h0 : n < 0
  · have e0 := e0 h0
    simp only [zV, zC, mC, e2, e3, decide_eq_true h0]
    generalize (n.natAbs : Int) = m at *
    refine pB Tryz.func102 rfl (by decide) Tryz.ntmps102 (by simp) Tryz.results102 ?_
    repeat' (first
 |refine aK fun K hK=>?_|refine Step.by1 ?_|refine sE (by decide) ?_|refine cz rfl ?_|refine Fork.by2 (fun h=>?_) fun h=>?_
 |(refine aR ?_;simp [h0])
 |(refine Split.by2 (fun h=>?_) (fun h=>?_)<;>(simp [h, h0]))
 |(apply hK;clear hK K)|refine AWh ‹_› ?_)
    exact retqc rfl (by simp) (cE (by simp [e0]) (by simp))
  · have e1 := e1 h0
    simp only [zV, zC, mC, e2, e3, decide_eq_false h0]
    generalize (n.natAbs : Int) = m at *
    refine pB Tryz.func102 rfl (by decide) Tryz.ntmps102 (by simp) Tryz.results102 ?_
    repeat' (first
 |refine aK fun K hK=>?_|refine Step.by1 ?_|refine sE (by decide) ?_|refine cz rfl ?_|refine Fork.by2 (fun h=>?_) fun h=>?_
 |(refine aR ?_;simp [h0])
 |(refine Split.by2 (fun h=>?_) (fun h=>?_)<;>(simp [h, h0]))
 |(apply hK;clear hK K)|refine AWh ‹_› ?_)
    exact retqc rfl (by simp) (cE (by simp [e1]) (by simp))
theorem mul_sign (a b : Int) : decide (a * b < 0) = ((decide (a < 0) != decide (b < 0)) && !decide (a.natAbs * b.natAbs = 0)) := by
  by_cases ha : a < 0 <;> by_cases hb : b < 0
  · have := Int.mul_pos_of_neg_of_neg ha hb
    simp [ha, hb]; omega
  · by_cases h0 : b = 0
    · subst h0; simp [ha]
    · have h1 := Int.mul_neg_of_neg_of_pos ha (show 0 < b by omega)
      have h2 : a.natAbs ≠ 0 := by omega
      have h3 : b.natAbs ≠ 0 := by omega
      have h4 := Nat.mul_ne_zero h2 h3
      simp [ha, hb, h1, h4]
  · by_cases h0 : a = 0
    · subst h0; simp [hb]
    · have h1 := Int.mul_neg_of_pos_of_neg (show 0 < a by omega) hb
      have h2 : a.natAbs ≠ 0 := by omega
      have h3 : b.natAbs ≠ 0 := by omega
      have h4 := Nat.mul_ne_zero h2 h3
      simp [ha, hb, h1, h4]
  · have := Int.mul_nonneg (show 0 ≤ a by omega) (show 0 ≤ b by omega)
    simp [ha, hb]; omega
theorem c_times (a b : Int) (ha : I64 a) (hb : I64 b) : PC 152 [.int .i64 a, .int .i64 b] (zV (a * b)) := by
  have h1 := c_ofZ a ha
  have h2 := c_ofZ b hb
  obtain ⟨ha1, ha2⟩ := ha
  obtain ⟨hb1, hb2⟩ := hb
  have eA : (a.natAbs : Int) % 18446744073709551616 = a.natAbs := by omega
  have eB : (b.natAbs : Int) % 18446744073709551616 = b.natAbs := by omega
  have hm := c_mul64 a.natAbs b.natAbs (by omega) (by omega) (by omega) (by omega)
  have hz := c_isZero (a.natAbs * b.natAbs)
  have e : zC (a * b) = mC (a.natAbs * b.natAbs) ((decide (a < 0) != decide (b < 0)) && !decide (a.natAbs * b.natAbs = 0)) := by unfold zC; rw [mul_sign, Int.natAbs_mul]
  have hP : (a.natAbs : Int) * (b.natAbs : Int) = ((a.natAbs * b.natAbs : Nat) : Int) := by simp
  rw [hP] at hm
  simp only [zV, e]
  simp only [zV, zC, wV, wC, mC] at h1 h2 hz ⊢
  clear e hP
  generalize a.natAbs * b.natAbs = P at *
  generalize a.natAbs = A at *
  generalize b.natAbs = B at *
  generalize decide (P = 0) = z0 at *
  generalize decide (a < 0) = sa at *
  generalize decide (b < 0) = sb at *
  refine pB Tryz.func152 rfl (by decide) Tryz.ntmps152 (by simp) Tryz.results152 ?_
  cases sa <;> cases sb <;> cases z0
  all_goals
    repeat' (first
 |refine aK fun K hK=>?_|refine Step.by1 ?_|refine sE (by decide) ?_|refine cz rfl ?_|refine Fork.by2 (fun h=>?_) fun h=>?_
 |((first|refine aR ?_|refine aC (f:=102) rfl rfl (h1) rfl rfl rfl ?_|refine aC (f:=102) rfl rfl (h2) rfl rfl rfl ?_|refine aC (f:=159) rfl rfl (hm) rfl rfl rfl ?_|refine aC (f:=155) rfl rfl (hz) rfl rfl rfl ?_);simp [eA, eB])
 |(refine Split.by2 (fun h=>?_) (fun h=>?_)<;>(simp [h, eA, eB]))
 |(apply hK;clear hK K)|refine AWh ‹_› ?_)
    exact retqc rfl (by simp) (cE (by simp) (by simp))
theorem c_opposite (z : Int) : PC 154 [zV z] (zV (-z)) := by
  have hz := c_isZero z.natAbs
  have e : zC (-z) = mC z.natAbs (!decide (z < 0) && !decide (z.natAbs = 0)) := by
    unfold zC
    rw [Int.natAbs_neg]
    congr 1
    by_cases h : z < 0 <;> by_cases h0 : z = 0 <;> simp [h, h0] <;> omega
  simp only [zV, e]
  simp only [zC, wV, wC, mC] at hz ⊢
  clear e
  generalize decide (z.natAbs = 0) = z0 at *
  generalize decide (z < 0) = s at *
  generalize z.natAbs = m at *
  refine pB Tryz.func154 rfl (by decide) Tryz.ntmps154 (by simp) Tryz.results154 ?_
  cases s <;> cases z0
  all_goals
    repeat' (first
 |refine aK fun K hK=>?_|refine Step.by1 ?_|refine sE (by decide) ?_|refine cz rfl ?_|refine Fork.by2 (fun h=>?_) fun h=>?_
 |((first|refine aR ?_|refine aX (id:=1) 12 mixed (by decide) ?_|refine aP1 (f:=155) rfl rfl (hz) rfl rfl rfl ?_);simp)
 |(refine Split.by2 (fun h=>?_) (fun h=>?_)<;>(simp [h]))
 |(apply hK;clear hK K)|refine AWh ‹_› ?_)
    exact retqc rfl (by simp) (cE (by simp) (by simp))
theorem c_sumZ (a b : Int) (hab : a.natAbs + b.natAbs < 340282366920938463463374607431768211456) : PC 153 [zV a, zV b] (zV (a + b)) := by
  have h1 := c_plus a.natAbs b.natAbs hab
  have h2 := c_compare a.natAbs b.natAbs
  have h3 := fun h : b.natAbs ≤ a.natAbs => c_less a.natAbs b.natAbs h (by omega)
  have h4 := fun h : a.natAbs ≤ b.natAbs => c_less b.natAbs a.natAbs h (by omega)
  by_cases hs : decide (a < 0) = decide (b < 0)
  · have e : zC (a + b) = mC (a.natAbs + b.natAbs) (decide (b < 0)) := by
      unfold zC
      simp only [decide_eq_decide] at hs
      congr 1
      · omega
      · rw [decide_eq_decide]; omega
    simp only [zV, e]
    simp only [zC, wV, wC, mC] at h1 ⊢
    rw [hs]
    generalize decide (b < 0) = s at *
    generalize a.natAbs + b.natAbs = m at *
    refine pB Tryz.func153 rfl (by decide) Tryz.ntmps153 (by simp) Tryz.results153 ?_
    repeat' (first
 |refine aK fun K hK=>?_|refine Step.by1 ?_|refine sE (by decide) ?_|refine cz rfl ?_|refine Fork.by2 (fun h=>?_) fun h=>?_
 |((first|refine aR ?_|refine aX (id:=2) 8 mixed (by decide) ?_|refine aP1 (f:=209) rfl rfl (h1) rfl rfl rfl ?_);simp)
 |(refine Split.by2 (fun h=>?_) (fun h=>?_)<;>(simp [h]))
 |(apply hK;clear hK K)|refine AWh ‹_› ?_)
    exact retqc rfl (by simp) (cE (by simp) (by simp))
  · rcases Nat.lt_trichotomy a.natAbs b.natAbs with h | h | h
    · have h4 := h4 (by omega)
      have e : zC (a + b) = mC (b.natAbs - a.natAbs) (decide (b < 0)) := by
        unfold zC
        simp only [decide_eq_decide] at hs
        congr 1
        · omega
        · rw [decide_eq_decide]; omega
      have hc : cmpN a.natAbs b.natAbs = -1 := by unfold cmpN; rw [if_pos h]
      rw [hc] at h2
      simp only [zV, e]
      simp only [zC, wV, wC, mC] at h2 h4 ⊢
      generalize decide (a < 0) = sa at *
      generalize decide (b < 0) = sb at *
      generalize b.natAbs - a.natAbs = m at *
      have hsb : sb = !sa := by revert hs; cases sa <;> cases sb <;> simp
      subst hsb
      clear hs
      refine pB Tryz.func153 rfl (by decide) Tryz.ntmps153 (by simp) Tryz.results153 ?_
      cases sa
      all_goals
        repeat' (first
 |refine aK fun K hK=>?_|refine Step.by1 ?_|refine sE (by decide) ?_|refine cz rfl ?_|refine Fork.by2 (fun h=>?_) fun h=>?_
 |((first|refine aR ?_|refine aC (f:=210) rfl rfl (h2) rfl rfl rfl ?_|refine aX (id:=8) 8 mixed (by decide) ?_|refine aP1 (f:=211) rfl rfl (h4) rfl rfl rfl ?_);simp)
 |(refine Split.by2 (fun h=>?_) (fun h=>?_)<;>(simp [h]))
 |(apply hK;clear hK K)|refine AWh ‹_› ?_)
        exact retqc rfl (by simp) (cE (by simp) (by simp))
    · have e : zC (a + b) = mC 0 false := by
        unfold zC
        simp only [decide_eq_decide] at hs
        congr 1
        · omega
        · rw [decide_eq_false_iff_not]; omega
      have hc : cmpN a.natAbs b.natAbs = 0 := by unfold cmpN; rw [if_neg (by omega), if_pos h]
      rw [hc] at h2
      simp only [zV, e]
      simp only [zC, wV, wC, mC] at h2 ⊢
      generalize decide (a < 0) = sa at *
      generalize decide (b < 0) = sb at *
      have hsb : sb = !sa := by revert hs; cases sa <;> cases sb <;> simp
      subst hsb
      clear hs
      refine pB Tryz.func153 rfl (by decide) Tryz.ntmps153 (by simp) Tryz.results153 ?_
      cases sa
      all_goals
        repeat' (first
 |refine aK fun K hK=>?_|refine Step.by1 ?_|refine sE (by decide) ?_|refine cz rfl ?_|refine Fork.by2 (fun h=>?_) fun h=>?_
 |((first|refine aR ?_|refine aC (f:=210) rfl rfl (h2) rfl rfl rfl ?_);simp)
 |(refine Split.by2 (fun h=>?_) (fun h=>?_)<;>(simp [h]))
 |(apply hK;clear hK K)|refine AWh ‹_› ?_)
        exact retqc rfl (by simp) (cE (by simp) (by simp))
    · have h3 := h3 (by omega)
      have e : zC (a + b) = mC (a.natAbs - b.natAbs) (decide (a < 0)) := by
        unfold zC
        simp only [decide_eq_decide] at hs
        congr 1
        · omega
        · rw [decide_eq_decide]; omega
      have hc : cmpN a.natAbs b.natAbs = 1 := by unfold cmpN; rw [if_neg (by omega), if_neg (by omega)]
      rw [hc] at h2
      simp only [zV, e]
      simp only [zC, wV, wC, mC] at h2 h3 ⊢
      generalize decide (a < 0) = sa at *
      generalize decide (b < 0) = sb at *
      generalize a.natAbs - b.natAbs = m at *
      have hsb : sb = !sa := by revert hs; cases sa <;> cases sb <;> simp
      subst hsb
      clear hs
      refine pB Tryz.func153 rfl (by decide) Tryz.ntmps153 (by simp) Tryz.results153 ?_
      cases sa
      all_goals
        repeat' (first
 |refine aK fun K hK=>?_|refine Step.by1 ?_|refine sE (by decide) ?_|refine cz rfl ?_|refine Fork.by2 (fun h=>?_) fun h=>?_
 |((first|refine aR ?_|refine aC (f:=210) rfl rfl (h2) rfl rfl rfl ?_|refine aX (id:=7) 8 mixed (by decide) ?_|refine aP1 (f:=211) rfl rfl (h3) rfl rfl rfl ?_);simp)
 |(refine Split.by2 (fun h=>?_) (fun h=>?_)<;>(simp [h]))
 |(apply hK;clear hK K)|refine AWh ‹_› ?_)
        exact retqc rfl (by simp) (cE (by simp) (by simp))
end Go.Proofs.YtbgooadmonnjaaaGreatDoor
end
