/-
  YtbgooadmonnjaaaGreatDoorRc22: steps of the proof of a law of the program: what these texts prove holds under the hypotheses that their theorems name, and no others.
-/
import Derived.Test.YtbgooadmonnjaaaGreatDoorRc21
import Derived.Test.YtbgooadmonnjaaaGreatDoorRc14
import Derived.Test.YtbgooadmonnjaaaGreatDoorRc16
section
set_option linter.unusedSimpArgs false
set_option linter.unusedVariables false
namespace Go.Proofs.YtbgooadmonnjaaaGreatDoor
open Go Go.AM Fx
theorem prodN {x y : Nat} (hx : x ≤ 9223372036854775808) (hy : y ≤ 9223372036854775808) : x * y ≤ 85070591730234615865843651857942052864 := by
  have := Nat.mul_le_mul hx hy
  omega
def rT (t : Int × Bool × Bool) : V := .agg [.int .i64 t.1, .bool t.2.1, .bool t.2.2]
def addT (a b : Int) : Int × Bool × Bool := (IntKind.i64.wrap (a + b), false, (decide (a < 0) == decide (b < 0)) && (decide (IntKind.i64.wrap (a + b) < 0) != decide (a < 0)))
def subT (a b : Int) : Int × Bool × Bool := (IntKind.i64.wrap (a - b), false, (decide (a < 0) != decide (b < 0)) && (decide (IntKind.i64.wrap (a - b) < 0) != decide (a < 0)))
def negT (a : Int) : Int × Bool × Bool := (IntKind.i64.wrap (-a), false, decide (a = -9223372036854775808))
def mulT (a b : Int) : Int × Bool × Bool := if -9223372036854775808 ≤ a * b ∧ a * b ≤ 9223372036854775807 then (a * b, false, false) else (0, false, true)
theorem c_xopp (a : Int) : PC 242 [.int .i64 a] (rT (negT a)) := by
  simp only [rT, negT]
  refine pB Tryz.func242 rfl (by decide) Tryz.ntmps242 (by simp) Tryz.results242 ?_
  repeat' (first
 |refine aK fun K hK=>?_|refine Step.by1 ?_|refine sE (by decide) ?_|refine cz rfl ?_|refine Fork.by2 (fun h=>?_) fun h=>?_
 |(refine aR ?_;simp)
 |(refine Split.by2 (fun h=>?_) (fun h=>?_)<;>(simp [h]))
 |(apply hK;clear hK K)|refine AWh ‹_› ?_)
  exact retqc rfl (by simp) (cE (by simp) (by simp))
theorem c_xplus (a b : Int) : PC 243 [.int .i64 a, .int .i64 b] (rT (addT a b)) := by
  simp only [rT, addT]
  generalize hs : IntKind.i64.wrap (a + b) = s
  generalize hsa : decide (a < 0) = sa
  generalize hsb : decide (b < 0) = sb
  generalize hss : decide (s < 0) = ss
  refine pB Tryz.func243 rfl (by decide) Tryz.ntmps243 (by simp) Tryz.results243 ?_
  cases sa <;> cases sb <;> cases ss
  all_goals
    repeat' (first
 |refine aK fun K hK=>?_|refine Step.by1 ?_|refine sE (by decide) ?_|refine cz rfl ?_|refine Fork.by2 (fun h=>?_) fun h=>?_
 |(refine aR ?_;simp [hs, hsa, hsb, hss])
 |(refine Split.by2 (fun h=>?_) (fun h=>?_)<;>(simp [h, hs, hsa, hsb, hss]))
 |(apply hK;clear hK K)|refine AWh ‹_› ?_)
    exact retqc rfl (by simp) (cE (by simp) (by simp))
theorem c_xsize (n : Int) (hn : I64 n) : PC 271 [.int .i64 n] (.int .u64 n.natAbs) := by
  obtain ⟨h1, h2⟩ := hn
  have e0 : n < 0 → IntKind.u64.wrap (-IntKind.u64.wrap n) = (n.natAbs : Int) := fun h => by rw [wrap_u64, wrap_u64]; omega
  have e1 : ¬ n < 0 → IntKind.u64.wrap n = (n.natAbs : Int) := fun h => by rw [wrap_u64]; omega
  generalize (n.natAbs : Int) = m at *
  by_cases h0 : n < 0
  · have e0 := e0 h0
    refine pB Tryz.func271 rfl (by decide) Tryz.ntmps271 (by simp) Tryz.results271 ?_
    repeat' (first
 |refine aK fun K hK=>?_|refine Step.by1 ?_|refine sE (by decide) ?_|refine cz rfl ?_|refine Fork.by2 (fun h=>?_) fun h=>?_
 |(refine aR ?_;simp [h0])
 |(refine Split.by2 (fun h=>?_) (fun h=>?_)<;>(simp [h, h0]))
 |(apply hK;clear hK K)|refine AWh ‹_› ?_)
    exact r1q (cE (by simp [e0]) rfl)
  · have e1 := e1 h0
    refine pB Tryz.func271 rfl (by decide) Tryz.ntmps271 (by simp) Tryz.results271 ?_
    repeat' (first
 |refine aK fun K hK=>?_|refine Step.by1 ?_|refine sE (by decide) ?_|refine cz rfl ?_|refine Fork.by2 (fun h=>?_) fun h=>?_
 |(refine aR ?_;simp [h0])
 |(refine Split.by2 (fun h=>?_) (fun h=>?_)<;>(simp [h, h0]))
 |(apply hK;clear hK K)|refine AWh ‹_› ?_)
    exact r1q (cE (by simp [e1]) rfl)
set_option maxHeartbeats 4000000 in
theorem c_xtimes (a b : Int) (ha : I64 a) (hb : I64 b) : PC 244 [.int .i64 a, .int .i64 b] (rT (mulT a b)) := by
  have s1 := c_xsize a ha
  have s2 := c_xsize b hb
  obtain ⟨ha1, ha2⟩ := ha
  obtain ⟨hb1, hb2⟩ := hb
  have hm := c_mul64 a.natAbs b.natAbs (by omega) (by omega) (by omega) (by omega)
  have hP : (a.natAbs : Int) * (b.natAbs : Int) = ((a.natAbs * b.natAbs : Nat) : Int) := by simp
  have hab : a * b = if (decide (a < 0) != decide (b < 0)) = true then -((a.natAbs * b.natAbs : Nat) : Int) else ((a.natAbs * b.natAbs : Nat) : Int) := by
    rw [← hP]
    by_cases h1 : a < 0 <;> by_cases h2 : b < 0
    · have e1 : (a.natAbs : Int) = -a := by omega
      have e2 : (b.natAbs : Int) = -b := by omega
      simp [h1, h2, e1, e2, Int.neg_mul, Int.mul_neg]
    · have e1 : (a.natAbs : Int) = -a := by omega
      have e2 : (b.natAbs : Int) = b := by omega
      simp [h1, h2, e1, e2, Int.neg_mul, Int.mul_neg]
    · have e1 : (a.natAbs : Int) = a := by omega
      have e2 : (b.natAbs : Int) = -b := by omega
      simp [h1, h2, e1, e2, Int.neg_mul, Int.mul_neg]
    · have e1 : (a.natAbs : Int) = a := by omega
      have e2 : (b.natAbs : Int) = b := by omega
      simp [h1, h2, e1, e2, Int.neg_mul, Int.mul_neg]
  rw [hP] at hm
  have hT : mulT a b = if -9223372036854775808 ≤ a * b ∧ a * b ≤ 9223372036854775807 then (a * b, false, false) else (0, false, true) := rfl
  rw [hT, hab]
  clear hT hab hP
  have hPl : a.natAbs * b.natAbs ≤ 85070591730234615865843651857942052864 := prodN (by omega) (by omega)
  generalize a.natAbs * b.natAbs = P at *
  simp only [rT]
  generalize (a.natAbs : Int) = A at *
  generalize (b.natAbs : Int) = B at *
  generalize hsa : decide (a < 0) = sa at *
  generalize hsb : decide (b < 0) = sb at *
  have hw : ∀ n : Int, IntKind.u64.wrap n = n % 18446744073709551616 := wrap_u64
  by_cases hs : (sa != sb) = true
  · rw [if_pos hs]
    have hsb2 : sb = !sa := by revert hs; cases sa <;> cases sb <;> simp
    subst hsb2
    by_cases hf : (P : Int) ≤ 9223372036854775808
    · rw [if_pos (by omega)]
      have f1 : ¬ (0 : Int) < (P : Int) / 18446744073709551616 := by omega
      have f2 : ¬ (9223372036854775808 : Int) < (P : Int) % 18446744073709551616 := by omega
      by_cases hz : P = 0
      · subst hz
        have f3 : IntKind.i64.wrap 0 = 0 := wI (by omega) (by omega)
        clear hs hf f1 f2
        cases sa
        all_goals
          simp at hm
          refine pB Tryz.func244 rfl (by decide) Tryz.ntmps244 (by simp) Tryz.results244 ?_
          repeat' (first
 |refine aK fun K hK=>?_|refine Step.by1 ?_|refine sE (by decide) ?_|refine cz rfl ?_|refine Fork.by2 (fun h=>?_) fun h=>?_
 |((first|refine aR ?_|refine aC (f:=271) rfl rfl (s1) rfl rfl rfl ?_|refine aC (f:=271) rfl rfl (s2) rfl rfl rfl ?_|refine aC (f:=159) rfl rfl (hm) rfl rfl rfl ?_);simp [hsa, hsb, f3])
 |(refine Split.by2 (fun h=>?_) (fun h=>?_)<;>(simp [h, hsa, hsb, f3]))
 |(apply hK;clear hK K)|refine AWh ‹_› ?_)
          exact retqc rfl (by simp) (cE (by simp) (by simp))
      · have f3 : ¬ (P : Int) % 18446744073709551616 = 0 := by omega
        have f4 : IntKind.i64.wrap (IntKind.u64.wrap (-((P : Int) % 18446744073709551616))) = -P := by rw [wrap_u64]; unfold IntKind.wrap; simp [IntKind.bits, IntKind.signed]; omega
        clear hs hf
        cases sa
        all_goals
          by_cases f5 : (P : Int) % 18446744073709551616 = 9223372036854775808
          · rw [f5] at f4
            refine pB Tryz.func244 rfl (by decide) Tryz.ntmps244 (by simp) Tryz.results244 ?_
            repeat' (first
 |refine aK fun K hK=>?_|refine Step.by1 ?_|refine sE (by decide) ?_|refine cz rfl ?_|refine Fork.by2 (fun h=>?_) fun h=>?_
 |((first|refine aR ?_|refine aC (f:=271) rfl rfl (s1) rfl rfl rfl ?_|refine aC (f:=271) rfl rfl (s2) rfl rfl rfl ?_|refine aC (f:=159) rfl rfl (hm) rfl rfl rfl ?_);simp [hsa, hsb, f1, f5])
 |(refine Split.by2 (fun h=>?_) (fun h=>?_)<;>(simp [h, hsa, hsb, f1, f5]))
 |(apply hK;clear hK K)|refine AWh ‹_› ?_)
            exact retqc rfl (by simp) (cE (by simp [f4]) (by simp))
          · refine pB Tryz.func244 rfl (by decide) Tryz.ntmps244 (by simp) Tryz.results244 ?_
            repeat' (first
 |refine aK fun K hK=>?_|refine Step.by1 ?_|refine sE (by decide) ?_|refine cz rfl ?_|refine Fork.by2 (fun h=>?_) fun h=>?_
 |((first|refine aR ?_|refine aC (f:=271) rfl rfl (s1) rfl rfl rfl ?_|refine aC (f:=271) rfl rfl (s2) rfl rfl rfl ?_|refine aC (f:=159) rfl rfl (hm) rfl rfl rfl ?_);simp [hsa, hsb, f1, f2, f3, f5, f4])
 |(refine Split.by2 (fun h=>?_) (fun h=>?_)<;>(simp [h, hsa, hsb, f1, f2, f3, f5, f4]))
 |(apply hK;clear hK K)|refine AWh ‹_› ?_)
            exact retqc rfl (by simp) (cE (by simp [f4]) (by simp))
    · rw [if_neg (by omega)]
      rcases (show (0 : Int) < (P : Int) / 18446744073709551616 ∨ (¬ (0 : Int) < (P : Int) / 18446744073709551616 ∧ (9223372036854775808 : Int) < (P : Int) % 18446744073709551616) by omega) with f1 | ⟨f1, f2⟩
      · clear hs hf
        cases sa
        all_goals
          by_cases f3 : (P : Int) % 18446744073709551616 = 0
          all_goals
            refine pB Tryz.func244 rfl (by decide) Tryz.ntmps244 (by simp) Tryz.results244 ?_
            repeat' (first
 |refine aK fun K hK=>?_|refine Step.by1 ?_|refine sE (by decide) ?_|refine cz rfl ?_|refine Fork.by2 (fun h=>?_) fun h=>?_
 |((first|refine aR ?_|refine aC (f:=271) rfl rfl (s1) rfl rfl rfl ?_|refine aC (f:=271) rfl rfl (s2) rfl rfl rfl ?_|refine aC (f:=159) rfl rfl (hm) rfl rfl rfl ?_);simp [hsa, hsb, f1, f3])
 |(refine Split.by2 (fun h=>?_) (fun h=>?_)<;>(simp [h, hsa, hsb, f1, f3]))
 |(apply hK;clear hK K)|refine AWh ‹_› ?_)
            exact retqc rfl (by simp) (cE (by simp) (by simp))
      · have f3 : ¬ (P : Int) % 18446744073709551616 = 0 := by omega
        clear hs hf
        cases sa
        all_goals
          refine pB Tryz.func244 rfl (by decide) Tryz.ntmps244 (by simp) Tryz.results244 ?_
          repeat' (first
 |refine aK fun K hK=>?_|refine Step.by1 ?_|refine sE (by decide) ?_|refine cz rfl ?_|refine Fork.by2 (fun h=>?_) fun h=>?_
 |((first|refine aR ?_|refine aC (f:=271) rfl rfl (s1) rfl rfl rfl ?_|refine aC (f:=271) rfl rfl (s2) rfl rfl rfl ?_|refine aC (f:=159) rfl rfl (hm) rfl rfl rfl ?_);simp [hsa, hsb, f1, f2, f3])
 |(refine Split.by2 (fun h=>?_) (fun h=>?_)<;>(simp [h, hsa, hsb, f1, f2, f3]))
 |(apply hK;clear hK K)|refine AWh ‹_› ?_)
          exact retqc rfl (by simp) (cE (by simp) (by simp))
  · rw [if_neg hs]
    have hsb2 : sb = sa := by revert hs; cases sa <;> cases sb <;> simp
    subst hsb2
    by_cases hf : (P : Int) ≤ 9223372036854775807
    · rw [if_pos (by omega)]
      have f1 : ¬ (0 : Int) < (P : Int) / 18446744073709551616 := by omega
      have f2 : ¬ (9223372036854775808 : Int) < (P : Int) % 18446744073709551616 := by omega
      have f5 : ¬ (P : Int) % 18446744073709551616 = 9223372036854775808 := by omega
      have f4 : IntKind.i64.wrap ((P : Int) % 18446744073709551616) = P := by rw [wI (by omega) (by omega)]; omega
      clear hs hf
      cases sb
      all_goals
        refine pB Tryz.func244 rfl (by decide) Tryz.ntmps244 (by simp) Tryz.results244 ?_
        repeat' (first
 |refine aK fun K hK=>?_|refine Step.by1 ?_|refine sE (by decide) ?_|refine cz rfl ?_|refine Fork.by2 (fun h=>?_) fun h=>?_
 |((first|refine aR ?_|refine aC (f:=271) rfl rfl (s1) rfl rfl rfl ?_|refine aC (f:=271) rfl rfl (s2) rfl rfl rfl ?_|refine aC (f:=159) rfl rfl (hm) rfl rfl rfl ?_);simp [hsa, hsb, f1, f2, f5, f4])
 |(refine Split.by2 (fun h=>?_) (fun h=>?_)<;>(simp [h, hsa, hsb, f1, f2, f5, f4]))
 |(apply hK;clear hK K)|refine AWh ‹_› ?_)
        exact retqc rfl (by simp) (cE (by simp [f4]) (by simp))
    · rw [if_neg (by omega)]
      rcases (show (0 : Int) < (P : Int) / 18446744073709551616 ∨ (¬ (0 : Int) < (P : Int) / 18446744073709551616 ∧ (9223372036854775808 : Int) < (P : Int) % 18446744073709551616) ∨ (¬ (0 : Int) < (P : Int) / 18446744073709551616 ∧ ¬ (9223372036854775808 : Int) < (P : Int) % 18446744073709551616 ∧ (P : Int) % 18446744073709551616 = 9223372036854775808) by omega) with f1 | ⟨f1, f2⟩ | ⟨f1, f2, f3⟩
      · clear hs hf
        cases sb
        all_goals
          refine pB Tryz.func244 rfl (by decide) Tryz.ntmps244 (by simp) Tryz.results244 ?_
          repeat' (first
 |refine aK fun K hK=>?_|refine Step.by1 ?_|refine sE (by decide) ?_|refine cz rfl ?_|refine Fork.by2 (fun h=>?_) fun h=>?_
 |((first|refine aR ?_|refine aC (f:=271) rfl rfl (s1) rfl rfl rfl ?_|refine aC (f:=271) rfl rfl (s2) rfl rfl rfl ?_|refine aC (f:=159) rfl rfl (hm) rfl rfl rfl ?_);simp [hsa, hsb, f1])
 |(refine Split.by2 (fun h=>?_) (fun h=>?_)<;>(simp [h, hsa, hsb, f1]))
 |(apply hK;clear hK K)|refine AWh ‹_› ?_)
          exact retqc rfl (by simp) (cE (by simp) (by simp))
      · clear hs hf
        cases sb
        all_goals
          refine pB Tryz.func244 rfl (by decide) Tryz.ntmps244 (by simp) Tryz.results244 ?_
          repeat' (first
 |refine aK fun K hK=>?_|refine Step.by1 ?_|refine sE (by decide) ?_|refine cz rfl ?_|refine Fork.by2 (fun h=>?_) fun h=>?_
 |((first|refine aR ?_|refine aC (f:=271) rfl rfl (s1) rfl rfl rfl ?_|refine aC (f:=271) rfl rfl (s2) rfl rfl rfl ?_|refine aC (f:=159) rfl rfl (hm) rfl rfl rfl ?_);simp [hsa, hsb, f1, f2])
 |(refine Split.by2 (fun h=>?_) (fun h=>?_)<;>(simp [h, hsa, hsb, f1, f2]))
 |(apply hK;clear hK K)|refine AWh ‹_› ?_)
          exact retqc rfl (by simp) (cE (by simp) (by simp))
      · clear hs hf
        cases sb
        all_goals
          refine pB Tryz.func244 rfl (by decide) Tryz.ntmps244 (by simp) Tryz.results244 ?_
          repeat' (first
 |refine aK fun K hK=>?_|refine Step.by1 ?_|refine sE (by decide) ?_|refine cz rfl ?_|refine Fork.by2 (fun h=>?_) fun h=>?_
 |((first|refine aR ?_|refine aC (f:=271) rfl rfl (s1) rfl rfl rfl ?_|refine aC (f:=271) rfl rfl (s2) rfl rfl rfl ?_|refine aC (f:=159) rfl rfl (hm) rfl rfl rfl ?_);simp [hsa, hsb, f1, f3])
 |(refine Split.by2 (fun h=>?_) (fun h=>?_)<;>(simp [h, hsa, hsb, f1, f3]))
 |(apply hK;clear hK K)|refine AWh ‹_› ?_)
          exact retqc rfl (by simp) (cE (by simp) (by simp))
def reck (l : List NodeD) (vs : List Int) : Nat → Nat → Int × Bool × Bool
  | 0, _ => (0, false, false)
  | f + 1, i =>
    let x := l.getD i default
    if x.op = 1 then (x.n, false, false) else if x.op = 2 then (vs.getD x.n.toNat 0, false, false) else if x.op = 7 then (0, true, false) else
    let a := reck l vs f (i + 1)
    if a.2.2 = true then a else if x.op = 3 then negT a.1 else if x.op = 12 then (0, !a.2.1, false) else if (x.op = 13 ∧ a.2.1 = false) ∨ (x.op = 14 ∧ a.2.1 = true) then a else
    let b := reck l vs f (endAt l (i + 1)).toNat
    if b.2.2 = true then b else if x.op = 4 then addT a.1 b.1 else if x.op = 5 then subT a.1 b.1 else if x.op = 6 then mulT a.1 b.1 else if x.op = 8 then (0, decide (a.1 < b.1), false) else if x.op = 9 then (0, decide (a.1 ≤ b.1), false)
    else if x.op = 10 then (0, decide (a.1 = b.1), false) else if x.op = 11 then (0, !decide (a.1 = b.1), false) else b
theorem reck_succ {l : List NodeD} {vs : List Int} {f i : Nat} : reck l vs (f + 1) i =
    if (l.getD i default).op = 1 then ((l.getD i default).n, false, false) else if (l.getD i default).op = 2 then (vs.getD (l.getD i default).n.toNat 0, false, false) else if (l.getD i default).op = 7 then (0, true, false) else
    if (reck l vs f (i + 1)).2.2 = true then reck l vs f (i + 1) else if (l.getD i default).op = 3 then negT (reck l vs f (i + 1)).1 else if (l.getD i default).op = 12 then (0, !(reck l vs f (i + 1)).2.1, false) else if ((l.getD i default).op = 13 ∧ (reck l vs f (i + 1)).2.1 = false) ∨ ((l.getD i default).op = 14 ∧ (reck l vs f (i + 1)).2.1 = true) then reck l vs f (i + 1) else
    if (reck l vs f (endAt l (i + 1)).toNat).2.2 = true then reck l vs f (endAt l (i + 1)).toNat else if (l.getD i default).op = 4 then addT (reck l vs f (i + 1)).1 (reck l vs f (endAt l (i + 1)).toNat).1 else if (l.getD i default).op = 5 then subT (reck l vs f (i + 1)).1 (reck l vs f (endAt l (i + 1)).toNat).1 else if (l.getD i default).op = 6 then mulT (reck l vs f (i + 1)).1 (reck l vs f (endAt l (i + 1)).toNat).1
    else if (l.getD i default).op = 8 then (0, decide ((reck l vs f (i + 1)).1 < (reck l vs f (endAt l (i + 1)).toNat).1), false) else if (l.getD i default).op = 9 then (0, decide ((reck l vs f (i + 1)).1 ≤ (reck l vs f (endAt l (i + 1)).toNat).1), false)
    else if (l.getD i default).op = 10 then (0, decide ((reck l vs f (i + 1)).1 = (reck l vs f (endAt l (i + 1)).toNat).1), false) else if (l.getD i default).op = 11 then (0, !decide ((reck l vs f (i + 1)).1 = (reck l vs f (endAt l (i + 1)).toNat).1), false) else reck l vs f (endAt l (i + 1)).toNat := rfl
theorem wrap_I64 (n : Int) : I64 (IntKind.i64.wrap n) := by
  unfold I64 IntKind.wrap; simp [IntKind.bits, IntKind.signed]; omega
theorem zero_I64 : I64 0 := by unfold I64; omega
theorem kids_lt {l : List NodeD} (w : WholeL l) {i : Nat} (hi : i < l.length) (h : 1 ≤ kparts (l.getD i default).op) : i + 1 < l.length ∧ numN l (i + 1) = numN l i + kparts (l.getD i default).op - 1 := by
  have h1 := w.pos i hi
  have h2 := numN_succ hi
  have e : l.getD i default = l[i] := by simp [List.getD, List.getElem?_eq_getElem hi]
  rw [e] at h ⊢
  refine ⟨?_, h2⟩
  rcases Nat.lt_or_ge (i + 1) l.length with h3 | h3
  · exact h3
  · have h4 : i + 1 = l.length := by omega
    have h5 := w.zero
    rw [← h4] at h5
    omega
theorem second_lt {l : List NodeD} (w : WholeL l) {i : Nat} (hi : i < l.length) (h : kparts (l.getD i default).op = 2) : ∃ e : Nat, endAt l (i + 1) = e ∧ i + 1 < e ∧ e < l.length := by
  obtain ⟨h1, h2⟩ := kids_lt w hi (by omega)
  obtain ⟨e, e1, e2, e3, e4⟩ := whole_end w h1
  have h3 := w.pos i hi
  refine ⟨e, e1, e2, ?_⟩
  rcases Nat.lt_or_ge e l.length with h5 | h5
  · exact h5
  · have h6 : e = l.length := by omega
    have h7 := w.zero
    rw [h6] at e4
    omega
set_option maxRecDepth 20000 in
set_option maxHeartbeats 32000000 in
theorem c_reckon (l : List NodeD) (hl : l.length ≤ 64 ∧ ∀ x ∈ l, x.ok) (vs : List Int) (hvl : vs.length ≤ 1048576) (hv : ∀ v ∈ vs, I64 v) (w : WholeL l) (hk : ∀ i, i < l.length → rightAt l vs.length i = false) :
    ∀ (f i : Nat), i < l.length → l.length - i ≤ f → I64 (reck l vs f i).1 ∧ PC 191 [vl NodeD.cells l, .int .i64 i, .vec (ivs vs) vs.length] (rT (reck l vs f i)) := by
  intro f
  induction f with
  | zero => intro i h1 h2; omega
  | succ f ih =>
    intro i hi hf
    obtain ⟨x, hx⟩ : ∃ x, l[i] = x := ⟨_, rfl⟩
    have hxd : l.getD i default = x := by simp [List.getD, List.getElem?_eq_getElem hi, hx]
    have hxo := hl.2 x (hx ▸ List.getElem_mem hi)
    have hb := hk i hi
    unfold rightAt at hb
    rw [Bool.or_eq_false_iff] at hb
    have hb1 := hb.1
    clear hb
    have hk1 := fun h => kids_lt w hi h
    have hk2 := fun h => second_lt w hi h
    rw [hxd] at hb1 hk1 hk2
    rw [reck_succ, hxd]
    have hi' : (i : Int) < l.length := by omega
    have w1 : IntKind.i64.wrap ((i : Int) + 1) = ((i + 1 : Nat) : Int) := by rw [wI (by omega) (by omega)]; omega
    have hE := c_End l ⟨by have := hl.1; omega, hl.2⟩ (i + 1) (by have := hl.1; omega)
    obtain ⟨o, n⟩ := x
    have hno : I64 n := hxo.2
    simp only at hb1 hk1 hk2 ⊢
    unfold nodeBad at hb1
    rw [Bool.or_eq_false_iff, Bool.not_eq_false', decide_eq_false_iff_not] at hb1
    obtain ⟨hkn, hnn⟩ := hb1
    simp only at hkn hnn
    have hko : 1 ≤ o ∧ o ≤ 14 := by simpa [known] using hkn
    have hcell : (l.map NodeD.cells)[i]'(by simpa using hi) = [.int .u8 o, .int .i64 n] := by simp [hx, NodeD.cells]
    by_cases o1 : o = 1
    · subst o1
      refine ⟨hno, ?_⟩
      simp only [rT, vl, if_true]
      refine pB Tryz.func191 rfl (by decide) Tryz.ntmps191 (by simp) Tryz.results191 ?_
      repeat' (first
 |refine aK fun K hK=>?_|refine Step.by1 ?_|refine sE (by decide) ?_|refine cz rfl ?_|refine Fork.by2 (fun h=>?_) fun h=>?_
 |(refine aR ?_;simp [hi, hi', hx, NodeD.cells])
 |(refine Split.by2 (fun h=>?_) (fun h=>?_)<;>(simp [h, hi, hi', hx, NodeD.cells]))
 |(apply hK;clear hK K)|refine AWh ‹_› ?_)
      exact retqc rfl (by simp) (cE (by simp) (by simp))
    by_cases o2 : o = 2
    · subst o2
      have hn0 : 0 ≤ n ∧ n < vs.length := by
        simp at hnn
        omega
      obtain ⟨m, rfl⟩ := Int.eq_ofNat_of_zero_le hn0.1
      have hm : m < vs.length := by omega
      have hm' : (m : Int) < vs.length := by omega
      obtain ⟨v, hvv⟩ : ∃ v, vs[m] = v := ⟨_, rfl⟩
      have hvd : vs.getD m 0 = v := by simp [List.getD, List.getElem?_eq_getElem hm, hvv]
      have hiv : (ivs vs).length = vs.length := by simp [ivs]
      have hig : (ivs vs)[m]'(by omega) = [.int .i64 v] := by simp [ivs, hvv]
      refine ⟨by simp [List.getElem?_eq_getElem hm, hvv]; exact hv v (hvv ▸ List.getElem_mem hm), ?_⟩
      simp only [rT, vl, hvd, Int.toNat_natCast]
      refine pB Tryz.func191 rfl (by decide) Tryz.ntmps191 (by simp) Tryz.results191 ?_
      repeat' (first
 |refine aK fun K hK=>?_|refine Step.by1 ?_|refine sE (by decide) ?_|refine cz rfl ?_|refine Fork.by2 (fun h=>?_) fun h=>?_
 |(refine aR ?_;simp [hi, hi', hx, NodeD.cells, hm, hm', hiv, hig])
 |(refine Split.by2 (fun h=>?_) (fun h=>?_)<;>(simp [h, hi, hi', hx, NodeD.cells, hm, hm', hiv, hig]))
 |(apply hK;clear hK K)|refine AWh ‹_› ?_)
      exact retqc rfl (by simp) (cE (by simp) (by simp))
    by_cases o7 : o = 7
    · subst o7
      refine ⟨by simp; exact zero_I64, ?_⟩
      simp only [rT, vl]
      refine pB Tryz.func191 rfl (by decide) Tryz.ntmps191 (by simp) Tryz.results191 ?_
      repeat' (first
 |refine aK fun K hK=>?_|refine Step.by1 ?_|refine sE (by decide) ?_|refine cz rfl ?_|refine Fork.by2 (fun h=>?_) fun h=>?_
 |(refine aR ?_;simp [hi, hi', hx, NodeD.cells])
 |(refine Split.by2 (fun h=>?_) (fun h=>?_)<;>(simp [h, hi, hi', hx, NodeD.cells]))
 |(apply hK;clear hK K)|refine AWh ‹_› ?_)
      exact retqc rfl (by simp) (cE (by simp) (by simp))
    obtain ⟨j1, j2⟩ := hk1 (by
      rcases known_cases hko with h | h | h | h | h | h | h | h | h | h | h | h | h | h <;> subst h <;> first | decide | omega)
    obtain ⟨iA, hA⟩ := ih (i + 1) j1 (by clear hk1 hk2; omega)
    rw [if_neg o1, if_neg o2, if_neg o7]
    obtain ⟨a, ha⟩ : ∃ a, reck l vs f (i + 1) = a := ⟨_, rfl⟩
    rw [ha] at iA hA ⊢
    obtain ⟨an, ay, ao⟩ := a
    simp only at iA hA ⊢
    simp only [rT, vl] at hA hE
    have e1 : (l.map NodeD.cells).length = l.length := by simp
    cases ao
    · by_cases o3 : o = 3
      · subst o3
        have hN := c_xopp an
        simp only [rT, negT] at hN
        refine ⟨by simp [negT]; exact wrap_I64 _, ?_⟩
        simp only [rT, vl, negT]
        refine pB Tryz.func191 rfl (by decide) Tryz.ntmps191 (by simp) Tryz.results191 ?_
        repeat' (first
 |refine aK fun K hK=>?_|refine Step.by1 ?_|refine sE (by decide) ?_|refine cz rfl ?_|refine Fork.by2 (fun h=>?_) fun h=>?_
 |((first|refine aR ?_|refine aC (f:=191) rfl rfl (hA) rfl rfl rfl ?_|refine aC (f:=242) rfl rfl (hN) rfl rfl rfl ?_);simp [hi, hi', hx, NodeD.cells, w1])
 |(refine Split.by2 (fun h=>?_) (fun h=>?_)<;>(simp [h, hi, hi', hx, NodeD.cells, w1]))
 |(apply hK;clear hK K)|refine AWh ‹_› ?_)
        exact retqc rfl (by simp) (cE (by simp) (by simp))
      by_cases o12 : o = 12
      · subst o12
        refine ⟨by simp; exact zero_I64, ?_⟩
        simp only [rT, vl]
        refine pB Tryz.func191 rfl (by decide) Tryz.ntmps191 (by simp) Tryz.results191 ?_
        repeat' (first
 |refine aK fun K hK=>?_|refine Step.by1 ?_|refine sE (by decide) ?_|refine cz rfl ?_|refine Fork.by2 (fun h=>?_) fun h=>?_
 |((first|refine aR ?_|refine aC (f:=191) rfl rfl (hA) rfl rfl rfl ?_);simp [hi, hi', hx, NodeD.cells, w1])
 |(refine Split.by2 (fun h=>?_) (fun h=>?_)<;>(simp [h, hi, hi', hx, NodeD.cells, w1]))
 |(apply hK;clear hK K)|refine AWh ‹_› ?_)
        exact retqc rfl (by simp) (cE (by simp) (by simp))
      by_cases o13 : (o = 13 ∧ ay = false) ∨ (o = 14 ∧ ay = true)
      · refine ⟨by simp [o3, o12, o13]; exact iA, ?_⟩
        rcases o13 with ⟨rfl, rfl⟩ | ⟨rfl, rfl⟩
        all_goals
          simp only [rT, vl]
          refine pB Tryz.func191 rfl (by decide) Tryz.ntmps191 (by simp) Tryz.results191 ?_
          repeat' (first
 |refine aK fun K hK=>?_|refine Step.by1 ?_|refine sE (by decide) ?_|refine cz rfl ?_|refine Fork.by2 (fun h=>?_) fun h=>?_
 |((first|refine aR ?_|refine aC (f:=191) rfl rfl (hA) rfl rfl rfl ?_);simp [hi, hi', hx, NodeD.cells, w1])
 |(refine Split.by2 (fun h=>?_) (fun h=>?_)<;>(simp [h, hi, hi', hx, NodeD.cells, w1]))
 |(apply hK;clear hK K)|refine AWh ‹_› ?_)
          exact retqc rfl (by simp) (cE (by simp) (by simp))
      obtain ⟨e, e2, e3, e4⟩ := hk2 (by
        rcases known_cases hko with h | h | h | h | h | h | h | h | h | h | h | h | h | h <;> subst h <;> first | decide | omega)
      obtain ⟨iB, hB⟩ := ih e e4 (by clear hk1 hk2; omega)
      rw [if_neg (by simp), if_neg o3, if_neg o12, if_neg o13]
      rw [e2] at hE ⊢
      rw [Int.toNat_natCast]
      obtain ⟨b, hb⟩ : ∃ b, reck l vs f e = b := ⟨_, rfl⟩
      rw [hb] at iB hB ⊢
      obtain ⟨bn, yb, bo⟩ := b
      simp only at iB hB ⊢
      simp only [rT, vl] at hB
      clear hk1 hk2 ih ha hb hk w hl e2 hxd hno hxo hnn hkn hf
      have q13 : o = 13 → ay = true := fun h => by cases ay; exact absurd (Or.inl ⟨h, rfl⟩) o13; rfl
      have q14 : o = 14 → ay = false := fun h => by cases ay; rfl; exact absurd (Or.inr ⟨h, rfl⟩) o13
      cases bo
      · have hN4 := c_xplus an bn
        have hN6 := c_xtimes an bn iA iB
        have hs64 := wrap_I64 (an + bn)
        have hd64 := wrap_I64 (an - bn)
        have hm64 : I64 (mulT an bn).1 := by
          unfold mulT
          split
          · assumption
          · exact zero_I64
        rcases known_cases hko with h | h | h | h | h | h | h | h | h | h | h | h | h | h
        · exact absurd h o1
        · exact absurd h o2
        · exact absurd h o3
        · subst h
          refine ⟨by simpa [addT] using hs64, ?_⟩
          simp only [rT, addT] at hN4
          simp only [rT, vl, addT]
          generalize ((decide (an < 0) == decide (bn < 0)) && (decide (IntKind.i64.wrap (an + bn) < 0) != decide (an < 0))) = ov at *
          refine pB Tryz.func191 rfl (by decide) Tryz.ntmps191 (by simp) Tryz.results191 ?_
          repeat' (first
 |refine aK fun K hK=>?_|refine Step.by1 ?_|refine sE (by decide) ?_|refine cz rfl ?_|refine Fork.by2 (fun h=>?_) fun h=>?_
 |((first|refine aR ?_|refine aC (f:=191) rfl rfl (hA) rfl rfl rfl ?_|refine aC (f:=240) rfl rfl (hE) rfl rfl rfl ?_|refine aC (f:=191) rfl rfl (hB) rfl rfl rfl ?_|refine aC (f:=243) rfl rfl (hN4) rfl rfl rfl ?_);simp [hi, hi', hx, NodeD.cells, w1])
 |(refine Split.by2 (fun h=>?_) (fun h=>?_)<;>(simp [h, hi, hi', hx, NodeD.cells, w1]))
 |(apply hK;clear hK K)|refine AWh ‹_› ?_)
          exact retqc rfl (by simp) (cE (by simp) (by simp))
        · subst h
          refine ⟨by simpa [subT] using hd64, ?_⟩
          simp only [rT, vl, subT]
          generalize hsa : decide (an < 0) = sa
          generalize hsb : decide (bn < 0) = sb
          generalize hsd : IntKind.i64.wrap (an - bn) = d
          generalize hss : decide (d < 0) = ss
          refine pB Tryz.func191 rfl (by decide) Tryz.ntmps191 (by simp) Tryz.results191 ?_
          cases sa <;> cases sb <;> cases ss
          all_goals
            repeat' (first
 |refine aK fun K hK=>?_|refine Step.by1 ?_|refine sE (by decide) ?_|refine cz rfl ?_|refine Fork.by2 (fun h=>?_) fun h=>?_
 |((first|refine aR ?_|refine aC (f:=191) rfl rfl (hA) rfl rfl rfl ?_|refine aC (f:=240) rfl rfl (hE) rfl rfl rfl ?_|refine aC (f:=191) rfl rfl (hB) rfl rfl rfl ?_);simp [hi, hi', hx, NodeD.cells, w1, hsa, hsb, hsd, hss])
 |(refine Split.by2 (fun h=>?_) (fun h=>?_)<;>(simp [h, hi, hi', hx, NodeD.cells, w1, hsa, hsb, hsd, hss]))
 |(apply hK;clear hK K)|refine AWh ‹_› ?_)
            exact retqc rfl (by simp) (cE (by simp) (by simp))
        · subst h
          refine ⟨by simpa using hm64, ?_⟩
          simp only [rT] at hN6
          simp only [rT, vl]
          generalize mulT an bn = q at *
          obtain ⟨qn, qy, qo⟩ := q
          simp only at hN6
          refine pB Tryz.func191 rfl (by decide) Tryz.ntmps191 (by simp) Tryz.results191 ?_
          repeat' (first
 |refine aK fun K hK=>?_|refine Step.by1 ?_|refine sE (by decide) ?_|refine cz rfl ?_|refine Fork.by2 (fun h=>?_) fun h=>?_
 |((first|refine aR ?_|refine aC (f:=191) rfl rfl (hA) rfl rfl rfl ?_|refine aC (f:=240) rfl rfl (hE) rfl rfl rfl ?_|refine aC (f:=191) rfl rfl (hB) rfl rfl rfl ?_|refine aC (f:=244) rfl rfl (hN6) rfl rfl rfl ?_);simp [hi, hi', hx, NodeD.cells, w1])
 |(refine Split.by2 (fun h=>?_) (fun h=>?_)<;>(simp [h, hi, hi', hx, NodeD.cells, w1]))
 |(apply hK;clear hK K)|refine AWh ‹_› ?_)
          exact retqc rfl (by simp) (cE (by simp) (by simp))
        · exact absurd h o7
        · subst h
          refine ⟨by simp; exact zero_I64, ?_⟩
          simp only [rT, vl]
          refine pB Tryz.func191 rfl (by decide) Tryz.ntmps191 (by simp) Tryz.results191 ?_
          repeat' (first
 |refine aK fun K hK=>?_|refine Step.by1 ?_|refine sE (by decide) ?_|refine cz rfl ?_|refine Fork.by2 (fun h=>?_) fun h=>?_
 |((first|refine aR ?_|refine aC (f:=191) rfl rfl (hA) rfl rfl rfl ?_|refine aC (f:=240) rfl rfl (hE) rfl rfl rfl ?_|refine aC (f:=191) rfl rfl (hB) rfl rfl rfl ?_);simp [hi, hi', hx, NodeD.cells, w1])
 |(refine Split.by2 (fun h=>?_) (fun h=>?_)<;>(simp [h, hi, hi', hx, NodeD.cells, w1]))
 |(apply hK;clear hK K)|refine AWh ‹_› ?_)
          exact retqc rfl (by simp) (cE (by simp) (by simp))
        · subst h
          refine ⟨by simp; exact zero_I64, ?_⟩
          simp only [rT, vl]
          refine pB Tryz.func191 rfl (by decide) Tryz.ntmps191 (by simp) Tryz.results191 ?_
          repeat' (first
 |refine aK fun K hK=>?_|refine Step.by1 ?_|refine sE (by decide) ?_|refine cz rfl ?_|refine Fork.by2 (fun h=>?_) fun h=>?_
 |((first|refine aR ?_|refine aC (f:=191) rfl rfl (hA) rfl rfl rfl ?_|refine aC (f:=240) rfl rfl (hE) rfl rfl rfl ?_|refine aC (f:=191) rfl rfl (hB) rfl rfl rfl ?_);simp [hi, hi', hx, NodeD.cells, w1])
 |(refine Split.by2 (fun h=>?_) (fun h=>?_)<;>(simp [h, hi, hi', hx, NodeD.cells, w1]))
 |(apply hK;clear hK K)|refine AWh ‹_› ?_)
          exact retqc rfl (by simp) (cE (by simp) (by simp))
        · subst h
          refine ⟨by simp; exact zero_I64, ?_⟩
          simp only [rT, vl]
          refine pB Tryz.func191 rfl (by decide) Tryz.ntmps191 (by simp) Tryz.results191 ?_
          repeat' (first
 |refine aK fun K hK=>?_|refine Step.by1 ?_|refine sE (by decide) ?_|refine cz rfl ?_|refine Fork.by2 (fun h=>?_) fun h=>?_
 |((first|refine aR ?_|refine aC (f:=191) rfl rfl (hA) rfl rfl rfl ?_|refine aC (f:=240) rfl rfl (hE) rfl rfl rfl ?_|refine aC (f:=191) rfl rfl (hB) rfl rfl rfl ?_);simp [hi, hi', hx, NodeD.cells, w1])
 |(refine Split.by2 (fun h=>?_) (fun h=>?_)<;>(simp [h, hi, hi', hx, NodeD.cells, w1]))
 |(apply hK;clear hK K)|refine AWh ‹_› ?_)
          exact retqc rfl (by simp) (cE (by simp) (by simp))
        · subst h
          refine ⟨by simp; exact zero_I64, ?_⟩
          simp only [rT, vl]
          refine pB Tryz.func191 rfl (by decide) Tryz.ntmps191 (by simp) Tryz.results191 ?_
          repeat' (first
 |refine aK fun K hK=>?_|refine Step.by1 ?_|refine sE (by decide) ?_|refine cz rfl ?_|refine Fork.by2 (fun h=>?_) fun h=>?_
 |((first|refine aR ?_|refine aC (f:=191) rfl rfl (hA) rfl rfl rfl ?_|refine aC (f:=240) rfl rfl (hE) rfl rfl rfl ?_|refine aC (f:=191) rfl rfl (hB) rfl rfl rfl ?_);simp [hi, hi', hx, NodeD.cells, w1])
 |(refine Split.by2 (fun h=>?_) (fun h=>?_)<;>(simp [h, hi, hi', hx, NodeD.cells, w1]))
 |(apply hK;clear hK K)|refine AWh ‹_› ?_)
          exact retqc rfl (by simp) (cE (by simp) (by simp))
        · exact absurd h o12
        · subst h
          obtain rfl := q13 rfl
          refine ⟨by simp; exact iB, ?_⟩
          simp only [rT, vl]
          refine pB Tryz.func191 rfl (by decide) Tryz.ntmps191 (by simp) Tryz.results191 ?_
          repeat' (first
 |refine aK fun K hK=>?_|refine Step.by1 ?_|refine sE (by decide) ?_|refine cz rfl ?_|refine Fork.by2 (fun h=>?_) fun h=>?_
 |((first|refine aR ?_|refine aC (f:=191) rfl rfl (hA) rfl rfl rfl ?_|refine aC (f:=240) rfl rfl (hE) rfl rfl rfl ?_|refine aC (f:=191) rfl rfl (hB) rfl rfl rfl ?_);simp [hi, hi', hx, NodeD.cells, w1])
 |(refine Split.by2 (fun h=>?_) (fun h=>?_)<;>(simp [h, hi, hi', hx, NodeD.cells, w1]))
 |(apply hK;clear hK K)|refine AWh ‹_› ?_)
          exact retqc rfl (by simp) (cE (by simp) (by simp))
        · subst h
          obtain rfl := q14 rfl
          refine ⟨by simp; exact iB, ?_⟩
          simp only [rT, vl]
          refine pB Tryz.func191 rfl (by decide) Tryz.ntmps191 (by simp) Tryz.results191 ?_
          repeat' (first
 |refine aK fun K hK=>?_|refine Step.by1 ?_|refine sE (by decide) ?_|refine cz rfl ?_|refine Fork.by2 (fun h=>?_) fun h=>?_
 |((first|refine aR ?_|refine aC (f:=191) rfl rfl (hA) rfl rfl rfl ?_|refine aC (f:=240) rfl rfl (hE) rfl rfl rfl ?_|refine aC (f:=191) rfl rfl (hB) rfl rfl rfl ?_);simp [hi, hi', hx, NodeD.cells, w1])
 |(refine Split.by2 (fun h=>?_) (fun h=>?_)<;>(simp [h, hi, hi', hx, NodeD.cells, w1]))
 |(apply hK;clear hK K)|refine AWh ‹_› ?_)
          exact retqc rfl (by simp) (cE (by simp) (by simp))
      · refine ⟨by simp; exact iB, ?_⟩
        simp only [rT, vl, if_true]
        by_cases p13 : o = 13
        · obtain rfl := q13 p13
          refine pB Tryz.func191 rfl (by decide) Tryz.ntmps191 (by simp) Tryz.results191 ?_
          repeat' (first
 |refine aK fun K hK=>?_|refine Step.by1 ?_|refine sE (by decide) ?_|refine cz rfl ?_|refine Fork.by2 (fun h=>?_) fun h=>?_
 |((first|refine aR ?_|refine aC (f:=191) rfl rfl (hA) rfl rfl rfl ?_|refine aC (f:=240) rfl rfl (hE) rfl rfl rfl ?_|refine aC (f:=191) rfl rfl (hB) rfl rfl rfl ?_);simp [hi, hi', hx, NodeD.cells, p13, w1])
 |(refine Split.by2 (fun h=>?_) (fun h=>?_)<;>(simp [h, hi, hi', hx, NodeD.cells, p13, w1]))
 |(apply hK;clear hK K)|refine AWh ‹_› ?_)
          exact retqc rfl (by simp) (cE (by simp) (by simp))
        · by_cases p14 : o = 14
          · obtain rfl := q14 p14
            refine pB Tryz.func191 rfl (by decide) Tryz.ntmps191 (by simp) Tryz.results191 ?_
            repeat' (first
 |refine aK fun K hK=>?_|refine Step.by1 ?_|refine sE (by decide) ?_|refine cz rfl ?_|refine Fork.by2 (fun h=>?_) fun h=>?_
 |((first|refine aR ?_|refine aC (f:=191) rfl rfl (hA) rfl rfl rfl ?_|refine aC (f:=240) rfl rfl (hE) rfl rfl rfl ?_|refine aC (f:=191) rfl rfl (hB) rfl rfl rfl ?_);simp [hi, hi', hx, NodeD.cells, p14, w1])
 |(refine Split.by2 (fun h=>?_) (fun h=>?_)<;>(simp [h, hi, hi', hx, NodeD.cells, p14, w1]))
 |(apply hK;clear hK K)|refine AWh ‹_› ?_)
            exact retqc rfl (by simp) (cE (by simp) (by simp))
          · refine pB Tryz.func191 rfl (by decide) Tryz.ntmps191 (by simp) Tryz.results191 ?_
            repeat' (first
 |refine aK fun K hK=>?_|refine Step.by1 ?_|refine sE (by decide) ?_|refine cz rfl ?_|refine Fork.by2 (fun h=>?_) fun h=>?_
 |((first|refine aR ?_|refine aC (f:=191) rfl rfl (hA) rfl rfl rfl ?_|refine aC (f:=240) rfl rfl (hE) rfl rfl rfl ?_|refine aC (f:=191) rfl rfl (hB) rfl rfl rfl ?_);simp [hi, hi', hx, NodeD.cells, o1, o2, o3, o7, o12, p13, p14, w1])
 |(refine Split.by2 (fun h=>?_) (fun h=>?_)<;>(simp [h, hi, hi', hx, NodeD.cells, o1, o2, o3, o7, o12, p13, p14, w1]))
 |(apply hK;clear hK K)|refine AWh ‹_› ?_)
            exact retqc rfl (by simp) (cE (by simp) (by simp))
    · refine ⟨iA, ?_⟩
      simp only [rT, vl, if_true]
      refine pB Tryz.func191 rfl (by decide) Tryz.ntmps191 (by simp) Tryz.results191 ?_
      repeat' (first
 |refine aK fun K hK=>?_|refine Step.by1 ?_|refine sE (by decide) ?_|refine cz rfl ?_|refine Fork.by2 (fun h=>?_) fun h=>?_
 |((first|refine aR ?_|refine aC (f:=191) rfl rfl (hA) rfl rfl rfl ?_);simp [hi, hi', hx, NodeD.cells, o1, o2, o7, w1])
 |(refine Split.by2 (fun h=>?_) (fun h=>?_)<;>(simp [h, hi, hi', hx, NodeD.cells, o1, o2, o7, w1]))
 |(apply hK;clear hK K)|refine AWh ‹_› ?_)
      exact retqc rfl (by simp) (cE (by simp) (by simp))
def sumR (a b : Int) : Int × Bool := (IntKind.i64.wrap (a + b), (decide (0 ≤ b) && decide (a ≤ IntKind.i64.wrap (a + b))) || (decide (b < 0) && decide (IntKind.i64.wrap (a + b) < a)))
def subR (a b : Int) : Int × Bool := (IntKind.i64.wrap (a - b), (decide (0 ≤ b) && decide (IntKind.i64.wrap (a - b) ≤ a)) || (decide (b < 0) && decide (a < IntKind.i64.wrap (a - b))))
def mulR (a b : Int) : Int × Bool := if -9223372036854775808 ≤ a * b ∧ a * b ≤ 9223372036854775807 then (a * b, true) else (0, false)
def valE (l : List NodeD) (vs : List Int) : Nat → Nat → Int × Bool
  | 0, _ => (0, false)
  | f + 1, i =>
    if (l.getD i default).op = 1 then ((l.getD i default).n, true) else if (l.getD i default).op = 2 then (vs.getD (l.getD i default).n.toNat 0, true) else if (l.getD i default).op = 7 then (1, true) else
    if (valE l vs f (i + 1)).2 = false then (0, false) else if (l.getD i default).op = 3 then mulR (valE l vs f (i + 1)).1 (-1) else if (l.getD i default).op = 12 then (IntKind.i64.wrap (1 - (valE l vs f (i + 1)).1), true) else if ((l.getD i default).op = 13 ∧ (valE l vs f (i + 1)).1 = 0) ∨ ((l.getD i default).op = 14 ∧ (valE l vs f (i + 1)).1 = 1) then ((valE l vs f (i + 1)).1, true) else
    if (valE l vs f (endAt l (i + 1)).toNat).2 = false then (0, false) else if (l.getD i default).op = 4 then sumR (valE l vs f (i + 1)).1 (valE l vs f (endAt l (i + 1)).toNat).1 else if (l.getD i default).op = 5 then subR (valE l vs f (i + 1)).1 (valE l vs f (endAt l (i + 1)).toNat).1 else if (l.getD i default).op = 6 then mulR (valE l vs f (i + 1)).1 (valE l vs f (endAt l (i + 1)).toNat).1 else if (l.getD i default).op = 8 then (if (valE l vs f (i + 1)).1 < (valE l vs f (endAt l (i + 1)).toNat).1 then 1 else 0, true) else if (l.getD i default).op = 9 then (if (valE l vs f (i + 1)).1 ≤ (valE l vs f (endAt l (i + 1)).toNat).1 then 1 else 0, true)
    else if (l.getD i default).op = 10 then (if (valE l vs f (i + 1)).1 = (valE l vs f (endAt l (i + 1)).toNat).1 then 1 else 0, true) else if (l.getD i default).op = 11 then (if (valE l vs f (i + 1)).1 = (valE l vs f (endAt l (i + 1)).toNat).1 then 0 else 1, true) else ((valE l vs f (endAt l (i + 1)).toNat).1, true)
theorem valE_succ {l : List NodeD} {vs : List Int} {f i : Nat} : valE l vs (f + 1) i =
    if (l.getD i default).op = 1 then ((l.getD i default).n, true) else if (l.getD i default).op = 2 then (vs.getD (l.getD i default).n.toNat 0, true) else if (l.getD i default).op = 7 then (1, true) else
    if (valE l vs f (i + 1)).2 = false then (0, false) else if (l.getD i default).op = 3 then mulR (valE l vs f (i + 1)).1 (-1) else if (l.getD i default).op = 12 then (IntKind.i64.wrap (1 - (valE l vs f (i + 1)).1), true) else if ((l.getD i default).op = 13 ∧ (valE l vs f (i + 1)).1 = 0) ∨ ((l.getD i default).op = 14 ∧ (valE l vs f (i + 1)).1 = 1) then ((valE l vs f (i + 1)).1, true) else
    if (valE l vs f (endAt l (i + 1)).toNat).2 = false then (0, false) else if (l.getD i default).op = 4 then sumR (valE l vs f (i + 1)).1 (valE l vs f (endAt l (i + 1)).toNat).1 else if (l.getD i default).op = 5 then subR (valE l vs f (i + 1)).1 (valE l vs f (endAt l (i + 1)).toNat).1 else if (l.getD i default).op = 6 then mulR (valE l vs f (i + 1)).1 (valE l vs f (endAt l (i + 1)).toNat).1 else if (l.getD i default).op = 8 then (if (valE l vs f (i + 1)).1 < (valE l vs f (endAt l (i + 1)).toNat).1 then 1 else 0, true) else if (l.getD i default).op = 9 then (if (valE l vs f (i + 1)).1 ≤ (valE l vs f (endAt l (i + 1)).toNat).1 then 1 else 0, true)
    else if (l.getD i default).op = 10 then (if (valE l vs f (i + 1)).1 = (valE l vs f (endAt l (i + 1)).toNat).1 then 1 else 0, true) else if (l.getD i default).op = 11 then (if (valE l vs f (i + 1)).1 = (valE l vs f (endAt l (i + 1)).toNat).1 then 0 else 1, true) else ((valE l vs f (endAt l (i + 1)).toNat).1, true) := rfl
end Go.Proofs.YtbgooadmonnjaaaGreatDoor
end
