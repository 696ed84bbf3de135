/-
  YtbgooadmonnjaaaGreatDoorRc24: steps of the proof of a law of the program: what these texts prove holds under the hypotheses that their theorems name, and no others.
-/
import Derived.Test.YtbgooadmonnjaaaGreatDoorRc21
import Derived.Test.YtbgooadmonnjaaaGreatDoorRc20
import Derived.Test.YtbgooadmonnjaaaGreatDoorRc23
section
set_option linter.unusedSimpArgs false
set_option linter.unusedVariables false
namespace Go.Proofs.YtbgooadmonnjaaaGreatDoor
open Go Go.AM Fx
def fitB (z : Int) : Bool := decide (-9223372036854775808 ≤ z ∧ z ≤ 9223372036854775807)
theorem c_number (z : Int) (hz : z.natAbs < 340282366920938463463374607431768211456) : PC 167 [zV z] (.tup [.int .i64 (if fitB z = true then z else 0), .bool (fitB z)]) := by
  have hs : z = if decide (z < 0) = true then -(z.natAbs : Int) else z.natAbs := by split <;> simp_all <;> omega
  have hf : fitB z = decide (-9223372036854775808 ≤ z ∧ z ≤ 9223372036854775807) := rfl
  simp only [zV, zC, mC]
  have hpos : decide (z < 0) = true → 0 < z.natAbs := fun h => by simp at h; omega
  generalize z.natAbs = m at *
  generalize decide (z < 0) = s at *
  rw [hf]
  clear hf
  cases s
  · simp only [Bool.false_eq_true, if_false] at hs
    subst hs
    by_cases hfit : (m : Int) ≤ 9223372036854775807
    · have e1 : ¬ (0 : Int) < (m : Int) / 18446744073709551616 := by omega
      have e2 : ¬ (9223372036854775808 : Int) < (m : Int) % 18446744073709551616 := by omega
      have e3 : ¬ (m : Int) % 18446744073709551616 = 9223372036854775808 := by omega
      have e4 : IntKind.i64.wrap ((m : Int) % 18446744073709551616) = m := by rw [wI (by omega) (by omega)]; omega
      have e5 : -9223372036854775808 ≤ (m : Int) := by omega
      refine pB Tryz.func167 rfl (by decide) Tryz.ntmps167 (by simp) Tryz.results167 ?_
      repeat' (first
 |refine aK fun K hK=>?_|refine Step.by1 ?_|refine sE (by decide) ?_|refine cz rfl ?_|refine Fork.by2 (fun h=>?_) fun h=>?_
 |(refine aR ?_;simp [e1, e2, e3, e4])
 |(refine Split.by2 (fun h=>?_) (fun h=>?_)<;>(simp [h, e1, e2, e3, e4]))
 |(apply hK;clear hK K)|refine AWh ‹_› ?_)
      exact retq2 (cE (by simp [hfit, e5]) (by simp))
    · have e5 : ¬ (-9223372036854775808 ≤ (m : Int) ∧ (m : Int) ≤ 9223372036854775807) := by omega
      rcases (show (0 : Int) < (m : Int) / 18446744073709551616 ∨ (¬ (0 : Int) < (m : Int) / 18446744073709551616 ∧ (9223372036854775808 : Int) < (m : Int) % 18446744073709551616) ∨ (¬ (0 : Int) < (m : Int) / 18446744073709551616 ∧ ¬ (9223372036854775808 : Int) < (m : Int) % 18446744073709551616 ∧ (m : Int) % 18446744073709551616 = 9223372036854775808) by omega) with e1 | ⟨e1, e2⟩ | ⟨e1, e2, e3⟩
      · refine pB Tryz.func167 rfl (by decide) Tryz.ntmps167 (by simp) Tryz.results167 ?_
        repeat' (first
 |refine aK fun K hK=>?_|refine Step.by1 ?_|refine sE (by decide) ?_|refine cz rfl ?_|refine Fork.by2 (fun h=>?_) fun h=>?_
 |(refine aR ?_;simp [e1])
 |(refine Split.by2 (fun h=>?_) (fun h=>?_)<;>(simp [h, e1]))
 |(apply hK;clear hK K)|refine AWh ‹_› ?_)
        exact retq2 (cE (by rw [if_neg (by simpa using e5), decide_eq_false e5]; rfl) (by simp))
      · refine pB Tryz.func167 rfl (by decide) Tryz.ntmps167 (by simp) Tryz.results167 ?_
        repeat' (first
 |refine aK fun K hK=>?_|refine Step.by1 ?_|refine sE (by decide) ?_|refine cz rfl ?_|refine Fork.by2 (fun h=>?_) fun h=>?_
 |(refine aR ?_;simp [e1, e2])
 |(refine Split.by2 (fun h=>?_) (fun h=>?_)<;>(simp [h, e1, e2]))
 |(apply hK;clear hK K)|refine AWh ‹_› ?_)
        exact retq2 (cE (by rw [if_neg (by simpa using e5), decide_eq_false e5]; rfl) (by simp))
      · refine pB Tryz.func167 rfl (by decide) Tryz.ntmps167 (by simp) Tryz.results167 ?_
        repeat' (first
 |refine aK fun K hK=>?_|refine Step.by1 ?_|refine sE (by decide) ?_|refine cz rfl ?_|refine Fork.by2 (fun h=>?_) fun h=>?_
 |(refine aR ?_;simp [e1, e2, e3])
 |(refine Split.by2 (fun h=>?_) (fun h=>?_)<;>(simp [h, e1, e2, e3]))
 |(apply hK;clear hK K)|refine AWh ‹_› ?_)
        exact retq2 (cE (by rw [if_neg (by simpa using e5), decide_eq_false e5]; rfl) (by simp))
  · have hpos := hpos rfl
    simp only [if_true] at hs
    subst hs
    by_cases hfit : (m : Int) ≤ 9223372036854775808
    · have e1 : ¬ (0 : Int) < (m : Int) / 18446744073709551616 := by omega
      have e2 : ¬ (9223372036854775808 : Int) < (m : Int) % 18446744073709551616 := by omega
      have e4 : IntKind.i64.wrap (IntKind.u64.wrap (-((m : Int) % 18446744073709551616))) = -m := by rw [wrap_u64]; unfold IntKind.wrap; simp [IntKind.bits, IntKind.signed]; omega
      have e5 : -9223372036854775808 ≤ -(m : Int) ∧ -(m : Int) ≤ 9223372036854775807 := by omega
      have e6 : (if decide (-9223372036854775808 ≤ -(m : Int) ∧ -(m : Int) ≤ 9223372036854775807) = true then -(m : Int) else 0) = -m := if_pos (by simpa using e5)
      rw [e6, decide_eq_true e5]
      clear e5 e6 hfit hpos
      by_cases e3 : (m : Int) % 18446744073709551616 = 9223372036854775808
      · rw [e3] at e4
        refine pB Tryz.func167 rfl (by decide) Tryz.ntmps167 (by simp) Tryz.results167 ?_
        repeat' (first
 |refine aK fun K hK=>?_|refine Step.by1 ?_|refine sE (by decide) ?_|refine cz rfl ?_|refine Fork.by2 (fun h=>?_) fun h=>?_
 |(refine aR ?_;simp [e1, e3])
 |(refine Split.by2 (fun h=>?_) (fun h=>?_)<;>(simp [h, e1, e3]))
 |(apply hK;clear hK K)|refine AWh ‹_› ?_)
        exact retq2 (cE (by simp [e4]) (by simp))
      · generalize hy : IntKind.u64.wrap (-((m : Int) % 18446744073709551616)) = y at *
        refine pB Tryz.func167 rfl (by decide) Tryz.ntmps167 (by simp) Tryz.results167 ?_
        repeat' (first
 |refine aK fun K hK=>?_|refine Step.by1 ?_|refine sE (by decide) ?_|refine cz rfl ?_|refine Fork.by2 (fun h=>?_) fun h=>?_
 |(refine aR ?_;simp [e1, e2, e3])
 |(refine Split.by2 (fun h=>?_) (fun h=>?_)<;>(simp [h, e1, e2, e3]))
 |(apply hK;clear hK K)|refine AWh ‹_› ?_)
        exact retq2 (cE (by simp [e4, hy]) (by simp))
    · have e5 : ¬ (-9223372036854775808 ≤ -(m : Int) ∧ -(m : Int) ≤ 9223372036854775807) := by omega
      rcases (show (0 : Int) < (m : Int) / 18446744073709551616 ∨ (¬ (0 : Int) < (m : Int) / 18446744073709551616 ∧ (9223372036854775808 : Int) < (m : Int) % 18446744073709551616) by omega) with e1 | ⟨e1, e2⟩
      · refine pB Tryz.func167 rfl (by decide) Tryz.ntmps167 (by simp) Tryz.results167 ?_
        repeat' (first
 |refine aK fun K hK=>?_|refine Step.by1 ?_|refine sE (by decide) ?_|refine cz rfl ?_|refine Fork.by2 (fun h=>?_) fun h=>?_
 |(refine aR ?_;simp [e1])
 |(refine Split.by2 (fun h=>?_) (fun h=>?_)<;>(simp [h, e1]))
 |(apply hK;clear hK K)|refine AWh ‹_› ?_)
        exact retq2 (cE (by rw [if_neg (by simpa using e5), decide_eq_false e5]; rfl) (by simp))
      · refine pB Tryz.func167 rfl (by decide) Tryz.ntmps167 (by simp) Tryz.results167 ?_
        repeat' (first
 |refine aK fun K hK=>?_|refine Step.by1 ?_|refine sE (by decide) ?_|refine cz rfl ?_|refine Fork.by2 (fun h=>?_) fun h=>?_
 |(refine aR ?_;simp [e1, e2])
 |(refine Split.by2 (fun h=>?_) (fun h=>?_)<;>(simp [h, e1, e2]))
 |(apply hK;clear hK K)|refine AWh ‹_› ?_)
        exact retq2 (cE (by rw [if_neg (by simpa using e5), decide_eq_false e5]; rfl) (by simp))
/-- A fraction in lowest terms, its lower number above 0. -/
def lowQ (n : Int) (d : Nat) : RatD := ⟨if n < 0 then -((n.natAbs / Nat.gcd n.natAbs d : Nat) : Int) else ((n.natAbs / Nat.gcd n.natAbs d : Nat) : Int), ((d / Nat.gcd n.natAbs d : Nat) : Int)⟩
def lowE (n : Int) (d : Nat) : RatD × Int := if (fitB (lowQ n d).num && fitB (lowQ n d).den) = true then (lowQ n d, 0) else (⟨0, 0⟩, 20)
set_option maxHeartbeats 4000000 in
theorem c_made (n : Int) (d : Nat) (hn : n.natAbs < 340282366920938463463374607431768211456) (hd : 0 < d) (hd2 : d ≤ 170141183460469231731687303715884105728) :
    PC 101 [zV n, zV d] (.tup [.agg (lowE n d).1.cells, .int .i64 (lowE n d).2]) := by
  have h1 := c_common n.natAbs d hn hd2
  have hg : 0 < Nat.gcd n.natAbs d := Nat.gcd_pos_of_pos_right _ hd
  have hgd : Nat.gcd n.natAbs d ≤ d := Nat.gcd_le_right _ hd
  have h2 := c_over n.natAbs (Nat.gcd n.natAbs d) hn hg (by omega)
  have h3 := c_over d (Nat.gcd n.natAbs d) (by omega) hg (by omega)
  have h4 := c_isZero (n.natAbs / Nat.gcd n.natAbs d)
  have q1 : n.natAbs / Nat.gcd n.natAbs d ≤ n.natAbs := Nat.div_le_self _ _
  have q2 : d / Nat.gcd n.natAbs d ≤ d := Nat.div_le_self _ _
  have q3 : n < 0 → n.natAbs / Nat.gcd n.natAbs d ≠ 0 := fun h => by
    have hn0 : 0 < n.natAbs := by omega
    exact Nat.pos_iff_ne_zero.1 (Nat.div_pos (Nat.gcd_le_left _ hn0) hg)
  have e1 : zC (lowQ n d).num = mC (n.natAbs / Nat.gcd n.natAbs d) (decide (n < 0)) := by
    unfold zC lowQ
    generalize n.natAbs / Nat.gcd n.natAbs d = k at *
    simp only
    by_cases h : n < 0
    · have := q3 h
      rw [if_pos h]
      congr 1
      · omega
      · rw [decide_eq_decide]; constructor <;> intro _ <;> omega
    · rw [if_neg h]
      congr 1
      rw [decide_eq_decide]; constructor <;> intro _ <;> omega
  have e2 : zC (lowQ n d).den = mC (d / Nat.gcd n.natAbs d) false := by
    unfold zC lowQ
    generalize d / Nat.gcd n.natAbs d = k at *
    simp only
    congr 1
  have e3 : zC (d : Int) = mC d false := by
    unfold zC
    congr 1
  have h5 := c_number (lowQ n d).num (by rw [show (lowQ n d).num.natAbs = n.natAbs / Nat.gcd n.natAbs d by unfold lowQ; simp only; generalize n.natAbs / Nat.gcd n.natAbs d = k; split <;> omega]; omega)
  have h6 := c_number (lowQ n d).den (by rw [show (lowQ n d).den.natAbs = d / Nat.gcd n.natAbs d by unfold lowQ; simp only; generalize d / Nat.gcd n.natAbs d = k; omega]; omega)
  have hE : lowE n d = if (fitB (lowQ n d).num && fitB (lowQ n d).den) = true then (lowQ n d, 0) else (⟨0, 0⟩, 20) := rfl
  have q4 : decide (n < 0) = true → decide (n.natAbs / Nat.gcd n.natAbs d = 0) = false := fun h => by simpa using q3 (by simpa using h)
  simp only [zV, e1, e2] at h5 h6
  simp only [zV, e3, hE]
  clear hE e1 e2 e3 q1 q2 q3 hg hgd hn hd hd2
  generalize lowQ n d = Q at *
  obtain ⟨qn, qd⟩ := Q
  simp only [zC, wV, wC, mC] at h1 h2 h3 h4 h5 h6 ⊢
  generalize decide (n.natAbs / Nat.gcd n.natAbs d = 0) = z0 at *
  generalize n.natAbs / Nat.gcd n.natAbs d = N1 at *
  generalize d / Nat.gcd n.natAbs d = D1 at *
  generalize n.natAbs % Nat.gcd n.natAbs d = N2 at *
  generalize d % Nat.gcd n.natAbs d = D2 at *
  generalize Nat.gcd n.natAbs d = g at *
  generalize n.natAbs = m at *
  generalize decide (n < 0) = s at *
  generalize fitB qn = f1 at *
  generalize fitB qd = f2 at *
  refine pB Tryz.func101 rfl (by decide) Tryz.ntmps101 (by simp) Tryz.results101 ?_
  cases s <;> cases f1 <;> cases f2
  all_goals
    simp at q4 h5 h6
    repeat' (first
 |refine aK fun K hK=>?_|refine Step.by1 ?_|refine sE (by decide) ?_|refine cz rfl ?_|refine Fork.by2 (fun h=>?_) fun h=>?_
 |((first|refine aR ?_|refine aC (f:=165) rfl rfl (h1) rfl rfl rfl ?_|refine aC (f:=166) rfl rfl (h2) rfl rfl rfl ?_|refine aC (f:=166) rfl rfl (h3) rfl rfl rfl ?_|refine aC (f:=155) rfl rfl (h4) rfl rfl rfl ?_|refine aC (f:=167) rfl rfl (h5) rfl rfl rfl ?_|refine aC (f:=167) rfl rfl (h6) rfl rfl rfl ?_);simp [q4])
 |(refine Split.by2 (fun h=>?_) (fun h=>?_)<;>(simp [h, q4]))
 |(apply hK;clear hK K)|refine AWh ‹_› ?_)
    all_goals exact retq2ct rfl (by simp) (cE (by simp [RatD.cells]) (by simp))
theorem c_Of (n : Int) : PC 69 [.int .i64 n] (.agg (RatD.mk n 1).cells) := by
  refine pB Tryz.func69 rfl (by decide) Tryz.ntmps69 (by simp) Tryz.results69 ?_
  repeat' (first
 |refine aK fun K hK=>?_|refine Step.by1 ?_|refine sE (by decide) ?_|refine cz rfl ?_|refine Fork.by2 (fun h=>?_) fun h=>?_
 |(refine aR ?_;simp)
 |(refine Split.by2 (fun h=>?_) (fun h=>?_)<;>(simp [h]))
 |(apply hK;clear hK K)|refine AWh ‹_› ?_)
  exact retqc rfl (by simp) (cE (by simp [RatD.cells]) (by simp))
theorem natAbs_pos {d : Int} (h : 0 < d) : (d.natAbs : Int) = d := by omega
theorem c_New (n d : Int) (hn : I64 n) (hd : I64 d) (h0 : 0 < d) : PC 36 [.int .i64 n, .int .i64 d] (.tup [.agg (lowE n d.natAbs).1.cells, .int .i64 (lowE n d.natAbs).2]) := by
  have h1 := c_ofZ n hn
  have h2 := c_ofZ d hd
  have h3 := c_made n d.natAbs (by have := hn.1; have := hn.2; omega) (by omega) (by have := hd.2; omega)
  rw [natAbs_pos h0] at h3
  have hne : ¬ d = 0 := by omega
  simp only [zV, zC, mC] at h1 h2 h3
  generalize lowE n d.natAbs = p at *
  obtain ⟨⟨pn, pd⟩, pe⟩ := p
  simp only [RatD.cells] at h3 ⊢
  refine pB Tryz.func36 rfl (by decide) Tryz.ntmps36 (by simp) Tryz.results36 ?_
  repeat' (first
 |refine aK fun K hK=>?_|refine Step.by1 ?_|refine sE (by decide) ?_|refine cz rfl ?_|refine Fork.by2 (fun h=>?_) fun h=>?_
 |((first|refine aR ?_|refine aC (f:=102) rfl rfl (h1) rfl rfl rfl ?_|refine aC (f:=102) rfl rfl (h2) rfl rfl rfl ?_|refine aC (f:=101) rfl rfl (h3) rfl rfl rfl ?_);simp [hne])
 |(refine Split.by2 (fun h=>?_) (fun h=>?_)<;>(simp [h, hne]))
 |(apply hK;clear hK K)|refine AWh ‹_› ?_)
  exact retq2ct rfl (by simp) (cE (by simp) (by simp))
/-- A fraction in lowest terms. -/
def rightQ (r : RatD) : Bool := decide (1 ≤ r.den) && decide (Nat.gcd r.num.natAbs r.den.natAbs = 1)
theorem low_right {r : RatD} (hr : r.ok) (h : rightQ r = true) : lowE r.num r.den.natAbs = (r, 0) := by
  obtain ⟨⟨h1, h2⟩, h3, h4⟩ := hr
  simp only [rightQ, Bool.and_eq_true, decide_eq_true_eq] at h
  have e : lowQ r.num r.den.natAbs = r := by
    unfold lowQ
    rw [h.2, Nat.div_one, Nat.div_one]
    show RatD.mk _ _ = RatD.mk r.num r.den
    congr 1
    · split <;> omega
    · omega
  unfold lowE
  rw [e, if_pos (by simp [fitB, h1, h2, h3, h4])]
theorem low_wrong {r : RatD} (h1 : 1 ≤ r.den) (h : rightQ r = false) : ¬ ((lowE r.num r.den.natAbs).2 = 0 ∧ (lowE r.num r.den.natAbs).1 = r) := by
  rintro ⟨e2, e1⟩
  have hg : Nat.gcd r.num.natAbs r.den.natAbs ≠ 1 := by
    intro hg
    simp [rightQ, h1, hg] at h
  have hgp : 0 < Nat.gcd r.num.natAbs r.den.natAbs := Nat.gcd_pos_of_pos_right _ (by omega)
  unfold lowE at e1 e2
  split at e2
  · rename_i hf
    rw [if_pos hf] at e1
    have e1 : lowQ r.num r.den.natAbs = r := e1
    have e3 : (lowQ r.num r.den.natAbs).den = r.den := by rw [e1]
    unfold lowQ at e3
    simp only at e3
    have h2 : r.den.natAbs / Nat.gcd r.num.natAbs r.den.natAbs < r.den.natAbs := Nat.div_lt_self (by omega) (by omega)
    generalize r.den.natAbs / Nat.gcd r.num.natAbs r.den.natAbs = k at *
    omega
  · cases e2
theorem c_RightQ (r : RatD) (hr : r.ok) : PC 125 [.agg r.cells] (.bool (rightQ r)) := by
  by_cases h0 : 1 ≤ r.den
  · have h1 := c_New r.num r.den hr.1 hr.2 (by omega)
    have hlt : ¬ r.den < 1 := by omega
    cases h : rightQ r
    · have hw := low_wrong h0 h
      generalize lowE r.num r.den.natAbs = p at *
      obtain ⟨⟨pn, pd⟩, pe⟩ := p
      obtain ⟨n, d⟩ := r
      simp only [RatD.cells, RatD.mk.injEq, not_and] at h1 hw hlt ⊢
      clear h h0 hr
      refine pB Tryz.func125 rfl (by decide) Tryz.ntmps125 (by simp) Tryz.results125 ?_
      repeat' (first
 |refine aK fun K hK=>?_|refine Step.by1 ?_|refine sE (by decide) ?_|refine cz rfl ?_|refine Fork.by2 (fun h=>?_) fun h=>?_
 |((first|refine aR ?_|refine aC (f:=36) rfl rfl (h1) rfl rfl rfl ?_);simp [hlt])
 |(refine Split.by2 (fun h=>?_) (fun h=>?_)<;>(simp [h, hlt]))
 |(apply hK;clear hK K)|refine AWh ‹_› ?_)
      all_goals first | exact r1q (cE (by simp; exact hw (by assumption)) rfl) | exact r1q (cE (by simp_all) rfl)
    · have hw := low_right hr h
      rw [hw] at h1
      obtain ⟨n, d⟩ := r
      simp only [RatD.cells] at h1 hlt ⊢
      refine pB Tryz.func125 rfl (by decide) Tryz.ntmps125 (by simp) Tryz.results125 ?_
      repeat' (first
 |refine aK fun K hK=>?_|refine Step.by1 ?_|refine sE (by decide) ?_|refine cz rfl ?_|refine Fork.by2 (fun h=>?_) fun h=>?_
 |((first|refine aR ?_|refine aC (f:=36) rfl rfl (h1) rfl rfl rfl ?_);simp [hlt])
 |(refine Split.by2 (fun h=>?_) (fun h=>?_)<;>(simp [h, hlt]))
 |(apply hK;clear hK K)|refine AWh ‹_› ?_)
      exact r1q (cE (by simp) rfl)
  · have hq : rightQ r = false := by simp [rightQ, h0]
    have hlt : r.den < 1 := by omega
    rw [hq]
    obtain ⟨n, d⟩ := r
    simp only [RatD.cells] at hlt ⊢
    refine pB Tryz.func125 rfl (by decide) Tryz.ntmps125 (by simp) Tryz.results125 ?_
    repeat' (first
 |refine aK fun K hK=>?_|refine Step.by1 ?_|refine sE (by decide) ?_|refine cz rfl ?_|refine Fork.by2 (fun h=>?_) fun h=>?_
 |(refine aR ?_;simp [hlt])
 |(refine Split.by2 (fun h=>?_) (fun h=>?_)<;>(simp [h, hlt]))
 |(apply hK;clear hK K)|refine AWh ‹_› ?_)
    exact r1q (cE rfl rfl)
theorem c_both (a b : RatD) (ha : a.ok) (hb : b.ok) : PC 151 [.agg a.cells, .agg b.cells] (.bool (rightQ a && rightQ b)) := by
  have h1 := c_RightQ a ha
  have h2 := c_RightQ b hb
  generalize rightQ a = x at *
  generalize rightQ b = y at *
  simp only [RatD.cells] at h1 h2 ⊢
  refine pB Tryz.func151 rfl (by decide) Tryz.ntmps151 (by simp) Tryz.results151 ?_
  cases x
  all_goals
    repeat' (first
 |refine aK fun K hK=>?_|refine Step.by1 ?_|refine sE (by decide) ?_|refine cz rfl ?_|refine Fork.by2 (fun h=>?_) fun h=>?_
 |((first|refine aR ?_|refine aC (f:=125) rfl rfl (h1) rfl rfl rfl ?_|refine aC (f:=125) rfl rfl (h2) rfl rfl rfl ?_);simp)
 |(refine Split.by2 (fun h=>?_) (fun h=>?_)<;>(simp [h]))
 |(apply hK;clear hK K)|refine AWh ‹_› ?_)
    exact r1q (cE (by simp) rfl)
def addQ (a b : RatD) : RatD × Int := if (rightQ a && rightQ b) = true then lowE (a.num * b.den + b.num * a.den) (a.den * b.den).natAbs else (⟨0, 0⟩, 7)
def subQ (a b : RatD) : RatD × Int := if (rightQ a && rightQ b) = true then lowE (a.num * b.den - b.num * a.den) (a.den * b.den).natAbs else (⟨0, 0⟩, 7)
def cmpZ (x y : Int) : Int := if x < y then -1 else if x = y then 0 else 1
def cmpQ (a b : RatD) : Int := if (rightQ a && rightQ b) = true then cmpZ (a.num * b.den) (b.num * a.den) else 0
theorem prod_abs {x y : Int} (hx : I64 x) (hy : I64 y) (h0 : 0 < y) : (x * y).natAbs < 85070591730234615865843651857942052864 := by
  obtain ⟨h1, h2⟩ := hx
  obtain ⟨h3, h4⟩ := hy
  rw [Int.natAbs_mul]
  have := Nat.mul_le_mul (show x.natAbs ≤ 9223372036854775808 by omega) (show y.natAbs ≤ 9223372036854775807 by omega)
  omega
theorem dens_abs {x y : Int} (hx : I64 x) (hy : I64 y) (h0 : 0 < x) (h1 : 0 < y) : 0 < (x * y).natAbs ∧ ((x * y).natAbs : Int) = x * y := by
  have h := Int.mul_pos h0 h1
  constructor <;> omega
theorem c_AddQ (a b : RatD) (ha : a.ok) (hb : b.ok) : PC 128 [.agg a.cells, .agg b.cells] (.tup [.agg (addQ a b).1.cells, .int .i64 (addQ a b).2]) := by
  have h1 := c_both a b ha hb
  cases h : rightQ a && rightQ b
  · have e : addQ a b = (⟨0, 0⟩, 7) := by unfold addQ; rw [h]; rfl
    rw [h] at h1
    rw [e]
    simp only [RatD.cells] at h1 ⊢
    refine pB Tryz.func128 rfl (by decide) Tryz.ntmps128 (by simp) Tryz.results128 ?_
    repeat' (first
 |refine aK fun K hK=>?_|refine Step.by1 ?_|refine sE (by decide) ?_|refine cz rfl ?_|refine Fork.by2 (fun h=>?_) fun h=>?_
 |((first|refine aR ?_|refine aC (f:=151) rfl rfl (h1) rfl rfl rfl ?_);simp)
 |(refine Split.by2 (fun h=>?_) (fun h=>?_)<;>(simp [h]))
 |(apply hK;clear hK K)|refine AWh ‹_› ?_)
    exact retq2ct rfl (by simp) (cE (by simp) (by simp))
  · have e : addQ a b = lowE (a.num * b.den + b.num * a.den) (a.den * b.den).natAbs := by unfold addQ; rw [h]; rfl
    rw [h] at h1
    rw [e]
    simp only [Bool.and_eq_true, rightQ, decide_eq_true_eq] at h
    obtain ⟨⟨ha1, _⟩, hb1, _⟩ := h
    have t1 := c_times a.num b.den ha.1 hb.2
    have t2 := c_times b.num a.den hb.1 ha.2
    have t3 := c_times a.den b.den ha.2 hb.2
    have p1 := prod_abs ha.1 hb.2 (by omega)
    have p2 := prod_abs hb.1 ha.2 (by omega)
    have p3 := prod_abs ha.2 hb.2 (by omega)
    obtain ⟨p4, p5⟩ := dens_abs ha.2 hb.2 (by omega) (by omega)
    have t4 := c_sumZ (a.num * b.den) (b.num * a.den) (by omega)
    have t5 := c_made (a.num * b.den + b.num * a.den) (a.den * b.den).natAbs (by omega) p4 (by omega)
    rw [p5] at t5
    generalize lowE (a.num * b.den + b.num * a.den) (a.den * b.den).natAbs = p at *
    obtain ⟨⟨pn, pd⟩, pe⟩ := p
    simp only [RatD.cells, zV, zC, mC] at h1 t1 t2 t3 t4 t5 ⊢
    clear p1 p2 p3 p4 p5 e
    generalize a.num * b.den + b.num * a.den = z1 at *
    generalize a.num * b.den = z2 at *
    generalize b.num * a.den = z3 at *
    generalize a.den * b.den = z4 at *
    refine pB Tryz.func128 rfl (by decide) Tryz.ntmps128 (by simp) Tryz.results128 ?_
    repeat' (first
 |refine aK fun K hK=>?_|refine Step.by1 ?_|refine sE (by decide) ?_|refine cz rfl ?_|refine Fork.by2 (fun h=>?_) fun h=>?_
 |((first|refine aR ?_|refine aC (f:=151) rfl rfl (h1) rfl rfl rfl ?_|refine aX (id:=3) 19 mixed (by decide) ?_|refine aP1 (f:=152) rfl rfl (t1) rfl rfl rfl ?_|refine aP1 (f:=152) rfl rfl (t2) rfl rfl rfl ?_|refine aP1 (f:=152) rfl rfl (t3) rfl rfl rfl ?_|refine aP1 (f:=153) rfl rfl (t4) rfl rfl rfl ?_|refine aP1 (f:=101) rfl rfl (t5) rfl rfl rfl ?_);simp)
 |(refine Split.by2 (fun h=>?_) (fun h=>?_)<;>(simp [h]))
 |(apply hK;clear hK K)|refine AWh ‹_› ?_)
    exact retq2ct rfl (by simp) (cE (by simp) (by simp))
theorem c_SubQ (a b : RatD) (ha : a.ok) (hb : b.ok) : PC 85 [.agg a.cells, .agg b.cells] (.tup [.agg (subQ a b).1.cells, .int .i64 (subQ a b).2]) := by
  have h1 := c_both a b ha hb
  cases h : rightQ a && rightQ b
  · have e : subQ a b = (⟨0, 0⟩, 7) := by unfold subQ; rw [h]; rfl
    rw [h] at h1
    rw [e]
    simp only [RatD.cells] at h1 ⊢
    refine pB Tryz.func85 rfl (by decide) Tryz.ntmps85 (by simp) Tryz.results85 ?_
    repeat' (first
 |refine aK fun K hK=>?_|refine Step.by1 ?_|refine sE (by decide) ?_|refine cz rfl ?_|refine Fork.by2 (fun h=>?_) fun h=>?_
 |((first|refine aR ?_|refine aC (f:=151) rfl rfl (h1) rfl rfl rfl ?_);simp)
 |(refine Split.by2 (fun h=>?_) (fun h=>?_)<;>(simp [h]))
 |(apply hK;clear hK K)|refine AWh ‹_› ?_)
    exact retq2ct rfl (by simp) (cE (by simp) (by simp))
  · have e : subQ a b = lowE (a.num * b.den + -(b.num * a.den)) (a.den * b.den).natAbs := by unfold subQ; rw [h, if_pos rfl, Int.sub_eq_add_neg]
    rw [h] at h1
    rw [e]
    simp only [Bool.and_eq_true, rightQ, decide_eq_true_eq] at h
    obtain ⟨⟨ha1, _⟩, hb1, _⟩ := h
    have t1 := c_times a.num b.den ha.1 hb.2
    have t2 := c_times b.num a.den hb.1 ha.2
    have t3 := c_times a.den b.den ha.2 hb.2
    have p1 := prod_abs ha.1 hb.2 (by omega)
    have p2 := prod_abs hb.1 ha.2 (by omega)
    have p3 := prod_abs ha.2 hb.2 (by omega)
    obtain ⟨p4, p5⟩ := dens_abs ha.2 hb.2 (by omega) (by omega)
    have t6 := c_opposite (b.num * a.den)
    have t4 := c_sumZ (a.num * b.den) (-(b.num * a.den)) (by omega)
    have t5 := c_made (a.num * b.den + -(b.num * a.den)) (a.den * b.den).natAbs (by omega) p4 (by omega)
    rw [p5] at t5
    generalize lowE (a.num * b.den + -(b.num * a.den)) (a.den * b.den).natAbs = p at *
    obtain ⟨⟨pn, pd⟩, pe⟩ := p
    clear p1 p2 p3 p4 p5 e
    generalize a.num * b.den + -(b.num * a.den) = z1 at *
    generalize -(b.num * a.den) = z5 at *
    simp only [RatD.cells, zV, zC, mC] at h1 t1 t2 t3 t4 t5 t6 ⊢
    generalize a.num * b.den = z2 at *
    generalize b.num * a.den = z3 at *
    generalize a.den * b.den = z4 at *
    refine pB Tryz.func85 rfl (by decide) Tryz.ntmps85 (by simp) Tryz.results85 ?_
    repeat' (first
 |refine aK fun K hK=>?_|refine Step.by1 ?_|refine sE (by decide) ?_|refine cz rfl ?_|refine Fork.by2 (fun h=>?_) fun h=>?_
 |((first|refine aR ?_|refine aC (f:=151) rfl rfl (h1) rfl rfl rfl ?_|refine aX (id:=3) 20 mixed (by decide) ?_|refine aP1 (f:=152) rfl rfl (t1) rfl rfl rfl ?_|refine aP1 (f:=152) rfl rfl (t2) rfl rfl rfl ?_|refine aP1 (f:=152) rfl rfl (t3) rfl rfl rfl ?_|refine aP1 (f:=154) rfl rfl (t6) rfl rfl rfl ?_|refine aP1 (f:=153) rfl rfl (t4) rfl rfl rfl ?_|refine aP1 (f:=101) rfl rfl (t5) rfl rfl rfl ?_);simp)
 |(refine Split.by2 (fun h=>?_) (fun h=>?_)<;>(simp [h]))
 |(apply hK;clear hK K)|refine AWh ‹_› ?_)
    exact retq2ct rfl (by simp) (cE (by simp) (by simp))
/-- A fraction in lowest terms keeps its value. -/
theorem low_val {n : Int} {d : Nat} (hd : 0 < d) : (lowQ n d).num * d = n * (lowQ n d).den ∧ 0 < (lowQ n d).den := by
  have g0 : 0 < Nat.gcd n.natAbs d := Nat.gcd_pos_of_pos_right _ hd
  obtain ⟨x, hx⟩ := Nat.gcd_dvd_left n.natAbs d
  obtain ⟨y, hy⟩ := Nat.gcd_dvd_right n.natAbs d
  unfold lowQ
  generalize Nat.gcd n.natAbs d = g at *
  have e1 : n.natAbs / g = x := by rw [hx]; exact Nat.mul_div_cancel_left _ g0
  have e2 : d / g = y := by rw [hy]; exact Nat.mul_div_cancel_left _ g0
  have hy0 : 0 < y := by
    rcases Nat.eq_zero_or_pos y with h0 | h0
    · rw [h0, Nat.mul_zero] at hy; omega
    · exact h0
  have e3 : x * d = n.natAbs * y := by rw [hx, hy]; ac_rfl
  have e4 : (x : Int) * d = n.natAbs * y := by exact_mod_cast e3
  simp only [e1, e2]
  refine ⟨?_, by omega⟩
  split
  · rename_i hn
    have : (n.natAbs : Int) = -n := by omega
    rw [this] at e4
    rw [Int.neg_mul, e4, Int.neg_mul]; omega
  · rename_i hn
    have : (n.natAbs : Int) = n := by omega
    rw [this] at e4
    exact e4
theorem low_rightQ {n : Int} {d : Nat} (hd : 0 < d) : rightQ (lowQ n d) = true := by
  have g0 : 0 < Nat.gcd n.natAbs d := Nat.gcd_pos_of_pos_right _ hd
  have cx : Nat.Coprime (n.natAbs / Nat.gcd n.natAbs d) (d / Nat.gcd n.natAbs d) := Nat.coprime_div_gcd_div_gcd g0
  have h1 := (low_val (n := n) hd).2
  unfold rightQ
  have e1 : (lowQ n d).num.natAbs = n.natAbs / Nat.gcd n.natAbs d := by
    unfold lowQ
    simp only
    generalize n.natAbs / Nat.gcd n.natAbs d = x
    split <;> omega
  have e2 : (lowQ n d).den.natAbs = d / Nat.gcd n.natAbs d := by
    unfold lowQ
    simp only
    generalize d / Nat.gcd n.natAbs d = x
    omega
  rw [e1, e2]
  have h2 : 1 ≤ (lowQ n d).den := by omega
  have : Nat.gcd (n.natAbs / Nat.gcd n.natAbs d) (d / Nat.gcd n.natAbs d) = 1 := cx
  simp [h2, this]
/-- What a sum that can be held is. -/
theorem lowE_ok {n : Int} {d : Nat} (hd : 0 < d) (h : (lowE n d).2 = 0) : (lowE n d).1 = lowQ n d ∧ (lowE n d).1.ok ∧ rightQ (lowE n d).1 = true ∧ (lowE n d).1.num * d = n * (lowE n d).1.den ∧ 0 < (lowE n d).1.den := by
  unfold lowE at h ⊢
  split at h
  · rename_i hf
    rw [if_pos hf]
    refine ⟨rfl, ?_, low_rightQ hd, (low_val hd).1, (low_val hd).2⟩
    simp only [Bool.and_eq_true, fitB, decide_eq_true_eq] at hf
    exact ⟨by show I64 (lowQ n d).num; unfold I64; omega, by show I64 (lowQ n d).den; unfold I64; omega⟩
  · cases h
theorem rightQ_den {r : RatD} (h : rightQ r = true) : 0 < r.den := by
  unfold rightQ at h
  simp only [Bool.and_eq_true, decide_eq_true_eq] at h
  omega
theorem addQ_eq {a b : RatD} (ha : rightQ a = true) (hb : rightQ b = true) : addQ a b = lowE (a.num * b.den + b.num * a.den) (a.den * b.den).natAbs := by
  unfold addQ; rw [ha, hb]; rfl
theorem subQ_eq {a b : RatD} (ha : rightQ a = true) (hb : rightQ b = true) : subQ a b = lowE (a.num * b.den - b.num * a.den) (a.den * b.den).natAbs := by
  unfold subQ; rw [ha, hb]; rfl
theorem cmpQ_eq {a b : RatD} (ha : rightQ a = true) (hb : rightQ b = true) : cmpQ a b = cmpZ (a.num * b.den) (b.num * a.den) := by
  unfold cmpQ; rw [ha, hb]; rfl
theorem den_abs {a b : Int} (ha : 0 < a) (hb : 0 < b) : 0 < (a * b).natAbs ∧ (((a * b).natAbs : Nat) : Int) = a * b := by
  have := Int.mul_pos ha hb
  omega
theorem addQ_ok {a b : RatD} (ha : rightQ a = true) (hb : rightQ b = true) (h : (addQ a b).2 = 0) : (addQ a b).1.ok ∧ rightQ (addQ a b).1 = true ∧ (addQ a b).1.num * (a.den * b.den) = (a.num * b.den + b.num * a.den) * (addQ a b).1.den := by
  rw [addQ_eq ha hb] at h ⊢
  obtain ⟨d1, d2⟩ := den_abs (rightQ_den ha) (rightQ_den hb)
  obtain ⟨_, h1, h2, h3, _⟩ := lowE_ok d1 h
  rw [d2] at h3
  exact ⟨h1, h2, h3⟩
theorem addQ_pos {a b : RatD} (ha : rightQ a = true) (hb : rightQ b = true) (h : (addQ a b).2 = 0) (h1 : 0 ≤ a.num) (h2 : 0 ≤ b.num) : 0 ≤ (addQ a b).1.num := by
  obtain ⟨_, k2, k3⟩ := addQ_ok ha hb h
  have p0 := rightQ_den k2
  have p1 := rightQ_den ha
  have p2 := rightQ_den hb
  have q1 : 0 ≤ a.num * b.den := Int.mul_nonneg h1 (by omega)
  have q2 : 0 ≤ b.num * a.den := Int.mul_nonneg h2 (by omega)
  have q3 : 0 ≤ (a.num * b.den + b.num * a.den) * (addQ a b).1.den := Int.mul_nonneg (by omega) (by omega)
  rw [← k3] at q3
  have q4 := Int.mul_pos p1 p2
  rcases (by omega : (addQ a b).1.num < 0 ∨ 0 ≤ (addQ a b).1.num) with h0 | h0
  · have := Int.mul_neg_of_neg_of_pos h0 q4; omega
  · exact h0
theorem addQ_zero {r : RatD} (hr : r.ok) (h : rightQ r = true) : addQ r ⟨0, 1⟩ = (r, 0) := by
  rw [addQ_eq h (by decide)]
  have hd := rightQ_den h
  have e : lowE (r.num * 1 + 0 * r.den) (r.den * 1).natAbs = lowE r.num r.den.natAbs := by rw [Int.mul_one, Int.mul_one, Int.zero_mul, Int.add_zero]
  exact e.trans (low_right hr h)
/-- A fraction made of a sign, and two numbers. -/
def signed (neg : Bool) (m : Nat) : Int := if neg = true then -(m : Int) else m



def idxL (p : RatD → Bool) : List RatD → Nat → Int
  | [], _ => -1
  | x :: r, i => if p x = true then (i : Int) else idxL p r (i + 1)
theorem idxL_nil {p : RatD → Bool} {i : Nat} : idxL p [] i = -1 := rfl
theorem idxL_cons {p : RatD → Bool} {x : RatD} {r : List RatD} {i : Nat} : idxL p (x :: r) i = if p x = true then (i : Int) else idxL p r (i + 1) := rfl
theorem idxL_any {p : RatD → Bool} : ∀ {l : List RatD} {i : Nat}, decide (0 ≤ idxL p l i) = anyL p l
  | [], i => by simp [idxL, anyL]
  | x :: r, i => by
    rw [idxL_cons, anC, ← idxL_any (l := r) (i := i + 1)]
    cases p x <;> simp
set_option maxHeartbeats 4000000 in
theorem c_idxRat (f : Nat) (p : RatD → Bool) (l : List RatD) (hl : l.length ≤ 1048576) (hf : ∀ x ∈ l, PC f [.agg x.cells] (.bool (p x))) : PC 239 [vl RatD.cells l, .fn (.func f) [] []] (.int .i64 (idxL p l 0)) := by
  obtain ⟨E, hE⟩ : ∃ E, idxL p l 0 = E := ⟨_, rfl⟩
  rw [hE]
  simp only [vl]
  refine pB Tryz.func239 rfl (by decide) Tryz.ntmps239 (by simp) Tryz.results239 ?_
  repeat' (first
 |refine aK fun K hK=>?_|refine Step.by1 ?_|refine sE (by decide) ?_|refine cz rfl ?_|refine Fork.by2 (fun h=>?_) fun h=>?_
 |(refine aR ?_;simp)
 |(refine Split.by2 (fun h=>?_) (fun h=>?_)<;>(simp [h]))
 |(apply hK;clear hK K)|refine AWh ‹_› ?_)
  refine AW_range (r := E) l 8 [0, 1, 7] (fun c : Nat => []) (fun _ => []) (fun i c => c = i) (idxL p) 0 hE rfl (by apply Weak.mk' <;> simp) (fun _ _ _ => rfl) ?_ ?_
  · intro i c x _ hlt hx hJ hF
    subst hJ
    have hc := hf x (hx ▸ List.getElem_mem hlt)
    rw [idxL_cons] at hF
    have hlt' : (c : Int) < l.length := by omega
    have w1 : IntKind.i64.wrap ((c : Int) + 1) = c + 1 := wI (by omega) (by omega)
    simp only [RatD.cells] at hc
    generalize p x = b at *
    cases b
    · rw [if_neg (by simp)] at hF
      repeat' (first
 |refine aK fun K hK=>?_|refine Step.by1 ?_|refine sE (by decide) ?_|refine cz rfl ?_|refine Fork.by2 (fun h=>?_) fun h=>?_
 |(refine aR ?_;simp [hlt, hlt', hx, RatD.cells, w1])
 |(refine Split.by2 (fun h=>?_) (fun h=>?_)<;>(simp [h, hlt, hlt', hx, RatD.cells, w1]))
 |(refine aC (f := f) rfl rfl hc rfl rfl rfl ?_; simp)
 |(apply hK;clear hK K)|refine AWh ‹_› ?_)
      exact ⟨c + 1, hF, rfl, by apply Weak.mk' <;> simp⟩
    · rw [if_pos rfl] at hF
      repeat' (first
 |refine aK fun K hK=>?_|refine Step.by1 ?_|refine sE (by decide) ?_|refine cz rfl ?_|refine Fork.by2 (fun h=>?_) fun h=>?_
 |(refine aR ?_;simp [hlt, hlt', hx, RatD.cells, w1])
 |(refine Split.by2 (fun h=>?_) (fun h=>?_)<;>(simp [h, hlt, hlt', hx, RatD.cells, w1]))
 |(refine aC (f := f) rfl rfl hc rfl rfl rfl ?_; simp)
 |(apply hK;clear hK K)|refine AWh ‹_› ?_)
      exact r1q (cE (by simp [← hF]) rfl)
  · intro c hJ hF
    rw [idxL_nil] at hF
    repeat' (first
 |refine aK fun K hK=>?_|refine Step.by1 ?_|refine sE (by decide) ?_|refine cz rfl ?_|refine Fork.by2 (fun h=>?_) fun h=>?_
 |(refine aR ?_;simp)
 |(refine Split.by2 (fun h=>?_) (fun h=>?_)<;>(simp [h]))
 |(apply hK;clear hK K)|refine AWh ‹_› ?_)
    exact r1q (cE (by simp [← hF]) rfl)
def ptBad (r : RatD) : Bool := !rightQ r || decide (r.num < 0)
def ptRight (v : List RatD) : Bool := decide (v.length ≤ 8) && !anyL ptBad v
theorem c_ptBad (r : RatD) (hr : r.ok) : PC 188 [.agg r.cells] (.bool (ptBad r)) := by
  have h1 := c_RightQ r hr
  unfold ptBad
  generalize rightQ r = x at *
  simp only [RatD.cells] at *
  refine pB Tryz.func188 rfl (by decide) Tryz.ntmps188 (by simp) Tryz.results188 ?_
  cases x
  all_goals
    repeat' (first
 |refine aK fun K hK=>?_|refine Step.by1 ?_|refine sE (by decide) ?_|refine cz rfl ?_|refine Fork.by2 (fun h=>?_) fun h=>?_
 |((first|refine aR ?_|refine aC (f:=125) rfl rfl (h1) rfl rfl rfl ?_);simp)
 |(refine Split.by2 (fun h=>?_) (fun h=>?_)<;>(simp [h]))
 |(apply hK;clear hK K)|refine AWh ‹_› ?_)
    exact r1q (cE (by simp) rfl)
theorem c_ptRight (v : List RatD) (hv : v.length ≤ 1048576 ∧ ∀ r ∈ v, r.ok) : PC 120 [vl RatD.cells v] (.bool (ptRight v)) := by
  have h1 := c_idxRat 188 ptBad v hv.1 (fun x hx => c_ptBad x (hv.2 x hx))
  have h2 : PC 187 [vl RatD.cells v, .fn (.func 188) [] []] (.bool (anyL ptBad v)) := by
    have e := idxL_any (p := ptBad) (l := v) (i := 0)
    rw [← e]
    generalize idxL ptBad v 0 = q at *
    simp only [vl] at h1 ⊢
    refine pB Tryz.func187 rfl (by decide) Tryz.ntmps187 (by simp) Tryz.results187 ?_
    repeat' (first
 |refine aK fun K hK=>?_|refine Step.by1 ?_|refine sE (by decide) ?_|refine cz rfl ?_|refine Fork.by2 (fun h=>?_) fun h=>?_
 |((first|refine aR ?_|refine aC (f:=239) rfl rfl (h1) rfl rfl rfl ?_);simp)
 |(refine Split.by2 (fun h=>?_) (fun h=>?_)<;>(simp [h]))
 |(apply hK;clear hK K)|refine AWh ‹_› ?_)
    exact r1q (cE (by simp) rfl)
  unfold ptRight
  generalize anyL ptBad v = b at *
  simp only [vl] at h2 ⊢
  by_cases h8 : v.length ≤ 8
  · have h8' : (v.length : Int) ≤ 8 := by omega
    refine pB Tryz.func120 rfl (by decide) Tryz.ntmps120 (by simp) Tryz.results120 ?_
    repeat' (first
 |refine aK fun K hK=>?_|refine Step.by1 ?_|refine sE (by decide) ?_|refine cz rfl ?_|refine Fork.by2 (fun h=>?_) fun h=>?_
 |((first|refine aR ?_|refine aC (f:=187) rfl rfl (h2) rfl rfl rfl ?_);simp [h8, h8'])
 |(refine Split.by2 (fun h=>?_) (fun h=>?_)<;>(simp [h, h8, h8']))
 |(apply hK;clear hK K)|refine AWh ‹_› ?_)
    exact r1q (cE (by simp [h8]) rfl)
  · have h8' : ¬ (v.length : Int) ≤ 8 := by omega
    refine pB Tryz.func120 rfl (by decide) Tryz.ntmps120 (by simp) Tryz.results120 ?_
    repeat' (first
 |refine aK fun K hK=>?_|refine Step.by1 ?_|refine sE (by decide) ?_|refine cz rfl ?_|refine Fork.by2 (fun h=>?_) fun h=>?_
 |(refine aR ?_;simp [h8, h8'])
 |(refine Split.by2 (fun h=>?_) (fun h=>?_)<;>(simp [h, h8, h8']))
 |(apply hK;clear hK K)|refine AWh ‹_› ?_)
    exact r1q (cE (by simp [h8]) rfl)
/-- What a comparison says. -/
def gcB (o c : Int) : Bool := if o = 1 then decide (c < 0) else if o = 2 then decide (c ≤ 0) else if o = 3 then decide (c = 0) else if o = 4 then decide (0 ≤ c) else decide (0 < c)
def holdG (v : List RatD) (g : GuardD) : Bool := gcB g.cmp (cmpQ (v.getD (g.clock - 1).toNat default) ⟨g.n, 1⟩)
def notG (v : List RatD) (g : GuardD) : Bool := !holdG v g
def awayL (s : StateD) (a : AtD) : Bool := !decide (s.locs.getD a.auto.toNat 0 = a.loc)
def partS (s : StateD) (g : PartD) : Bool := !anyL (awayL s) g.locs && (decide ((holdsS g.test s.vars).2 = 0) && (holdsS g.test s.vars).1)
end Go.Proofs.YtbgooadmonnjaaaGreatDoor
end
