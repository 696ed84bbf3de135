/-
  YtbgooadmonnjaaaGreatDoorRc23: steps of the proof of a law of the program: what these texts prove holds under the hypotheses that their theorems name, and no others.
-/
import Derived.Test.YtbgooadmonnjaaaGreatDoorRc22
import Derived.Test.YtbgooadmonnjaaaGreatDoorRc14
import Derived.Test.YtbgooadmonnjaaaGreatDoorRc16
import Derived.Test.YtbgooadmonnjaaaGreatDoorRc20
import Derived.Test.YtbgooadmonnjaaaGreatDoorRc19
section
set_option linter.unusedSimpArgs false
set_option linter.unusedVariables false
namespace Go.Proofs.YtbgooadmonnjaaaGreatDoor
open Go Go.AM Fx
/-- The program's value and the reference's, of a truth or of a number. -/
structure RelX (t : Bool) (p : Int × Bool × Bool) (q : Int × Bool) : Prop where
  ok : p.2.2 = !q.2
  val : q.2 = true → if t = true then q.1 = (if p.2.1 = true then 1 else 0) else p.1 = q.1
theorem wrap_i64e (n : Int) : IntKind.i64.wrap n = (n + 9223372036854775808) % 18446744073709551616 - 9223372036854775808 := by
  unfold IntKind.wrap; simp [IntKind.bits, IntKind.signed]; split <;> omega
theorem rel_add {a b : Int} (ha : I64 a) (hb : I64 b) : RelX false (addT a b) (sumR a b) := by
  obtain ⟨a1, a2⟩ := ha
  obtain ⟨b1, b2⟩ := hb
  refine ⟨?_, fun _ => by simp [addT, sumR]⟩
  simp only [addT, sumR]
  have e := wrap_i64e (a + b)
  generalize IntKind.i64.wrap (a + b) = s at *
  by_cases h1 : a < 0 <;> by_cases h2 : b < 0 <;> by_cases h3 : s < 0 <;> by_cases h4 : s < a <;> simp [h1, h2, h3, h4] <;> omega
theorem rel_sub {a b : Int} (ha : I64 a) (hb : I64 b) : RelX false (subT a b) (subR a b) := by
  obtain ⟨a1, a2⟩ := ha
  obtain ⟨b1, b2⟩ := hb
  refine ⟨?_, fun _ => by simp [subT, subR]⟩
  simp only [subT, subR]
  have e := wrap_i64e (a - b)
  generalize IntKind.i64.wrap (a - b) = s at *
  by_cases h1 : a < 0 <;> by_cases h2 : b < 0 <;> by_cases h3 : s < 0 <;> by_cases h4 : a < s <;> simp [h1, h2, h3, h4] <;> omega
theorem rel_mul {a b : Int} : RelX false (mulT a b) (mulR a b) := by
  unfold mulT mulR
  split
  · exact ⟨rfl, fun _ => by simp⟩
  · exact ⟨rfl, fun h => by simp at h⟩
theorem rel_neg {a : Int} (ha : I64 a) : RelX false (negT a) (mulR a (-1)) := by
  obtain ⟨a1, a2⟩ := ha
  have e : a * -1 = -a := by omega
  unfold mulR
  rw [e]
  by_cases h : a = -9223372036854775808
  · subst h
    exact ⟨by simp [negT], fun h => by simp at h⟩
  · rw [if_pos (by omega)]
    refine ⟨by simp [negT, h], fun _ => ?_⟩
    simp only [negT, Bool.false_eq_true, if_false]
    exact wI (by omega) (by omega)
theorem rel_law (l : List NodeD) (hl : l.length ≤ 64 ∧ ∀ x ∈ l, x.ok) (vs : List Int) (hvl : vs.length ≤ 1048576) (hv : ∀ v ∈ vs, I64 v) (w : WholeL l) (hk : ∀ i, i < l.length → rightAt l vs.length i = false) :
    ∀ (f i : Nat), i < l.length → l.length - i ≤ f → RelX (ktruth (l.getD i default).op) (reck l vs f i) (valE l vs f i) := by
  intro f
  induction f with
  | zero => intro i h1 h2; omega
  | succ f ih =>
    intro i hi hf
    obtain ⟨x, hxd⟩ : ∃ x, l.getD i default = x := ⟨_, rfl⟩
    have hb := hk i hi
    unfold rightAt at hb
    rw [Bool.or_eq_false_iff] at hb
    obtain ⟨hb1, hb2⟩ := hb
    have hk1 := fun h => kids_lt w hi h
    have hk2 := fun h => second_lt w hi h
    rw [hxd] at hb1 hb2 hk1 hk2 ⊢
    rw [reck_succ, valE_succ, hxd]
    obtain ⟨o, n⟩ := x
    simp only at hb1 hb2 hk1 hk2 ⊢
    unfold nodeBad at hb1
    rw [Bool.or_eq_false_iff, Bool.not_eq_false'] at hb1
    have hko : 1 ≤ o ∧ o ≤ 14 := by simpa [known] using hb1.1
    clear hb1
    have IAf := fun h : i + 1 < l.length => (c_reckon l hl vs hvl hv w hk f (i + 1) h (by omega)).1
    have RAf := fun h : i + 1 < l.length => ih (i + 1) h (by omega)
    by_cases o1 : o = 1
    · subst o1; exact ⟨by simp, fun _ => by simp [ktruth_eq]⟩
    by_cases o2 : o = 2
    · subst o2; exact ⟨by simp, fun _ => by simp [ktruth_eq]⟩
    by_cases o7 : o = 7
    · subst o7; exact ⟨by simp, fun _ => by simp [ktruth_eq]⟩
    rw [if_neg o1, if_neg o1, if_neg o2, if_neg o2, if_neg o7, if_neg o7]
    have hparts : 1 ≤ kparts o := by
      rcases known_cases hko with h | h | h | h | h | h | h | h | h | h | h | h | h | h <;> subst h <;> first | decide | omega
    obtain ⟨j1, _⟩ := hk1 hparts
    have IA := IAf j1
    have RA := RAf j1
    clear IAf RAf
    have hkid : ktruth (l.getD (i + 1) default).op = ktakes o ∧ (kparts o = 2 → kidsBad l (ktakes o) 1 (endAt l (i + 1)).toNat = false) := by
      obtain ⟨q, hq⟩ : ∃ q : Nat, (kparts o).toNat = q + 1 := ⟨(kparts o).toNat - 1, by omega⟩
      rw [hq, kidsBad_succ, Bool.or_eq_false_iff] at hb2
      refine ⟨by have h3 := hb2.1; revert h3; cases ktruth (l.getD (i + 1) default).op <;> cases ktakes o <;> simp, fun h => ?_⟩
      have : q = 1 := by omega
      subst this
      exact hb2.2
    rw [hkid.1] at RA
    generalize reck l vs f (i + 1) = a at *
    generalize valE l vs f (i + 1) = a' at *
    obtain ⟨an, ay, ao⟩ := a
    obtain ⟨an', ao'⟩ := a'
    obtain ⟨ra1, ra2⟩ := RA
    simp only at IA ra1 ra2 ⊢
    cases ao'
    · simp only [Bool.not_false] at ra1
      subst ra1
      exact ⟨by simp, fun h => by simp at h⟩
    · simp only [Bool.not_true] at ra1
      subst ra1
      have ra2 := ra2 rfl
      simp only [Bool.false_eq_true, Bool.true_eq_false, if_false]
      by_cases o3 : o = 3
      · subst o3
        have ht : ktakes 3 = false := by decide
        rw [ht] at ra2
        simp only [Bool.false_eq_true, if_false] at ra2
        subst ra2
        have hu : ktruth 3 = false := by decide
        rw [hu, if_pos rfl, if_pos rfl]
        exact rel_neg IA
      rw [if_neg o3, if_neg o3]
      by_cases o12 : o = 12
      · subst o12
        have ht : ktakes 12 = true := by decide
        rw [ht] at ra2
        simp only [if_true] at ra2
        have hu : ktruth 12 = true := by decide
        rw [hu, if_pos rfl, if_pos rfl]
        subst ra2
        refine ⟨rfl, fun _ => ?_⟩
        cases ay
        · simp only [Bool.false_eq_true, if_false, Bool.not_false, if_true]
          exact wI (by omega) (by omega)
        · simp only [if_true, Bool.not_true, Bool.false_eq_true, if_false]
          exact wI (by omega) (by omega)
      rw [if_neg o12, if_neg o12]
      have hbin : kparts o = 2 := by
        rcases known_cases hko with h | h | h | h | h | h | h | h | h | h | h | h | h | h <;> subst h <;> first | decide | omega
      obtain ⟨e, e2, e3, e4⟩ := hk2 hbin
      have hk3 := hkid.2 hbin
      clear hk1 hk2
      rw [e2, Int.toNat_natCast] at hk3 ⊢
      rw [kidsBad_succ, Bool.or_eq_false_iff] at hk3
      have hk4 : ktruth (l.getD e default).op = ktakes o := by
        have h3 := hk3.1
        revert h3
        cases ktruth (l.getD e default).op <;> cases ktakes o <;> simp
      have IB := (c_reckon l hl vs hvl hv w hk f e e4 (by omega)).1
      have RB := ih e e4 (by omega)
      rw [hk4] at RB
      generalize reck l vs f e = b at *
      generalize valE l vs f e = b' at *
      obtain ⟨bn, yb, bo⟩ := b
      obtain ⟨bn', bo'⟩ := b'
      obtain ⟨rb1, rb2⟩ := RB
      simp only at IB rb1 rb2 ⊢
      clear hkid hk3 hk4 hb2 ih
      have fin : ∀ t, RelX t (an, ay, false) (an', true) ↔ (if t = true then an' = (if ay = true then 1 else 0) else an = an') := fun t =>
        ⟨fun h => h.val rfl, fun h => ⟨rfl, fun _ => h⟩⟩
      have over : ∀ t, bo' = false → RelX t (bn, yb, bo) (0, false) := fun t h => ⟨by subst h; exact rb1, fun h => by simp at h⟩
      have both : ∀ t, bo' = true → (if t = true then bn' = (if yb = true then 1 else 0) else bn = bn') → RelX t (bn, yb, bo) (bn', true) := fun t h h2 => ⟨by subst h; exact rb1, fun _ => h2⟩
      by_cases o13 : o = 13
      · subst o13
        have ht : ktakes 13 = true := by decide
        have hu : ktruth 13 = true := by decide
        rw [ht] at ra2 rb2
        rw [hu]
        simp only [if_true] at ra2 rb2
        subst ra2
        cases ay
        · simp
          exact ⟨rfl, fun _ => by simp⟩
        · cases bo'
          · simp only [Bool.not_false] at rb1
            subst rb1
            simp
            exact over true rfl
          · simp only [Bool.not_true] at rb1
            subst rb1
            simp
            exact both true rfl (by simpa using rb2 rfl)
      by_cases o14 : o = 14
      · subst o14
        have ht : ktakes 14 = true := by decide
        have hu : ktruth 14 = true := by decide
        rw [ht] at ra2 rb2
        rw [hu]
        simp only [if_true] at ra2 rb2
        subst ra2
        cases ay
        · cases bo'
          · simp only [Bool.not_false] at rb1
            subst rb1
            simp
            exact over true rfl
          · simp only [Bool.not_true] at rb1
            subst rb1
            simp
            exact both true rfl (by simpa using rb2 rfl)
        · simp
          exact ⟨rfl, fun _ => by simp⟩
      have ht : ktakes o = false := by
        rcases known_cases hko with h | h | h | h | h | h | h | h | h | h | h | h | h | h <;> subst h <;> first | decide | omega
      rw [ht] at ra2 rb2
      simp only [Bool.false_eq_true, if_false] at ra2 rb2
      subst ra2
      simp only [o13, o14, false_and, or_self, if_false]
      cases bo'
      · simp only [Bool.not_false] at rb1
        subst rb1
        rw [if_pos rfl, if_pos rfl]
        exact over _ rfl
      · simp only [Bool.not_true] at rb1
        subst rb1
        have rb2 := rb2 rfl
        subst rb2
        simp only [Bool.false_eq_true, Bool.true_eq_false, if_false]
        have cmpR : ∀ (c : Prop) [Decidable c], RelX true (0, decide c, false) (if c then 1 else 0, true) := fun c _ => ⟨rfl, fun _ => by by_cases h : c <;> simp [h]⟩
        have cmpN : ∀ (c : Prop) [Decidable c], RelX true (0, !decide c, false) (if c then 0 else 1, true) := fun c _ => ⟨rfl, fun _ => by by_cases h : c <;> simp [h]⟩
        rcases known_cases hko with h | h | h | h | h | h | h | h | h | h | h | h | h | h
        · exact absurd h o1
        · exact absurd h o2
        · exact absurd h o3
        · subst h
          rw [show ktruth 4 = false by decide]
          simpa using rel_add IA IB
        · subst h
          rw [show ktruth 5 = false by decide]
          simpa using rel_sub IA IB
        · subst h
          rw [show ktruth 6 = false by decide]
          simpa using (rel_mul (a := an) (b := bn))
        · exact absurd h o7
        · subst h
          rw [show ktruth 8 = true by decide]
          simpa using cmpR (an < bn)
        · subst h
          rw [show ktruth 9 = true by decide]
          simpa using cmpR (an ≤ bn)
        · subst h
          rw [show ktruth 10 = true by decide]
          simpa using cmpR (an = bn)
        · subst h
          rw [show ktruth 11 = true by decide]
          simpa using cmpN (an = bn)
        · exact absurd h o12
        · exact absurd h o13
        · exact absurd h o14
theorem right_parts {l : List NodeD} {k : Int} (h : rightE l k = 0) : 0 < l.length ∧ l.length ≤ 64 ∧ WholeL l ∧ ∀ i, i < l.length → rightAt l k i = false := by
  unfold rightE at h
  split at h
  · cases h
  · rename_i h0
    split at h
    · cases h
    · rename_i h1
      refine ⟨by omega, by omega, whole_of (by omega) (by omega), fun i hi => ?_⟩
      cases hr : rightAt l k i
      · rfl
      · exact absurd (List.any_eq_true.2 ⟨i, List.mem_range.2 hi, hr⟩) h1
theorem head_get {l : List NodeD} (h : 0 < l.length) : ktruth (l.getD 0 default).op = isTruthB l := by
  cases l with
  | nil => simp at h
  | cons x r => rfl
/-- A number's value, or the error. -/
def valueS (l : List NodeD) (vs : List Int) : Int × Int := if rightE l vs.length ≠ 0 ∨ isTruthB l = true then (0, 121) else if (valE l vs l.length 0).2 = true then ((valE l vs l.length 0).1, 0) else (0, 20)
def holdsS (l : List NodeD) (vs : List Int) : Bool × Int := if l.length = 0 then (true, 0) else if rightE l vs.length ≠ 0 ∨ isTruthB l = false then (false, 121) else if (valE l vs l.length 0).2 = true then (decide ((valE l vs l.length 0).1 = 1), 0) else (false, 20)
theorem c_ValueX (l : List NodeD) (hl : l.length ≤ 1048576 ∧ ∀ x ∈ l, x.ok) (vs : List Int) (hvl : vs.length ≤ 1048576) (hv : ∀ v ∈ vs, I64 v) : PC 200 [vl NodeD.cells l, .vec (ivs vs) vs.length] (.tup [.int .i64 (valueS l vs).1, .int .i64 (valueS l vs).2]) := by
  have h1 := c_Right l vs.length hl ⟨by omega, by omega⟩
  have h2 := c_IsTruthB l hl.2
  have hiv : (ivs vs).length = vs.length := by simp [ivs]
  unfold valueS
  by_cases hr : rightE l vs.length = 0
  · rw [hr] at h1
    cases ht : isTruthB l
    · rw [ht] at h2
      rw [if_neg (by simp [hr])]
      obtain ⟨r1, r2, r3, r4⟩ := right_parts hr
      have h3 := (c_reckon l ⟨r2, hl.2⟩ vs hvl hv r3 r4 l.length 0 r1 (by omega)).2
      have h4 := rel_law l ⟨r2, hl.2⟩ vs hvl hv r3 r4 l.length 0 r1 (by omega)
      rw [head_get r1, ht] at h4
      clear r4 r3 hl hr
      generalize reck l vs l.length 0 = p at *
      generalize valE l vs l.length 0 = q at *
      obtain ⟨pn, py, po⟩ := p
      obtain ⟨qn, qo⟩ := q
      obtain ⟨k1, k2⟩ := h4
      simp only at k1 k2 ⊢
      simp only [rT, vl, Int.ofNat_zero, Int.natCast_zero] at h1 h2 h3 ⊢
      cases qo
      · simp only [Bool.not_false] at k1
        subst k1
        rw [if_neg (by simp)]
        refine pB Tryz.func200 rfl (by decide) Tryz.ntmps200 (by simp) Tryz.results200 ?_
        repeat' (first
 |refine aK fun K hK=>?_|refine Step.by1 ?_|refine sE (by decide) ?_|refine cz rfl ?_|refine Fork.by2 (fun h=>?_) fun h=>?_
 |((first|refine aR ?_|refine aC (f:=189) rfl rfl (h1) rfl rfl rfl ?_|refine aC (f:=190) rfl rfl (h2) rfl rfl rfl ?_|refine aC (f:=191) rfl rfl (h3) rfl rfl rfl ?_);simp [hiv])
 |(refine Split.by2 (fun h=>?_) (fun h=>?_)<;>(simp [h, hiv]))
 |(apply hK;clear hK K)|refine AWh ‹_› ?_)
        exact retq2 (cE (by simp) (by simp))
      · simp only [Bool.not_true] at k1
        subst k1
        have k2 := k2 rfl
        simp only [Bool.false_eq_true, if_false] at k2
        subst k2
        rw [if_pos rfl]
        refine pB Tryz.func200 rfl (by decide) Tryz.ntmps200 (by simp) Tryz.results200 ?_
        repeat' (first
 |refine aK fun K hK=>?_|refine Step.by1 ?_|refine sE (by decide) ?_|refine cz rfl ?_|refine Fork.by2 (fun h=>?_) fun h=>?_
 |((first|refine aR ?_|refine aC (f:=189) rfl rfl (h1) rfl rfl rfl ?_|refine aC (f:=190) rfl rfl (h2) rfl rfl rfl ?_|refine aC (f:=191) rfl rfl (h3) rfl rfl rfl ?_);simp [hiv])
 |(refine Split.by2 (fun h=>?_) (fun h=>?_)<;>(simp [h, hiv]))
 |(apply hK;clear hK K)|refine AWh ‹_› ?_)
        exact retq2 (cE (by simp) (by simp))
    · rw [ht] at h2
      rw [if_pos (by simp)]
      simp only [vl] at h1 h2 ⊢
      refine pB Tryz.func200 rfl (by decide) Tryz.ntmps200 (by simp) Tryz.results200 ?_
      repeat' (first
 |refine aK fun K hK=>?_|refine Step.by1 ?_|refine sE (by decide) ?_|refine cz rfl ?_|refine Fork.by2 (fun h=>?_) fun h=>?_
 |((first|refine aR ?_|refine aC (f:=189) rfl rfl (h1) rfl rfl rfl ?_|refine aC (f:=190) rfl rfl (h2) rfl rfl rfl ?_);simp [hiv])
 |(refine Split.by2 (fun h=>?_) (fun h=>?_)<;>(simp [h, hiv]))
 |(apply hK;clear hK K)|refine AWh ‹_› ?_)
      exact retq2 (cE (by simp) (by simp))
  · rw [if_pos (Or.inl hr)]
    generalize rightE l vs.length = e at *
    simp only [vl] at h1 h2 ⊢
    refine pB Tryz.func200 rfl (by decide) Tryz.ntmps200 (by simp) Tryz.results200 ?_
    repeat' (first
 |refine aK fun K hK=>?_|refine Step.by1 ?_|refine sE (by decide) ?_|refine cz rfl ?_|refine Fork.by2 (fun h=>?_) fun h=>?_
 |((first|refine aR ?_|refine aC (f:=189) rfl rfl (h1) rfl rfl rfl ?_|refine aC (f:=190) rfl rfl (h2) rfl rfl rfl ?_);simp [hiv, hr])
 |(refine Split.by2 (fun h=>?_) (fun h=>?_)<;>(simp [h, hiv, hr]))
 |(apply hK;clear hK K)|refine AWh ‹_› ?_)
    exact retq2 (cE (by simp) (by simp))
theorem c_HoldsX (l : List NodeD) (hl : l.length ≤ 1048576 ∧ ∀ x ∈ l, x.ok) (vs : List Int) (hvl : vs.length ≤ 1048576) (hv : ∀ v ∈ vs, I64 v) : PC 122 [vl NodeD.cells l, .vec (ivs vs) vs.length] (.tup [.bool (holdsS l vs).1, .int .i64 (holdsS l vs).2]) := by
  have h1 := c_Right l vs.length hl ⟨by omega, by omega⟩
  have h2 := c_IsTruthB l hl.2
  have hiv : (ivs vs).length = vs.length := by simp [ivs]
  unfold holdsS
  by_cases hl0 : l.length = 0
  · obtain rfl := List.eq_nil_of_length_eq_zero hl0
    simp only [vl, List.map_nil, List.length_nil, if_true]
    refine pB Tryz.func122 rfl (by decide) Tryz.ntmps122 (by simp) Tryz.results122 ?_
    repeat' (first
 |refine aK fun K hK=>?_|refine Step.by1 ?_|refine sE (by decide) ?_|refine cz rfl ?_|refine Fork.by2 (fun h=>?_) fun h=>?_
 |(refine aR ?_;simp)
 |(refine Split.by2 (fun h=>?_) (fun h=>?_)<;>(simp [h]))
 |(apply hK;clear hK K)|refine AWh ‹_› ?_)
    exact retq2 (cE (by simp) (by simp))
  rw [if_neg hl0]
  have hl1 : ¬ (l.length : Int) = 0 := by omega
  by_cases hr : rightE l vs.length = 0
  · rw [hr] at h1
    cases ht : isTruthB l
    rotate_left
    · rw [ht] at h2
      rw [if_neg (by simp [hr])]
      obtain ⟨r1, r2, r3, r4⟩ := right_parts hr
      have h3 := (c_reckon l ⟨r2, hl.2⟩ vs hvl hv r3 r4 l.length 0 r1 (by omega)).2
      have h4 := rel_law l ⟨r2, hl.2⟩ vs hvl hv r3 r4 l.length 0 r1 (by omega)
      rw [head_get r1, ht] at h4
      clear r4 r3 hl hr
      generalize reck l vs l.length 0 = p at *
      generalize valE l vs l.length 0 = q at *
      obtain ⟨pn, py, po⟩ := p
      obtain ⟨qn, qo⟩ := q
      obtain ⟨k1, k2⟩ := h4
      simp only at k1 k2 ⊢
      simp only [rT, vl, Int.ofNat_zero, Int.natCast_zero] at h1 h2 h3 ⊢
      cases qo
      · simp only [Bool.not_false] at k1
        subst k1
        rw [if_neg (by simp)]
        refine pB Tryz.func122 rfl (by decide) Tryz.ntmps122 (by simp) Tryz.results122 ?_
        repeat' (first
 |refine aK fun K hK=>?_|refine Step.by1 ?_|refine sE (by decide) ?_|refine cz rfl ?_|refine Fork.by2 (fun h=>?_) fun h=>?_
 |((first|refine aR ?_|refine aC (f:=189) rfl rfl (h1) rfl rfl rfl ?_|refine aC (f:=190) rfl rfl (h2) rfl rfl rfl ?_|refine aC (f:=191) rfl rfl (h3) rfl rfl rfl ?_);simp [hiv, hl0, hl1])
 |(refine Split.by2 (fun h=>?_) (fun h=>?_)<;>(simp [h, hiv, hl0, hl1]))
 |(apply hK;clear hK K)|refine AWh ‹_› ?_)
        exact retq2 (cE (by simp) (by simp))
      · simp only [Bool.not_true] at k1
        subst k1
        have k2 := k2 rfl
        simp only [if_true] at k2
        have k3 : decide (qn = 1) = py := by rw [k2]; cases py <;> rfl
        rw [if_pos rfl, k3]
        refine pB Tryz.func122 rfl (by decide) Tryz.ntmps122 (by simp) Tryz.results122 ?_
        repeat' (first
 |refine aK fun K hK=>?_|refine Step.by1 ?_|refine sE (by decide) ?_|refine cz rfl ?_|refine Fork.by2 (fun h=>?_) fun h=>?_
 |((first|refine aR ?_|refine aC (f:=189) rfl rfl (h1) rfl rfl rfl ?_|refine aC (f:=190) rfl rfl (h2) rfl rfl rfl ?_|refine aC (f:=191) rfl rfl (h3) rfl rfl rfl ?_);simp [hiv, hl0, hl1])
 |(refine Split.by2 (fun h=>?_) (fun h=>?_)<;>(simp [h, hiv, hl0, hl1]))
 |(apply hK;clear hK K)|refine AWh ‹_› ?_)
        exact retq2 (cE (by simp) (by simp))
    · rw [ht] at h2
      rw [if_pos (by simp [ht])]
      simp only [vl] at h1 h2 ⊢
      refine pB Tryz.func122 rfl (by decide) Tryz.ntmps122 (by simp) Tryz.results122 ?_
      repeat' (first
 |refine aK fun K hK=>?_|refine Step.by1 ?_|refine sE (by decide) ?_|refine cz rfl ?_|refine Fork.by2 (fun h=>?_) fun h=>?_
 |((first|refine aR ?_|refine aC (f:=189) rfl rfl (h1) rfl rfl rfl ?_|refine aC (f:=190) rfl rfl (h2) rfl rfl rfl ?_);simp [hiv, hl0, hl1])
 |(refine Split.by2 (fun h=>?_) (fun h=>?_)<;>(simp [h, hiv, hl0, hl1]))
 |(apply hK;clear hK K)|refine AWh ‹_› ?_)
      exact retq2 (cE (by simp) (by simp))
  · rw [if_pos (Or.inl hr)]
    generalize rightE l vs.length = e at *
    simp only [vl] at h1 h2 ⊢
    refine pB Tryz.func122 rfl (by decide) Tryz.ntmps122 (by simp) Tryz.results122 ?_
    repeat' (first
 |refine aK fun K hK=>?_|refine Step.by1 ?_|refine sE (by decide) ?_|refine cz rfl ?_|refine Fork.by2 (fun h=>?_) fun h=>?_
 |((first|refine aR ?_|refine aC (f:=189) rfl rfl (h1) rfl rfl rfl ?_|refine aC (f:=190) rfl rfl (h2) rfl rfl rfl ?_);simp [hiv, hl0, hl1, hr])
 |(refine Split.by2 (fun h=>?_) (fun h=>?_)<;>(simp [h, hiv, hl0, hl1, hr]))
 |(apply hK;clear hK K)|refine AWh ‹_› ?_)
    exact retq2 (cE (by simp) (by simp))
/-- A truth value that simp leaves alone. -/
structure Bx where
  b : Bool
noncomputable def movL (n : NetD) (m : MoveD) : Option (List (Int × EdgeD)) := match edgeO n m.auto m.edge with
  | none => none
  | some e => if m.wth = 0 then (if (decide (e.chan = 0) && decide (m.take = 0)) = true then some [(m.auto, e)] else none) else match edgeO n (otherM m) m.take with
    | none => none
    | some f => if pairB m e f = true then some [(m.auto, e), (otherM m, f)] else none
/-- An edge of an automaton of the network. -/
def atA (n : NetD) (p : Int × EdgeD) : Prop := ∃ (i : Nat) (A : AutoD), p.1 = i ∧ n.autos[i]? = some A ∧ p.2 ∈ A.edges
theorem edgeO_at {n : NetD} {a k : Int} {e : EdgeD} (h : edgeO n a k = some e) : atA n (a, e) := by
  unfold edgeO at h
  split at h
  · rename_i h1
    split at h
    · rename_i h2
      obtain ⟨i, rfl⟩ := Int.eq_ofNat_of_zero_le h1.1
      obtain ⟨j, rfl⟩ := Int.eq_ofNat_of_zero_le h2.1
      have hi : i < n.autos.length := by omega
      have e1 : n.autos.getD (i : Int).toNat default = n.autos[i] := by simp [List.getD, List.getElem?_eq_getElem hi]
      rw [e1] at h h2
      have hj : j < n.autos[i].edges.length := by omega
      have e2 : n.autos[i].edges.getD (j : Int).toNat default = n.autos[i].edges[j] := by simp [List.getD, List.getElem?_eq_getElem hj]
      rw [e2] at h
      cases h
      exact ⟨i, n.autos[i], rfl, List.getElem?_eq_getElem hi, List.getElem_mem hj⟩
    · cases h
  · cases h
theorem movL_cases {n : NetD} {m : MoveD} {L : List (Int × EdgeD)} (h : movL n m = some L) : (∃ e, edgeO n m.auto m.edge = some e ∧ m.wth = 0 ∧ L = [(m.auto, e)]) ∨ ∃ e f, edgeO n m.auto m.edge = some e ∧ ¬ m.wth = 0 ∧ edgeO n (otherM m) m.take = some f ∧ pairB m e f = true ∧ L = [(m.auto, e), (otherM m, f)] := by
  unfold movL at h
  cases he : edgeO n m.auto m.edge with
  | none => rw [he] at h; cases h
  | some e =>
    rw [he] at h
    by_cases hw : m.wth = 0
    · simp only [hw, if_true] at h
      cases hb : (decide (e.chan = 0) && decide (m.take = 0))
      · rw [hb] at h; simp at h
      · rw [hb] at h; simp at h; exact .inl ⟨e, rfl, hw, h.symm⟩
    · simp only [hw, if_false] at h
      cases hf : edgeO n (otherM m) m.take with
      | none => rw [hf] at h; cases h
      | some f =>
        rw [hf] at h
        simp only at h
        cases hp : pairB m e f
        · rw [hp] at h; simp at h
        · rw [hp] at h; simp at h; exact .inr ⟨e, f, rfl, hw, rfl, hp, h.symm⟩
theorem movL_at {n : NetD} {m : MoveD} {L : List (Int × EdgeD)} (h : movL n m = some L) : L.length ≤ 2 ∧ ∀ p ∈ L, atA n p := by
  rcases movL_cases h with ⟨e, h1, _, rfl⟩ | ⟨e, f, h1, _, h2, _, rfl⟩
  · exact ⟨by simp, fun p hp => by simp at hp; subst hp; exact edgeO_at h1⟩
  · refine ⟨by simp, fun p hp => ?_⟩
    simp at hp
    rcases hp with rfl | rfl
    · exact edgeO_at h1
    · exact edgeO_at h2
/-- What a whole network says of an edge. -/
structure EdgeR (n : NetD) (A : AutoD) (e : EdgeD) : Prop where
  frm : 0 ≤ e.frm ∧ e.frm < A.locs.length
  to : 0 ≤ e.to ∧ e.to < A.locs.length
  vars : ∀ x ∈ e.sets, x.clock = 0 → 0 ≤ x.var ∧ x.var < n.vars.length
  clks : ∀ x ∈ e.sets, x.clock ≠ 0 → 1 ≤ x.clock ∧ x.clock ≤ n.clocks.length
theorem anyL_no {α : Type} {p : α → Bool} {l : List α} (h : ¬ anyL p l = true) : ∀ x ∈ l, p x = false := fun x hx => by
  cases hp : p x
  · rfl
  · exact absurd (List.any_eq_true.2 ⟨x, hx, hp⟩) h
theorem sets_mem {n : NetD} {A : AutoD} {e : EdgeD} {x : SetD} (hA : A ∈ n.autos) (he : e ∈ A.edges) (hx : x ∈ e.sets) : x ∈ setsL n :=
  List.mem_flatMap.2 ⟨A, hA, List.mem_flatMap.2 ⟨e, he, hx⟩⟩
theorem whole_edge {n : NetD} (h : wholeE n = 0) {A : AutoD} (hA : A ∈ n.autos) {e : EdgeD} (he : e ∈ A.edges) : EdgeR n A e := by
  unfold wholeE at h
  have k1 := (fZ (fZ (fZ (fZ (fZ h).2).2).2).2).2
  have h1 := (fZ k1).1
  have k2 := (fZ k1).2
  have h2 := (fZ k2).1
  have k3 := (fZ (fZ k2).2).2
  have h4 := (fZ k3).1
  unfold edgesE at h1
  have e1 : edgeB n A e = false := by
    by_cases hb : anyL (fun a => anyL (edgeB n a) a.edges) n.autos = true
    · rw [if_pos hb] at h1; cases h1
    · exact anyL_no (by have := anyL_no hb A hA; rw [this]; simp) e he
  simp only [edgeB, isLoc, Bool.or_eq_false_iff, Bool.not_eq_false', decide_eq_true_eq] at e1
  unfold clocksE at h2
  have c1 : ∀ x ∈ setsL n, clkS n x = false := by
    by_cases hb : anyL (clkS n) (setsL n) = true
    · rw [if_pos hb] at h2
      by_cases hc : clkE n (guardsL n) ≠ 0
      · rw [if_pos hc] at h2; exact absurd h2 hc
      · rw [if_neg hc] at h2; cases h2
    · exact anyL_no hb
  unfold testsE at h4
  have t1 : ∀ x ∈ setsL n, testS n x = false := by
    by_cases hb : anyL (testS n) (setsL n) = true
    · rw [if_pos hb] at h4
      split at h4 <;> cases h4
    · exact anyL_no hb
  refine ⟨e1.1, e1.2.1, fun x hx h0 => ?_, fun x hx h0 => ?_⟩
  · have := t1 x (sets_mem hA he hx)
    simp only [testS, h0, decide_true, Bool.true_and, Bool.or_eq_false_iff, decide_eq_false_iff_not] at this
    omega
  · have := c1 x (sets_mem hA he hx)
    simp only [clkS, isClk, ne_eq, h0, not_false_eq_true, decide_true, Bool.true_and, Bool.not_eq_false', decide_eq_true_eq] at this
    exact this
def locOf (s : StateD) (a : Int) : Int := s.locs.getD a.toNat 0
noncomputable def comAt (n : NetD) (s : StateD) (a : Int) : Bool := comP (n.autos.getD a.toNat default, locOf s a)
/-- Are the automata of a move where it begins, and is one of them committed? -/
noncomputable def thF (n : NetD) (s : StateD) : List (Int × EdgeD) → Bool → Option Bool
  | [], f => some f
  | p :: r, f => if locOf s p.1 = p.2.frm then thF n s r (f || comAt n s p.1) else none
theorem thF_nil {n : NetD} {s : StateD} {f : Bool} : thF n s [] f = some f := rfl
theorem thF_cons {n : NetD} {s : StateD} {p : Int × EdgeD} {r : List (Int × EdgeD)} {f : Bool} : thF n s (p :: r) f = if locOf s p.1 = p.2.frm then thF n s r (f || comAt n s p.1) else none := rfl
noncomputable def thFx (n : NetD) (s : StateD) (L : List (Int × EdgeD)) (c : Bx) : Option Bool := thF n s L c.b
def tstB (vs : List Int) (e : EdgeD) : Bool := decide ((holdsS e.test vs).2 = 0) && (holdsS e.test vs).1
/-- Locations behind a move, if the tests let it be. -/
def moveF (vs : List Int) : List (Int × EdgeD) → List Int → Option (List Int)
  | [], l => some l
  | p :: r, l => if tstB vs p.2 = true then moveF vs r (l.set p.1.toNat p.2.to) else none
theorem moveF_nil {vs l : List Int} : moveF vs [] l = some l := rfl
theorem moveF_cons {vs l : List Int} {p : Int × EdgeD} {r : List (Int × EdgeD)} : moveF vs (p :: r) l = if tstB vs p.2 = true then moveF vs r (l.set p.1.toNat p.2.to) else none := rfl
def setTo : List (Int × EdgeD) → List Int → List Int
  | [], l => l
  | p :: r, l => setTo r (l.set p.1.toNat p.2.to)
theorem setTo_cons {l : List Int} {p : Int × EdgeD} {r : List (Int × EdgeD)} : setTo (p :: r) l = setTo r (l.set p.1.toNat p.2.to) := rfl
def noTst (vs : List Int) (p : Int × EdgeD) : Bool := !tstB vs p.2
theorem moveF_eq {vs : List Int} : ∀ {L : List (Int × EdgeD)} {l : List Int}, moveF vs L l = if anyL (noTst vs) L = true then none else some (setTo L l)
  | [], l => rfl
  | p :: r, l => by
    rw [moveF_cons, anC, setTo_cons, moveF_eq]
    unfold noTst
    cases tstB vs p.2 <;> simp
/-- A set of a variable; none: it may not be. -/
def stepV (n : NetD) (x : SetD) (vs : List Int) : Option (List Int) := if x.clock ≠ 0 then some vs else if (valueS x.expr vs).2 = 0 ∧ (n.vars.getD x.var.toNat default).lo ≤ (valueS x.expr vs).1 ∧ (valueS x.expr vs).1 ≤ (n.vars.getD x.var.toNat default).hi then some (vs.set x.var.toNat (valueS x.expr vs).1) else none
def setsF (n : NetD) : List SetD → List Int → Option (List Int)
  | [], vs => some vs
  | x :: r, vs => match stepV n x vs with
    | none => none
    | some ws => setsF n r ws
theorem setsF_nil {n : NetD} {vs : List Int} : setsF n [] vs = some vs := rfl
theorem setsF_cons {n : NetD} {x : SetD} {r : List SetD} {vs : List Int} : setsF n (x :: r) vs = match stepV n x vs with
    | none => none
    | some ws => setsF n r ws := rfl
def setsLF (n : NetD) : List (Int × EdgeD) → List Int → Option (List Int)
  | [], vs => some vs
  | p :: r, vs => match setsF n p.2.sets vs with
    | none => none
    | some ws => setsLF n r ws
theorem setsLF_nil {n : NetD} {vs : List Int} : setsLF n [] vs = some vs := rfl
theorem setsLF_cons {n : NetD} {p : Int × EdgeD} {r : List (Int × EdgeD)} {vs : List Int} : setsLF n (p :: r) vs = match setsF n p.2.sets vs with
    | none => none
    | some ws => setsLF n r ws := rfl
/-- The error, and the state behind a move. -/
def noS : StateD := ⟨[], []⟩
def passD (ls : List Int) : Option (List Int) → Int × StateD
  | none => (211, noS)
  | some vs => (0, ⟨ls, vs⟩)
def passC (n : NetD) (s : StateD) (L : List (Int × EdgeD)) : Option (List Int) → Int × StateD
  | none => (211, noS)
  | some ls => passD ls (setsLF n L s.vars)
noncomputable def passB (n : NetD) (s : StateD) (L : List (Int × EdgeD)) : Option Bool → Int × StateD
  | none => (213, noS)
  | some f => if (f || !comE n s) = false then (213, noS) else passC n s L (moveF s.vars L s.locs)
noncomputable def passA (n : NetD) (s : StateD) : Option (List (Int × EdgeD)) → Int × StateD
  | none => (213, noS)
  | some L => passB n s L (thF n s L false)
noncomputable def passR (n : NetD) (s : StateD) (m : MoveD) : Int × StateD := passA n s (movL n m)
/-- Values that a network's variables may have. -/
def valsOk (n : NetD) (vs : List Int) : Prop := eqF hasB n.vars vs = true
theorem vals_len {n : NetD} {vs : List Int} (h : valsOk n vs) : n.vars.length = vs.length := eqF_len h
theorem vals_i64 {n : NetD} (hn : n.ok) {vs : List Int} (h : valsOk n vs) : ∀ v ∈ vs, I64 v := fun v hv => by
  obtain ⟨i, hi⟩ := List.getElem?_of_mem hv
  have hl := vals_len h
  have hi2 : i < n.vars.length := by have := (List.getElem?_eq_some_iff.1 hi).1; omega
  have := eqF_at h i n.vars[i] v (List.getElem?_eq_getElem hi2) hi
  have ho := hn.2.1.2 n.vars[i] (List.getElem_mem hi2)
  obtain ⟨_, o1, o2, _⟩ := ho
  simp only [hasB, Bool.and_eq_true, decide_eq_true_eq] at this
  unfold I64 at *
  omega
theorem eqF_of {α β : Type} {p : α → β → Bool} : ∀ {l : List α} {m : List β}, l.length = m.length → (∀ (j : Nat) (x : α) (y : β), l[j]? = some x → m[j]? = some y → p x y = true) → eqF p l m = true
  | [], [], _, _ => rfl
  | [], b :: m, h, _ => by simp at h
  | a :: l, [], h, _ => by simp at h
  | a :: l, b :: m, h, hp => by
    rw [eqF, hp 0 a b rfl rfl, eqF_of (by simpa using h) (fun j x y hx hy => hp (j + 1) x y (by simpa using hx) (by simpa using hy))]
    rfl
theorem eqF_set {α β : Type} {p : α → β → Bool} {l : List α} {m : List β} (h : eqF p l m = true) {i : Nat} {y : β} (hy : ∀ x, l[i]? = some x → p x y = true) : eqF p l (m.set i y) = true := by
  refine eqF_of (by simpa using eqF_len h) fun j x z hx hz => ?_
  rw [List.getElem?_set] at hz
  split at hz
  · rename_i e; subst e
    split at hz
    · cases hz; exact hy x hx
    · cases hz
  · exact eqF_at h j x z hx hz
theorem stepV_ok {n : NetD} {x : SetD} {vs ws : List Int} (hv : valsOk n vs) (h : stepV n x vs = some ws) : valsOk n ws := by
  unfold stepV at h
  split at h
  · cases h; exact hv
  · split at h
    · rename_i h1
      cases h
      refine eqF_set hv fun v hx => ?_
      rw [show n.vars.getD x.var.toNat default = v by simp [List.getD, hx]] at h1
      simp only [hasB, Bool.and_eq_true, decide_eq_true_eq]
      omega
    · cases h
theorem setsF_ok {n : NetD} : ∀ {l : List SetD} {vs ws : List Int}, valsOk n vs → setsF n l vs = some ws → valsOk n ws
  | [], vs, ws, hv, h => by cases h; exact hv
  | x :: r, vs, ws, hv, h => by
    rw [setsF_cons] at h
    cases hs : stepV n x vs with
    | none => rw [hs] at h; cases h
    | some us => rw [hs] at h; exact setsF_ok (stepV_ok hv hs) h
theorem setsLF_ok {n : NetD} : ∀ {l : List (Int × EdgeD)} {vs ws : List Int}, valsOk n vs → setsLF n l vs = some ws → valsOk n ws
  | [], vs, ws, hv, h => by cases h; exact hv
  | x :: r, vs, ws, hv, h => by
    rw [setsLF_cons] at h
    cases hs : setsF n x.2.sets vs with
    | none => rw [hs] at h; cases h
    | some us => rw [hs] at h; exact setsLF_ok (setsF_ok hv hs) h
def locsOk (n : NetD) (ls : List Int) : Prop := eqF atLB n.autos ls = true
theorem setTo_ok {n : NetD} (hw : wholeE n = 0) : ∀ {L : List (Int × EdgeD)} {l : List Int}, (∀ p ∈ L, atA n p) → locsOk n l → locsOk n (setTo L l)
  | [], l, _, h => h
  | p :: r, l, hL, h => by
    rw [setTo_cons]
    refine setTo_ok hw (fun q hq => hL q (List.mem_cons_of_mem _ hq)) (eqF_set h fun A hA => ?_)
    obtain ⟨i, A', e1, e2, e3⟩ := hL p (List.mem_cons_self ..)
    rw [e1, Int.toNat_natCast, e2] at hA
    cases hA
    have := (whole_edge hw (List.mem_of_getElem? e2) e3).to
    simp only [atLB, Bool.and_eq_true, decide_eq_true_eq]
    exact this
theorem right_split {n : NetD} {s : StateD} (h : rightSE n s = true) : wholeE n = 0 ∧ locsOk n s.locs ∧ valsOk n s.vars := by
  simpa [rightSE, stB, Bool.and_eq_true, and_assoc, locsOk, valsOk] using h
theorem right_join {n : NetD} {s : StateD} (h : wholeE n = 0 ∧ locsOk n s.locs ∧ valsOk n s.vars) : rightSE n s = true := by
  obtain ⟨h0, h1, h2⟩ := h
  unfold locsOk at h1; unfold valsOk at h2
  simp [rightSE, stB, h0, h1, h2]
theorem pass_right {n : NetD} {s : StateD} {m : MoveD} (h : rightSE n s = true) (h0 : (passR n s m).1 = 0) : rightSE n (passR n s m).2 = true := by
  obtain ⟨hw, h1, h2⟩ := right_split h
  unfold passR at h0 ⊢
  cases hm : movL n m with
  | none => rw [hm] at h0; cases h0
  | some L =>
    rw [hm] at h0
    simp only [passA] at h0 ⊢
    cases ht : thF n s L false with
    | none => rw [ht] at h0; cases h0
    | some f =>
      rw [ht] at h0
      simp only [passB] at h0 ⊢
      by_cases hf : (f || !comE n s) = false
      · rw [if_pos hf] at h0; cases h0
      · rw [if_neg hf] at h0 ⊢
        rw [moveF_eq] at h0 ⊢
        by_cases ha : anyL (noTst s.vars) L = true
        · rw [if_pos ha] at h0; cases h0
        · rw [if_neg ha] at h0 ⊢
          simp only [passC] at h0 ⊢
          cases hs : setsLF n L s.vars with
          | none => rw [hs] at h0; cases h0
          | some vs => exact right_join ⟨hw, setTo_ok hw (movL_at hm).2 h1, setsLF_ok h2 hs⟩
end Go.Proofs.YtbgooadmonnjaaaGreatDoor
end
