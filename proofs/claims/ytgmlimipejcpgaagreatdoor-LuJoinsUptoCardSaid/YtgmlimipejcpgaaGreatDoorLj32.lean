/-
  YtgmlimipejcpgaaGreatDoorLj32: steps of the proof of a law of the program: what these texts prove holds under the hypotheses that their theorems name, and no others.
-/
import Derived.Test.YtgmlimipejcpgaaGreatDoorLj31
section
set_option linter.unusedSimpArgs false
set_option linter.unusedVariables false
namespace Go.Proofs.YtgmlimipejcpgaaGreatDoor
open Go Go.AM Fx
def lenB (x y : List Int) : Bool := decide (x.length = y.length)
def alikeQ (Q R : List (List Int)) : Bool := eqF lenB Q R
def alikeP (A C : List (List (List Int))) : Bool := eqF alikeQ A C
theorem alikeP_iff {A C : List (List (List Int))} : alikeP A C = true ↔ Shp A C := by
  unfold alikeP
  rw [eqF_iff]
  constructor
  · rintro ⟨h1, h2⟩
    refine ⟨h1, fun i Q R hQ hR => ?_⟩
    have h3 := h2 i Q R hQ hR
    unfold alikeQ at h3
    obtain ⟨h4, h5⟩ := eqF_iff.1 h3
    exact ⟨h4, fun k x y hx hy => of_decide_eq_true (h5 k x y hx hy)⟩
  · rintro ⟨h1, h2⟩
    refine ⟨h1, fun i Q R hQ hR => ?_⟩
    obtain ⟨h4, h5⟩ := h2 i Q R hQ hR
    exact eqF_iff.2 ⟨h4, fun k x y hx hy => decide_eq_true (h5 k x y hx hy)⟩
def leI (u v : Int) : Bool := decide (u ≤ v)
def leR (x y : List Int) : Bool := eqF leI x y
def leQ (Q R : List (List Int)) : Bool := eqF leR Q R
def widerP (A C : List (List (List Int))) : Bool := eqF leQ A C
theorem c_lenB (x y : List Int) : PC 175 [.vec (ivs x) x.length, .vec (ivs y) y.length] (.bool (lenB x y)) := by
  unfold lenB
  refine pB Tryz.func175 rfl (by decide) Tryz.ntmps175 (by simp) Tryz.results175 ?_
  by_cases h : x.length = y.length
  · have h' : (x.length : Int) = y.length := by omega
    repeat' (first
 |refine aK fun K hK=>?_|refine Step.by1 ?_|refine sE (by decide) ?_|refine cz rfl ?_|refine Fork.by2 (fun h=>?_) fun h=>?_
 |(refine aR ?_;simp [h, h'])
 |(refine Split.by2 (fun h=>?_) (fun h=>?_)<;>(simp [h, h, h']))
 |(apply hK;clear hK K)|refine AWh ‹_› ?_)
    exact r1q (cE (by simp [h]) rfl)
  · have h' : ¬ (x.length : Int) = y.length := by omega
    repeat' (first
 |refine aK fun K hK=>?_|refine Step.by1 ?_|refine sE (by decide) ?_|refine cz rfl ?_|refine Fork.by2 (fun h=>?_) fun h=>?_
 |(refine aR ?_;simp [h, h'])
 |(refine Split.by2 (fun h=>?_) (fun h=>?_)<;>(simp [h, h, h']))
 |(apply hK;clear hK K)|refine AWh ‹_› ?_)
    exact r1q (cE (by simp [h]) rfl)
set_option maxHeartbeats 8000000 in
theorem c_eqQ (f : Nat) (p : List Int → List Int → Bool) (l m : List (List Int)) (hf : ∀ a ∈ l, ∀ r ∈ m, PC f [.vec (ivs a) a.length, .vec (ivs r) r.length] (.bool (p a r))) (hll : l.length ≤ 1048576) :
    PC 174 [.vec (rows2V l) l.length, .vec (rows2V m) m.length, .fn (.func f) [] []] (.bool (eqF p l m)) := by
  have ra : (rows2V l).length = l.length := by simp
  have rm : (rows2V m).length = m.length := by simp
  by_cases hlen : l.length = m.length
  · have hlen' : (l.length : Int) = m.length := by omega
    refine pB Tryz.func174 rfl (by decide) Tryz.ntmps174 (by simp) Tryz.results174 ?_
    repeat' (first
 |refine aK fun K hK=>?_|refine Step.by1 ?_|refine sE (by decide) ?_|refine cz rfl ?_|refine Fork.by2 (fun h=>?_) fun h=>?_
 |(refine aR ?_;simp [hlen, hlen'])
 |(refine Split.by2 (fun h=>?_) (fun h=>?_)<;>(simp [h, hlen, hlen']))
 |(apply hK;clear hK K)|refine AWh ‹_› ?_)
    refine aL [1, 2, 15, 16] (fun i : Nat => [(17, .int .i64 i)]) (fun _ => []) (fun i => i ≤ l.length ∧ eqF p (l.drop i) (m.drop i) = eqF p l m) (fun i => l.length - i) 0 ⟨Nat.zero_le _, rfl⟩ (by apply Weak.mk' <;> simp [hlen]) (fun _ _ => rfl) ?_
    rintro i ⟨hi, hk⟩
    by_cases hlt : i < l.length
    · obtain ⟨a, haa⟩ : ∃ a, l[i] = a := ⟨_, rfl⟩
      have hlm : i < m.length := by omega
      obtain ⟨r, hrr⟩ : ∃ r, m[i] = r := ⟨_, rfl⟩
      rw [List.drop_eq_getElem_cons hlt, List.drop_eq_getElem_cons hlm, haa, hrr, eqF] at hk
      have hlt' : (i : Int) < l.length := by omega
      have hlm' : (i : Int) < m.length := by omega
      have w1 : IntKind.i64.wrap ((i : Int) + 1) = i + 1 := wI (by omega) (by omega)
      have ha? : l[i]? = some a := by rw [List.getElem?_eq_getElem hlt, haa]
      have hr? : m[i]? = some r := by rw [List.getElem?_eq_getElem hlm, hrr]
      have a2 := rows2V_get ha?
      have a3 : (rows2V l)[i]'(by omega) = [V.vec (ivs a) a.length] := by rw [List.getElem?_eq_getElem (by omega)] at a2; exact Option.some.inj a2
      have m2 := rows2V_get hr?
      have m3 : (rows2V m)[i]'(by omega) = [V.vec (ivs r) r.length] := by rw [List.getElem?_eq_getElem (by omega)] at m2; exact Option.some.inj m2
      have hc := hf a (haa ▸ List.getElem_mem hlt) r (hrr ▸ List.getElem_mem hlm)
      generalize p a r = q at *
      cases q
      · rw [Bool.false_and] at hk
        repeat' (first
 |refine aK fun K hK=>?_|refine Step.by1 ?_|refine sE (by decide) ?_|refine cz rfl ?_|refine Fork.by2 (fun h=>?_) fun h=>?_
 |(refine aR ?_;simp [hlt, hlt', hlm, hlm', a2, a3, m2, m3, w1, ra, rm, hlen])
 |(refine Split.by2 (fun h=>?_) (fun h=>?_)<;>(simp [h, hlt, hlt', hlm, hlm', a2, a3, m2, m3, w1, ra, rm, hlen]))
 |(refine aC (f := f) rfl rfl hc rfl rfl rfl ?_; simp)
 |(apply hK;clear hK K)|refine AWh ‹_› ?_)
        exact r1q (cE (by simp [← hk]) rfl)
      · rw [Bool.true_and] at hk
        repeat' (first
 |refine aK fun K hK=>?_|refine Step.by1 ?_|refine sE (by decide) ?_|refine cz rfl ?_|refine Fork.by2 (fun h=>?_) fun h=>?_
 |(refine aR ?_;simp [hlt, hlt', hlm, hlm', a2, a3, m2, m3, w1, ra, rm, hlen])
 |(refine Split.by2 (fun h=>?_) (fun h=>?_)<;>(simp [h, hlt, hlt', hlm, hlm', a2, a3, m2, m3, w1, ra, rm, hlen]))
 |(refine aC (f := f) rfl rfl hc rfl rfl rfl ?_; simp)
 |(apply hK;clear hK K)|refine AWh ‹_› ?_)
        refine ⟨i + 1, ⟨by omega, hk⟩, by omega, ?_⟩
        apply Weak.mk' <;> simp [hlen]
    · obtain rfl : i = l.length := by omega
      rw [List.drop_length, hlen, List.drop_length, eqF] at hk
      repeat' (first
 |refine aK fun K hK=>?_|refine Step.by1 ?_|refine sE (by decide) ?_|refine cz rfl ?_|refine Fork.by2 (fun h=>?_) fun h=>?_
 |(refine aR ?_;simp [hlen])
 |(refine Split.by2 (fun h=>?_) (fun h=>?_)<;>(simp [h, hlen]))
 |(apply hK;clear hK K)|refine AWh ‹_› ?_)
      exact r1q (cE (by simp [← hk]) rfl)
  · have hlen' : ¬ (l.length : Int) = m.length := by omega
    rw [eqF_ne hlen]
    refine pB Tryz.func174 rfl (by decide) Tryz.ntmps174 (by simp) Tryz.results174 ?_
    repeat' (first
 |refine aK fun K hK=>?_|refine Step.by1 ?_|refine sE (by decide) ?_|refine cz rfl ?_|refine Fork.by2 (fun h=>?_) fun h=>?_
 |(refine aR ?_;simp [hlen, hlen'])
 |(refine Split.by2 (fun h=>?_) (fun h=>?_)<;>(simp [h, hlen, hlen']))
 |(apply hK;clear hK K)|refine AWh ‹_› ?_)
    exact r1q (cE rfl rfl)
theorem c_alikeQ (Q R : List (List Int)) (hQ : Q.length ≤ 1048576) : PC 173 [.vec (rows2V Q) Q.length, .vec (rows2V R) R.length] (.bool (alikeQ Q R)) := by
  have hc := c_eqQ 175 lenB Q R (fun x _ y _ => c_lenB x y) hQ
  unfold alikeQ
  generalize eqF lenB Q R = b at *
  generalize rows2V Q = X at *
  generalize rows2V R = Y at *
  refine pB Tryz.func173 rfl (by decide) Tryz.ntmps173 (by simp) Tryz.results173 ?_
  repeat' (first
 |refine aK fun K hK=>?_|refine Step.by1 ?_|refine sE (by decide) ?_|refine cz rfl ?_|refine Fork.by2 (fun h=>?_) fun h=>?_
 |((first|refine aR ?_|refine aC (f:=174) rfl rfl (hc) rfl rfl rfl ?_);simp)
 |(refine Split.by2 (fun h=>?_) (fun h=>?_)<;>(simp [h]))
 |(apply hK;clear hK K)|refine AWh ‹_› ?_)
  exact r1q (cE rfl rfl)
set_option maxHeartbeats 8000000 in
theorem c_eqP (f : Nat) (p : List (List Int) → List (List Int) → Bool) (l m : List (List (List Int))) (hf : ∀ a ∈ l, ∀ r ∈ m, PC f [.vec (rows2V a) a.length, .vec (rows2V r) r.length] (.bool (p a r))) (hll : l.length ≤ 1048576) :
    PC 172 [.vec (rows3V l) l.length, .vec (rows3V m) m.length, .fn (.func f) [] []] (.bool (eqF p l m)) := by
  have ra : (rows3V l).length = l.length := by simp
  have rm : (rows3V m).length = m.length := by simp
  by_cases hlen : l.length = m.length
  · have hlen' : (l.length : Int) = m.length := by omega
    refine pB Tryz.func172 rfl (by decide) Tryz.ntmps172 (by simp) Tryz.results172 ?_
    repeat' (first
 |refine aK fun K hK=>?_|refine Step.by1 ?_|refine sE (by decide) ?_|refine cz rfl ?_|refine Fork.by2 (fun h=>?_) fun h=>?_
 |(refine aR ?_;simp [hlen, hlen'])
 |(refine Split.by2 (fun h=>?_) (fun h=>?_)<;>(simp [h, hlen, hlen']))
 |(apply hK;clear hK K)|refine AWh ‹_› ?_)
    refine aL [1, 2, 15, 16] (fun i : Nat => [(17, .int .i64 i)]) (fun _ => []) (fun i => i ≤ l.length ∧ eqF p (l.drop i) (m.drop i) = eqF p l m) (fun i => l.length - i) 0 ⟨Nat.zero_le _, rfl⟩ (by apply Weak.mk' <;> simp [hlen]) (fun _ _ => rfl) ?_
    rintro i ⟨hi, hk⟩
    by_cases hlt : i < l.length
    · obtain ⟨a, haa⟩ : ∃ a, l[i] = a := ⟨_, rfl⟩
      have hlm : i < m.length := by omega
      obtain ⟨r, hrr⟩ : ∃ r, m[i] = r := ⟨_, rfl⟩
      rw [List.drop_eq_getElem_cons hlt, List.drop_eq_getElem_cons hlm, haa, hrr, eqF] at hk
      have hlt' : (i : Int) < l.length := by omega
      have hlm' : (i : Int) < m.length := by omega
      have w1 : IntKind.i64.wrap ((i : Int) + 1) = i + 1 := wI (by omega) (by omega)
      have ha? : l[i]? = some a := by rw [List.getElem?_eq_getElem hlt, haa]
      have hr? : m[i]? = some r := by rw [List.getElem?_eq_getElem hlm, hrr]
      have a2 := rows3V_get ha?
      have a3 : (rows3V l)[i]'(by omega) = [V.vec (rows2V a) a.length] := by rw [List.getElem?_eq_getElem (by omega)] at a2; exact Option.some.inj a2
      have m2 := rows3V_get hr?
      have m3 : (rows3V m)[i]'(by omega) = [V.vec (rows2V r) r.length] := by rw [List.getElem?_eq_getElem (by omega)] at m2; exact Option.some.inj m2
      have hc := hf a (haa ▸ List.getElem_mem hlt) r (hrr ▸ List.getElem_mem hlm)
      generalize p a r = q at *
      cases q
      · rw [Bool.false_and] at hk
        repeat' (first
 |refine aK fun K hK=>?_|refine Step.by1 ?_|refine sE (by decide) ?_|refine cz rfl ?_|refine Fork.by2 (fun h=>?_) fun h=>?_
 |(refine aR ?_;simp [hlt, hlt', hlm, hlm', a2, a3, m2, m3, w1, ra, rm, hlen])
 |(refine Split.by2 (fun h=>?_) (fun h=>?_)<;>(simp [h, hlt, hlt', hlm, hlm', a2, a3, m2, m3, w1, ra, rm, hlen]))
 |(refine aC (f := f) rfl rfl hc rfl rfl rfl ?_; simp)
 |(apply hK;clear hK K)|refine AWh ‹_› ?_)
        exact r1q (cE (by simp [← hk]) rfl)
      · rw [Bool.true_and] at hk
        repeat' (first
 |refine aK fun K hK=>?_|refine Step.by1 ?_|refine sE (by decide) ?_|refine cz rfl ?_|refine Fork.by2 (fun h=>?_) fun h=>?_
 |(refine aR ?_;simp [hlt, hlt', hlm, hlm', a2, a3, m2, m3, w1, ra, rm, hlen])
 |(refine Split.by2 (fun h=>?_) (fun h=>?_)<;>(simp [h, hlt, hlt', hlm, hlm', a2, a3, m2, m3, w1, ra, rm, hlen]))
 |(refine aC (f := f) rfl rfl hc rfl rfl rfl ?_; simp)
 |(apply hK;clear hK K)|refine AWh ‹_› ?_)
        refine ⟨i + 1, ⟨by omega, hk⟩, by omega, ?_⟩
        apply Weak.mk' <;> simp [hlen]
    · obtain rfl : i = l.length := by omega
      rw [List.drop_length, hlen, List.drop_length, eqF] at hk
      repeat' (first
 |refine aK fun K hK=>?_|refine Step.by1 ?_|refine sE (by decide) ?_|refine cz rfl ?_|refine Fork.by2 (fun h=>?_) fun h=>?_
 |(refine aR ?_;simp [hlen])
 |(refine Split.by2 (fun h=>?_) (fun h=>?_)<;>(simp [h, hlen]))
 |(apply hK;clear hK K)|refine AWh ‹_› ?_)
      exact r1q (cE (by simp [← hk]) rfl)
  · have hlen' : ¬ (l.length : Int) = m.length := by omega
    rw [eqF_ne hlen]
    refine pB Tryz.func172 rfl (by decide) Tryz.ntmps172 (by simp) Tryz.results172 ?_
    repeat' (first
 |refine aK fun K hK=>?_|refine Step.by1 ?_|refine sE (by decide) ?_|refine cz rfl ?_|refine Fork.by2 (fun h=>?_) fun h=>?_
 |(refine aR ?_;simp [hlen, hlen'])
 |(refine Split.by2 (fun h=>?_) (fun h=>?_)<;>(simp [h, hlen, hlen']))
 |(apply hK;clear hK K)|refine AWh ‹_› ?_)
    exact r1q (cE rfl rfl)
theorem c_alikeP (A C : List (List (List Int))) (hA : planOk A) : PC 116 [halfV A, halfV C] (.bool (alikeP A C)) := by
  have hc := c_eqP 173 alikeQ A C (fun Q hQ R _ => c_alikeQ Q R (hA.2 Q hQ).1) hA.1
  unfold alikeP halfV
  generalize eqF alikeQ A C = b at *
  generalize rows3V A = X at *
  generalize rows3V C = Y at *
  refine pB Tryz.func116 rfl (by decide) Tryz.ntmps116 (by simp) Tryz.results116 ?_
  repeat' (first
 |refine aK fun K hK=>?_|refine Step.by1 ?_|refine sE (by decide) ?_|refine cz rfl ?_|refine Fork.by2 (fun h=>?_) fun h=>?_
 |((first|refine aR ?_|refine aC (f:=172) rfl rfl (hc) rfl rfl rfl ?_);simp)
 |(refine Split.by2 (fun h=>?_) (fun h=>?_)<;>(simp [h]))
 |(apply hK;clear hK K)|refine AWh ‹_› ?_)
  exact r1q (cE rfl rfl)
set_option maxRecDepth 20000 in
set_option maxHeartbeats 16000000 in
theorem c_widerP (A C : List (List (List Int))) (hA : planOk A) (hs : Shp A C) : PC 125 [halfV A, halfV C] (.bool (widerP A C)) := by
  obtain ⟨res, hres⟩ : ∃ r, widerP A C = r := ⟨_, rfl⟩
  rw [hres]
  unfold widerP at hres
  have hal := hA.1
  have hcl := hs.len
  have ra : (rows3V A).length = A.length := rows3V_len
  have rm : (rows3V C).length = C.length := rows3V_len
  unfold halfV
  refine pB Tryz.func125 rfl (by decide) Tryz.ntmps125 (by simp) Tryz.results125 ?_
  repeat' (first
 |refine aK fun K hK=>?_|refine Step.by1 ?_|refine sE (by decide) ?_|refine cz rfl ?_|refine Fork.by2 (fun h=>?_) fun h=>?_
 |(refine aR ?_;simp [ra, rm])
 |(refine Split.by2 (fun h=>?_) (fun h=>?_)<;>(simp [h, ra, rm]))
 |(apply hK;clear hK K)|refine AWh ‹_› ?_)
  refine aL [1, 11, 12] (fun i : Nat => [(13, .int .i64 i)]) (fun _ => []) (fun i => i ≤ A.length ∧ eqF leQ (A.drop i) (C.drop i) = res) (fun i => A.length - i) 0 ⟨Nat.zero_le _, hres⟩ (by apply Weak.mk' <;> simp) (fun _ _ => rfl) ?_
  clear hres
  rintro i ⟨hi, hk⟩
  by_cases hlt : i < A.length
  · obtain ⟨Q, hQQ⟩ : ∃ Q, A[i] = Q := ⟨_, rfl⟩
    have hlc : i < C.length := by omega
    obtain ⟨R, hRR⟩ : ∃ R, C[i] = R := ⟨_, rfl⟩
    rw [List.drop_eq_getElem_cons hlt, List.drop_eq_getElem_cons hlc, hQQ, hRR, eqF] at hk
    have hlt' : (i : Int) < A.length := by omega
    have hlc' : (i : Int) < C.length := by omega
    have w1 : IntKind.i64.wrap ((i : Int) + 1) = i + 1 := wI (by omega) (by omega)
    have hQ? : A[i]? = some Q := by rw [List.getElem?_eq_getElem hlt, hQQ]
    have hR? : C[i]? = some R := by rw [List.getElem?_eq_getElem hlc, hRR]
    obtain ⟨hqr, hrows⟩ := hs.rows i Q R hQ? hR?
    obtain ⟨hll, hrl⟩ := hA.2 Q (List.mem_of_getElem? hQ?)
    have a2 := rows3V_get hQ?
    have a3 : (rows3V A)[i]'(by omega) = [V.vec (rows2V Q) Q.length] := by rw [List.getElem?_eq_getElem (by omega)] at a2; exact Option.some.inj a2
    have m2 := rows3V_get hR?
    have m3 : (rows3V C)[i]'(by omega) = [V.vec (rows2V R) R.length] := by rw [List.getElem?_eq_getElem (by omega)] at m2; exact Option.some.inj m2
    have rb : (rows2V Q).length = Q.length := rows2V_len
    have rn : (rows2V R).length = R.length := rows2V_len
    generalize hrest : eqF leQ (A.drop (i + 1)) (C.drop (i + 1)) = rest at hk
    unfold leQ at hk
    repeat' (first
 |refine aK fun K hK=>?_|refine Step.by1 ?_|refine sE (by decide) ?_|refine cz rfl ?_|refine Fork.by2 (fun h=>?_) fun h=>?_
 |(refine aR ?_;simp [hlt, hlt', hlc, hlc', a2, a3, m2, m3, ra, rm])
 |(refine Split.by2 (fun h=>?_) (fun h=>?_)<;>(simp [h, hlt, hlt', hlc, hlc', a2, a3, m2, m3, ra, rm]))
 |(apply hK;clear hK K)|refine AWh ‹_› ?_)
    refine aL [1, 5, 11, 12, 13, 18, 19] (fun k : Nat => [(20, .int .i64 k)]) (fun _ => []) (fun k => k ≤ Q.length ∧ (eqF leR (Q.drop k) (R.drop k) && rest) = res) (fun k => Q.length - k) 0 ⟨Nat.zero_le _, hk⟩ (by apply Weak.mk' <;> simp) (fun _ _ => rfl) ?_
    clear hk
    rintro k ⟨hkk, hk⟩
    by_cases hkq : k < Q.length
    · obtain ⟨x, hxx⟩ : ∃ x, Q[k] = x := ⟨_, rfl⟩
      have hkr : k < R.length := by omega
      obtain ⟨y, hyy⟩ : ∃ y, R[k] = y := ⟨_, rfl⟩
      rw [List.drop_eq_getElem_cons hkq, List.drop_eq_getElem_cons hkr, hxx, hyy, eqF] at hk
      have hkq' : (k : Int) < Q.length := by omega
      have hkr' : (k : Int) < R.length := by omega
      have w2 : IntKind.i64.wrap ((k : Int) + 1) = k + 1 := wI (by omega) (by omega)
      have hx? : Q[k]? = some x := by rw [List.getElem?_eq_getElem hkq, hxx]
      have hy? : R[k]? = some y := by rw [List.getElem?_eq_getElem hkr, hyy]
      have hxy := hrows k x y hx? hy?
      have hxl := hrl x (List.mem_of_getElem? hx?)
      have b2 := rows2V_get hx?
      have b3 : (rows2V Q)[k]'(by omega) = [V.vec (ivs x) x.length] := by rw [List.getElem?_eq_getElem (by omega)] at b2; exact Option.some.inj b2
      have n2 := rows2V_get hy?
      have n3 : (rows2V R)[k]'(by omega) = [V.vec (ivs y) y.length] := by rw [List.getElem?_eq_getElem (by omega)] at n2; exact Option.some.inj n2
      have ix : (ivs x).length = x.length := ivs_len
      have iy : (ivs y).length = y.length := ivs_len
      generalize hrest2 : eqF leR (Q.drop (k + 1)) (R.drop (k + 1)) = rest2 at hk
      unfold leR at hk
      repeat' (first
 |refine aK fun K hK=>?_|refine Step.by1 ?_|refine sE (by decide) ?_|refine cz rfl ?_|refine Fork.by2 (fun h=>?_) fun h=>?_
 |(refine aR ?_;simp [hlt, hlt', hlc, hlc', a2, a3, m2, m3, ra, rm, hkq, hkq', hkr, hkr', b2, b3, n2, n3, rb, rn])
 |(refine Split.by2 (fun h=>?_) (fun h=>?_)<;>(simp [h, hlt, hlt', hlc, hlc', a2, a3, m2, m3, ra, rm, hkq, hkq', hkr, hkr', b2, b3, n2, n3, rb, rn]))
 |(apply hK;clear hK K)|refine AWh ‹_› ?_)
      refine aL [1, 5, 7, 11, 12, 13, 18, 19, 20, 25, 26] (fun c : Nat => [(27, .int .i64 c)]) (fun _ => []) (fun c => c ≤ x.length ∧ (eqF leI (x.drop c) (y.drop c) && rest2 && rest) = res) (fun c => x.length - c) 0 ⟨Nat.zero_le _, hk⟩ (by apply Weak.mk' <;> simp) (fun _ _ => rfl) ?_
      clear hk
      rintro c ⟨hcc, hk⟩
      by_cases hcx : c < x.length
      · obtain ⟨u, huu⟩ : ∃ u, x[c] = u := ⟨_, rfl⟩
        have hcy : c < y.length := by omega
        obtain ⟨v, hvv⟩ : ∃ v, y[c] = v := ⟨_, rfl⟩
        rw [List.drop_eq_getElem_cons hcx, List.drop_eq_getElem_cons hcy, huu, hvv, eqF] at hk
        have hcx' : (c : Int) < x.length := by omega
        have hcy' : (c : Int) < y.length := by omega
        have w3 : IntKind.i64.wrap ((c : Int) + 1) = c + 1 := wI (by omega) (by omega)
        have hu? : x[c]? = some u := by rw [List.getElem?_eq_getElem hcx, huu]
        have hv? : y[c]? = some v := by rw [List.getElem?_eq_getElem hcy, hvv]
        have c2 := ivs_get hu?
        have c3 : (ivs x)[c]'(by omega) = [V.int .i64 u] := by rw [List.getElem?_eq_getElem (by omega)] at c2; exact Option.some.inj c2
        have o2 := ivs_get hv?
        have o3 : (ivs y)[c]'(by omega) = [V.int .i64 v] := by rw [List.getElem?_eq_getElem (by omega)] at o2; exact Option.some.inj o2
        unfold leI at hk
        by_cases huv : v < u
        · rw [decide_eq_false (show ¬ u ≤ v by omega)] at hk
          have hk : false = res := by simpa using hk
          repeat' (first
 |refine aK fun K hK=>?_|refine Step.by1 ?_|refine sE (by decide) ?_|refine cz rfl ?_|refine Fork.by2 (fun h=>?_) fun h=>?_
 |(refine aR ?_;simp [hlt, hlt', hlc, hlc', a2, a3, m2, m3, ra, rm, hkq, hkq', hkr, hkr', b2, b3, n2, n3, rb, rn, hcx, hcx', hcy, hcy', c2, c3, o2, o3, ix, iy, huv])
 |(refine Split.by2 (fun h=>?_) (fun h=>?_)<;>(simp [h, hlt, hlt', hlc, hlc', a2, a3, m2, m3, ra, rm, hkq, hkq', hkr, hkr', b2, b3, n2, n3, rb, rn, hcx, hcx', hcy, hcy', c2, c3, o2, o3, ix, iy, huv]))
 |(apply hK;clear hK K)|refine AWh ‹_› ?_)
          exact r1q (cE (by simp [← hk]) rfl)
        · rw [decide_eq_true (show u ≤ v by omega), Bool.true_and] at hk
          repeat' (first
 |refine aK fun K hK=>?_|refine Step.by1 ?_|refine sE (by decide) ?_|refine cz rfl ?_|refine Fork.by2 (fun h=>?_) fun h=>?_
 |(refine aR ?_;simp [hlt, hlt', hlc, hlc', a2, a3, m2, m3, ra, rm, hkq, hkq', hkr, hkr', b2, b3, n2, n3, rb, rn, hcx, hcx', hcy, hcy', c2, c3, o2, o3, ix, iy, huv, w3])
 |(refine Split.by2 (fun h=>?_) (fun h=>?_)<;>(simp [h, hlt, hlt', hlc, hlc', a2, a3, m2, m3, ra, rm, hkq, hkq', hkr, hkr', b2, b3, n2, n3, rb, rn, hcx, hcx', hcy, hcy', c2, c3, o2, o3, ix, iy, huv, w3]))
 |(apply hK;clear hK K)|refine AWh ‹_› ?_)
          refine ⟨c + 1, ⟨by omega, hk⟩, by omega, ?_⟩
          apply Weak.mk' <;> simp
      · obtain rfl : c = x.length := by omega
        rw [List.drop_length, hxy, List.drop_length, eqF, Bool.true_and] at hk
        subst hrest2
        repeat' (first
 |refine aK fun K hK=>?_|refine Step.by1 ?_|refine sE (by decide) ?_|refine cz rfl ?_|refine Fork.by2 (fun h=>?_) fun h=>?_
 |(refine aR ?_;simp [hlt, hlt', hlc, hlc', a2, a3, m2, m3, ra, rm, hkq, hkq', hkr, hkr', b2, b3, n2, n3, rb, rn, w2])
 |(refine Split.by2 (fun h=>?_) (fun h=>?_)<;>(simp [h, hlt, hlt', hlc, hlc', a2, a3, m2, m3, ra, rm, hkq, hkq', hkr, hkr', b2, b3, n2, n3, rb, rn, w2]))
 |(apply hK;clear hK K)|refine AWh ‹_› ?_)
        refine ⟨k + 1, ⟨by omega, hk⟩, by omega, ?_⟩
        apply Weak.mk' <;> simp
    · obtain rfl : k = Q.length := by omega
      rw [List.drop_length, hqr, List.drop_length, eqF, Bool.true_and] at hk
      subst hrest
      repeat' (first
 |refine aK fun K hK=>?_|refine Step.by1 ?_|refine sE (by decide) ?_|refine cz rfl ?_|refine Fork.by2 (fun h=>?_) fun h=>?_
 |(refine aR ?_;simp [hlt, hlt', hlc, hlc', a2, a3, m2, m3, ra, rm, rb, rn, w1])
 |(refine Split.by2 (fun h=>?_) (fun h=>?_)<;>(simp [h, hlt, hlt', hlc, hlc', a2, a3, m2, m3, ra, rm, rb, rn, w1]))
 |(apply hK;clear hK K)|refine AWh ‹_› ?_)
      refine ⟨i + 1, ⟨by omega, hk⟩, by omega, ?_⟩
      apply Weak.mk' <;> simp
  · obtain rfl : i = A.length := by omega
    rw [List.drop_length, hcl, List.drop_length, eqF] at hk
    repeat' (first
 |refine aK fun K hK=>?_|refine Step.by1 ?_|refine sE (by decide) ?_|refine cz rfl ?_|refine Fork.by2 (fun h=>?_) fun h=>?_
 |(refine aR ?_;simp)
 |(refine Split.by2 (fun h=>?_) (fun h=>?_)<;>(simp [h]))
 |(apply hK;clear hK K)|refine AWh ‹_› ?_)
    exact r1q (cE (by simp [← hk]) rfl)
set_option maxRecDepth 20000 in
set_option maxHeartbeats 16000000 in
theorem r_widerP (A C : List (List (List Int))) (hA : planOk A) (hs : Shp A C) : PC 126 [halfV A, halfV C] (.bool (widerP A C)) := by
  obtain ⟨res, hres⟩ : ∃ r, widerP A C = r := ⟨_, rfl⟩
  rw [hres]
  unfold widerP at hres
  have hal := hA.1
  have hcl := hs.len
  have ra : (rows3V A).length = A.length := rows3V_len
  have rm : (rows3V C).length = C.length := rows3V_len
  unfold halfV
  refine pB Tryz.func126 rfl (by decide) Tryz.ntmps126 (by simp) Tryz.results126 ?_
  repeat' (first
 |refine aK fun K hK=>?_|refine Step.by1 ?_|refine sE (by decide) ?_|refine cz rfl ?_|refine Fork.by2 (fun h=>?_) fun h=>?_
 |(refine aR ?_;simp [ra, rm])
 |(refine Split.by2 (fun h=>?_) (fun h=>?_)<;>(simp [h, ra, rm]))
 |(apply hK;clear hK K)|refine AWh ‹_› ?_)
  refine aL [0, 1] (fun i : Nat => [(5, .int .i64 i)]) (fun _ => []) (fun i => i ≤ A.length ∧ eqF leQ (A.drop i) (C.drop i) = res) (fun i => A.length - i) 0 ⟨Nat.zero_le _, hres⟩ (by apply Weak.mk' <;> simp) (fun _ _ => rfl) ?_
  clear hres
  rintro i ⟨hi, hk⟩
  by_cases hlt : i < A.length
  · obtain ⟨Q, hQQ⟩ : ∃ Q, A[i] = Q := ⟨_, rfl⟩
    have hlc : i < C.length := by omega
    obtain ⟨R, hRR⟩ : ∃ R, C[i] = R := ⟨_, rfl⟩
    rw [List.drop_eq_getElem_cons hlt, List.drop_eq_getElem_cons hlc, hQQ, hRR, eqF] at hk
    have hlt' : (i : Int) < A.length := by omega
    have hlc' : (i : Int) < C.length := by omega
    have w1 : IntKind.i64.wrap ((i : Int) + 1) = i + 1 := wI (by omega) (by omega)
    have hQ? : A[i]? = some Q := by rw [List.getElem?_eq_getElem hlt, hQQ]
    have hR? : C[i]? = some R := by rw [List.getElem?_eq_getElem hlc, hRR]
    obtain ⟨hqr, hrows⟩ := hs.rows i Q R hQ? hR?
    obtain ⟨hll, hrl⟩ := hA.2 Q (List.mem_of_getElem? hQ?)
    have a2 := rows3V_get hQ?
    have a3 : (rows3V A)[i]'(by omega) = [V.vec (rows2V Q) Q.length] := by rw [List.getElem?_eq_getElem (by omega)] at a2; exact Option.some.inj a2
    have m2 := rows3V_get hR?
    have m3 : (rows3V C)[i]'(by omega) = [V.vec (rows2V R) R.length] := by rw [List.getElem?_eq_getElem (by omega)] at m2; exact Option.some.inj m2
    have rb : (rows2V Q).length = Q.length := rows2V_len
    have rn : (rows2V R).length = R.length := rows2V_len
    generalize hrest : eqF leQ (A.drop (i + 1)) (C.drop (i + 1)) = rest at hk
    unfold leQ at hk
    repeat' (first
 |refine aK fun K hK=>?_|refine Step.by1 ?_|refine sE (by decide) ?_|refine cz rfl ?_|refine Fork.by2 (fun h=>?_) fun h=>?_
 |(refine aR ?_;simp [hlt, hlt', hlc, hlc', a2, a3, m2, m3, ra, rm])
 |(refine Split.by2 (fun h=>?_) (fun h=>?_)<;>(simp [h, hlt, hlt', hlc, hlc', a2, a3, m2, m3, ra, rm]))
 |(apply hK;clear hK K)|refine AWh ‹_› ?_)
    refine aL [0, 1, 5] (fun k : Nat => [(6, .int .i64 k)]) (fun _ => []) (fun k => k ≤ Q.length ∧ (eqF leR (Q.drop k) (R.drop k) && rest) = res) (fun k => Q.length - k) 0 ⟨Nat.zero_le _, hk⟩ (by apply Weak.mk' <;> simp) (fun _ _ => rfl) ?_
    clear hk
    rintro k ⟨hkk, hk⟩
    by_cases hkq : k < Q.length
    · obtain ⟨x, hxx⟩ : ∃ x, Q[k] = x := ⟨_, rfl⟩
      have hkr : k < R.length := by omega
      obtain ⟨y, hyy⟩ : ∃ y, R[k] = y := ⟨_, rfl⟩
      rw [List.drop_eq_getElem_cons hkq, List.drop_eq_getElem_cons hkr, hxx, hyy, eqF] at hk
      have hkq' : (k : Int) < Q.length := by omega
      have hkr' : (k : Int) < R.length := by omega
      have w2 : IntKind.i64.wrap ((k : Int) + 1) = k + 1 := wI (by omega) (by omega)
      have hx? : Q[k]? = some x := by rw [List.getElem?_eq_getElem hkq, hxx]
      have hy? : R[k]? = some y := by rw [List.getElem?_eq_getElem hkr, hyy]
      have hxy := hrows k x y hx? hy?
      have hxl := hrl x (List.mem_of_getElem? hx?)
      have b2 := rows2V_get hx?
      have b3 : (rows2V Q)[k]'(by omega) = [V.vec (ivs x) x.length] := by rw [List.getElem?_eq_getElem (by omega)] at b2; exact Option.some.inj b2
      have n2 := rows2V_get hy?
      have n3 : (rows2V R)[k]'(by omega) = [V.vec (ivs y) y.length] := by rw [List.getElem?_eq_getElem (by omega)] at n2; exact Option.some.inj n2
      have ix : (ivs x).length = x.length := ivs_len
      have iy : (ivs y).length = y.length := ivs_len
      generalize hrest2 : eqF leR (Q.drop (k + 1)) (R.drop (k + 1)) = rest2 at hk
      unfold leR at hk
      repeat' (first
 |refine aK fun K hK=>?_|refine Step.by1 ?_|refine sE (by decide) ?_|refine cz rfl ?_|refine Fork.by2 (fun h=>?_) fun h=>?_
 |(refine aR ?_;simp [hlt, hlt', hlc, hlc', a2, a3, m2, m3, ra, rm, hkq, hkq', hkr, hkr', b2, b3, n2, n3, rb, rn])
 |(refine Split.by2 (fun h=>?_) (fun h=>?_)<;>(simp [h, hlt, hlt', hlc, hlc', a2, a3, m2, m3, ra, rm, hkq, hkq', hkr, hkr', b2, b3, n2, n3, rb, rn]))
 |(apply hK;clear hK K)|refine AWh ‹_› ?_)
      refine aL [0, 1, 5, 6] (fun c : Nat => [(7, .int .i64 c)]) (fun _ => []) (fun c => c ≤ x.length ∧ (eqF leI (x.drop c) (y.drop c) && rest2 && rest) = res) (fun c => x.length - c) 0 ⟨Nat.zero_le _, hk⟩ (by apply Weak.mk' <;> simp) (fun _ _ => rfl) ?_
      clear hk
      rintro c ⟨hcc, hk⟩
      by_cases hcx : c < x.length
      · obtain ⟨u, huu⟩ : ∃ u, x[c] = u := ⟨_, rfl⟩
        have hcy : c < y.length := by omega
        obtain ⟨v, hvv⟩ : ∃ v, y[c] = v := ⟨_, rfl⟩
        rw [List.drop_eq_getElem_cons hcx, List.drop_eq_getElem_cons hcy, huu, hvv, eqF] at hk
        have hcx' : (c : Int) < x.length := by omega
        have hcy' : (c : Int) < y.length := by omega
        have w3 : IntKind.i64.wrap ((c : Int) + 1) = c + 1 := wI (by omega) (by omega)
        have hu? : x[c]? = some u := by rw [List.getElem?_eq_getElem hcx, huu]
        have hv? : y[c]? = some v := by rw [List.getElem?_eq_getElem hcy, hvv]
        have c2 := ivs_get hu?
        have c3 : (ivs x)[c]'(by omega) = [V.int .i64 u] := by rw [List.getElem?_eq_getElem (by omega)] at c2; exact Option.some.inj c2
        have o2 := ivs_get hv?
        have o3 : (ivs y)[c]'(by omega) = [V.int .i64 v] := by rw [List.getElem?_eq_getElem (by omega)] at o2; exact Option.some.inj o2
        unfold leI at hk
        by_cases huv : v < u
        · rw [decide_eq_false (show ¬ u ≤ v by omega)] at hk
          have hk : false = res := by simpa using hk
          repeat' (first
 |refine aK fun K hK=>?_|refine Step.by1 ?_|refine sE (by decide) ?_|refine cz rfl ?_|refine Fork.by2 (fun h=>?_) fun h=>?_
 |((first|refine aR ?_|refine aX (id:=10) 21 mixed (by decide) ?_);simp [hlt, hlt', hlc, hlc', a2, a3, m2, m3, ra, rm, hkq, hkq', hkr, hkr', b2, b3, n2, n3, rb, rn, hcx, hcx', hcy, hcy', c2, c3, o2, o3, ix, iy, huv])
 |(refine Split.by2 (fun h=>?_) (fun h=>?_)<;>(simp [h, hlt, hlt', hlc, hlc', a2, a3, m2, m3, ra, rm, hkq, hkq', hkr, hkr', b2, b3, n2, n3, rb, rn, hcx, hcx', hcy, hcy', c2, c3, o2, o3, ix, iy, huv]))
 |(apply hK;clear hK K)|refine AWh ‹_› ?_)
          exact r1q (cE (by simp [← hk]) rfl)
        · rw [decide_eq_true (show u ≤ v by omega), Bool.true_and] at hk
          repeat' (first
 |refine aK fun K hK=>?_|refine Step.by1 ?_|refine sE (by decide) ?_|refine cz rfl ?_|refine Fork.by2 (fun h=>?_) fun h=>?_
 |((first|refine aR ?_|refine aX (id:=10) 21 mixed (by decide) ?_);simp [hlt, hlt', hlc, hlc', a2, a3, m2, m3, ra, rm, hkq, hkq', hkr, hkr', b2, b3, n2, n3, rb, rn, hcx, hcx', hcy, hcy', c2, c3, o2, o3, ix, iy, huv, w3])
 |(refine Split.by2 (fun h=>?_) (fun h=>?_)<;>(simp [h, hlt, hlt', hlc, hlc', a2, a3, m2, m3, ra, rm, hkq, hkq', hkr, hkr', b2, b3, n2, n3, rb, rn, hcx, hcx', hcy, hcy', c2, c3, o2, o3, ix, iy, huv, w3]))
 |(apply hK;clear hK K)|refine AWh ‹_› ?_)
          refine ⟨c + 1, ⟨by omega, hk⟩, by omega, ?_⟩
          apply Weak.mk' <;> simp
      · obtain rfl : c = x.length := by omega
        rw [List.drop_length, hxy, List.drop_length, eqF, Bool.true_and] at hk
        subst hrest2
        repeat' (first
 |refine aK fun K hK=>?_|refine Step.by1 ?_|refine sE (by decide) ?_|refine cz rfl ?_|refine Fork.by2 (fun h=>?_) fun h=>?_
 |(refine aR ?_;simp [hlt, hlt', hlc, hlc', a2, a3, m2, m3, ra, rm, hkq, hkq', hkr, hkr', b2, b3, n2, n3, rb, rn, w2])
 |(refine Split.by2 (fun h=>?_) (fun h=>?_)<;>(simp [h, hlt, hlt', hlc, hlc', a2, a3, m2, m3, ra, rm, hkq, hkq', hkr, hkr', b2, b3, n2, n3, rb, rn, w2]))
 |(apply hK;clear hK K)|refine AWh ‹_› ?_)
        refine ⟨k + 1, ⟨by omega, hk⟩, by omega, ?_⟩
        apply Weak.mk' <;> simp
    · obtain rfl : k = Q.length := by omega
      rw [List.drop_length, hqr, List.drop_length, eqF, Bool.true_and] at hk
      subst hrest
      repeat' (first
 |refine aK fun K hK=>?_|refine Step.by1 ?_|refine sE (by decide) ?_|refine cz rfl ?_|refine Fork.by2 (fun h=>?_) fun h=>?_
 |(refine aR ?_;simp [hlt, hlt', hlc, hlc', a2, a3, m2, m3, ra, rm, rb, rn, w1])
 |(refine Split.by2 (fun h=>?_) (fun h=>?_)<;>(simp [h, hlt, hlt', hlc, hlc', a2, a3, m2, m3, ra, rm, rb, rn, w1]))
 |(apply hK;clear hK K)|refine AWh ‹_› ?_)
      refine ⟨i + 1, ⟨by omega, hk⟩, by omega, ?_⟩
      apply Weak.mk' <;> simp
  · obtain rfl : i = A.length := by omega
    rw [List.drop_length, hcl, List.drop_length, eqF] at hk
    repeat' (first
 |refine aK fun K hK=>?_|refine Step.by1 ?_|refine sE (by decide) ?_|refine cz rfl ?_|refine Fork.by2 (fun h=>?_) fun h=>?_
 |(refine aR ?_;simp)
 |(refine Split.by2 (fun h=>?_) (fun h=>?_)<;>(simp [h]))
 |(apply hK;clear hK K)|refine AWh ‹_› ?_)
    exact r1q (cE (by simp [← hk]) rfl)
end Go.Proofs.YtgmlimipejcpgaaGreatDoor
end
