/-
  YtbgooadmonnjaaaGreatDoorRc19: steps of the proof of a law of the program: what these texts prove holds under the hypotheses that their theorems name, and no others.
-/
import Derived.Test.YtbgooadmonnjaaaGreatDoorRc18
import Derived.Test.YtbgooadmonnjaaaGreatDoorRc10
import Derived.Test.YtbgooadmonnjaaaGreatDoorRc17
import Derived.Test.YtbgooadmonnjaaaGreatDoorRc16
import Derived.Test.YtbgooadmonnjaaaGreatDoorRc11
import Derived.Test.YtbgooadmonnjaaaGreatDoorRc13
section
set_option linter.unusedVariables false
set_option linter.unusedSimpArgs false
namespace Go.AM
theorem info_sz {P : Program} {t : TypeId} (h : szOf P t = 1) : (P.info? t).map (·.size) = some 1 := by
  unfold szOf at h
  cases hx : (P.info? t).map (·.size) with
  | none => rw [hx] at h; simp at h
  | some k => rw [hx] at h; simp at h; rw [h]
section
variable {P : Program} {ge : GEnv} {ops : Array Oper} {A : List Nat} {Stab : List Go.AM.B → Prop} {Q : Exit → St → Prop}
variable {k m i : Nat} {done : List Nat} {T : St}
theorem ChS_gen {o : Oper} {v : V} {h' : List Go.AM.B} (ho : ops.toList[i]? = some o) (hg : o.guard = none) (hd : dstOk T.n o.dst = true)
    (hop : ∀ S : St, S.n = T.n → S.h = T.h → (∀ x ∈ o.op.operands, ev ge S.tm x = ev ge T.tm x) → OpS P ge S o v h') (hs : Stab h')
    (h : Ch P ge ops A Stab k Q m (i :: done) ⟨T.n, putD o.dst v T.tm, h'⟩) : ChS P ge ops A Stab k Q m done T i := by
  unfold ChS
  rw [ho]
  refine ⟨hd, fun S hn hh hl => ?_⟩
  exact AS_op hg (by rw [hn]; exact hd) (hop S hn hh (ev_congr (ops := ops) (ge := ge) (st := T) (st' := S) hl)) (AS_nil ⟨rfl, v, rfl, fun _ => rfl, hs, h⟩)
end
end Go.AM
end
section
set_option linter.unusedSimpArgs false
set_option linter.unusedVariables false
namespace Go.Proofs.YtbgooadmonnjaaaGreatDoor
open Go Go.AM Fx



end Go.Proofs.YtbgooadmonnjaaaGreatDoor
end
section
set_option linter.unusedSimpArgs false
set_option linter.unusedVariables false
namespace Go.AM

end Go.AM
end
section
set_option linter.unusedSimpArgs false
set_option linter.unusedVariables false
namespace Go.Proofs.YtbgooadmonnjaaaGreatDoor
open Go Go.AM Fx











def eqF {α β : Type} (p : α → β → Bool) : List α → List β → Bool
  | [], [] => true
  | x :: r, y :: s => p x y && eqF p r s
  | _, _ => false
theorem eqF_ne {α β : Type} {p : α → β → Bool} : ∀ {l : List α} {m : List β}, ¬ l.length = m.length → eqF p l m = false
  | [], [], h => absurd rfl h
  | [], _ :: _, _ => rfl
  | _ :: _, [], _ => rfl
  | x :: r, y :: s, h => by rw [eqF, eqF_ne (fun e => h (by simp [e])), Bool.and_false]
theorem c_netRight (n : NetD) (hn : n.ok) : PC 137 [.agg n.cells] (.bool (decide (wholeE n = 0))) := by
  have hc := c_Whole n hn
  generalize wholeE n = e at *
  simp only [NetD.cells, vl] at hc
  refine pB Tryz.func137 rfl (by decide) Tryz.ntmps137 (by simp) Tryz.results137 ?_
  repeat' (first
 |refine aK fun K hK=>?_|refine Step.by1 ?_|refine sE (by decide) ?_|refine cz rfl ?_|refine Fork.by2 (fun h=>?_) fun h=>?_
 |((first|refine aR ?_|refine aC (f:=176) rfl rfl (hc) rfl rfl rfl ?_);simp [NetD.cells, vl])
 |(refine Split.by2 (fun h=>?_) (fun h=>?_)<;>(simp [h, NetD.cells, vl]))
 |(apply hK;clear hK K)|refine AWh ‹_› ?_)
  exact r1q (cE rfl rfl)
theorem ivs_get {r : List Int} {c : Nat} {m : Int} (h : r[c]? = some m) : (ivs r)[c]? = some [V.int .i64 m] := by simp [ivs, h]
theorem ivs_len {r : List Int} : (ivs r).length = r.length := by simp [ivs]
structure StateD where
  locs : List Int
  vars : List Int
def StateD.ok (s : StateD) : Prop := s.locs.length ≤ 1048576 ∧ s.vars.length ≤ 1048576
def StateD.cells (s : StateD) : List V := [.vec (ivs s.locs) s.locs.length, .vec (ivs s.vars) s.vars.length]
@[simp] theorem StateD.cells_len (x : StateD) : x.cells.length = 2 := rfl
def atLB (a : AutoD) (i : Int) : Bool := decide (0 ≤ i) && decide (i < a.locs.length)
def hasB (v : VarD) (x : Int) : Bool := decide (v.lo ≤ x) && decide (x ≤ v.hi)
def stB (n : NetD) (s : StateD) : Bool := eqF atLB n.autos s.locs && eqF hasB n.vars s.vars
def rightSE (n : NetD) (s : StateD) : Bool := decide (wholeE n = 0) && stB n s
theorem c_stAt (a : AutoD) (i : Int) : PC 236 [.agg a.cells, .int .i64 i] (.bool (atLB a i)) := by
  unfold atLB
  refine pB Tryz.func236 rfl (by decide) Tryz.ntmps236 (by simp) Tryz.results236 ?_
  by_cases h : 0 ≤ i
  · by_cases h2 : i < a.locs.length
    · repeat' (first
 |refine aK fun K hK=>?_|refine Step.by1 ?_|refine sE (by decide) ?_|refine cz rfl ?_|refine Fork.by2 (fun h=>?_) fun h=>?_
 |(refine aR ?_;simp [AutoD.cells, vl, h, h2])
 |(refine Split.by2 (fun h=>?_) (fun h=>?_)<;>(simp [h, AutoD.cells, vl, h, h2]))
 |(apply hK;clear hK K)|refine AWh ‹_› ?_)
      exact r1q (cE (by simp [h, h2]) rfl)
    · repeat' (first
 |refine aK fun K hK=>?_|refine Step.by1 ?_|refine sE (by decide) ?_|refine cz rfl ?_|refine Fork.by2 (fun h=>?_) fun h=>?_
 |(refine aR ?_;simp [AutoD.cells, vl, h, h2])
 |(refine Split.by2 (fun h=>?_) (fun h=>?_)<;>(simp [h, AutoD.cells, vl, h, h2]))
 |(apply hK;clear hK K)|refine AWh ‹_› ?_)
      exact r1q (cE (by simp [h, h2]) rfl)
  · repeat' (first
 |refine aK fun K hK=>?_|refine Step.by1 ?_|refine sE (by decide) ?_|refine cz rfl ?_|refine Fork.by2 (fun h=>?_) fun h=>?_
 |(refine aR ?_;simp [AutoD.cells, vl, h])
 |(refine Split.by2 (fun h=>?_) (fun h=>?_)<;>(simp [h, AutoD.cells, vl, h]))
 |(apply hK;clear hK K)|refine AWh ‹_› ?_)
    exact r1q (cE (by simp [h]) rfl)
theorem c_stHas (v : VarD) (x : Int) : PC 237 [.agg v.cells, .int .i64 x] (.bool (hasB v x)) := by
  unfold hasB
  refine pB Tryz.func237 rfl (by decide) Tryz.ntmps237 (by simp) Tryz.results237 ?_
  by_cases h : v.lo ≤ x
  · by_cases h2 : x ≤ v.hi
    · repeat' (first
 |refine aK fun K hK=>?_|refine Step.by1 ?_|refine sE (by decide) ?_|refine cz rfl ?_|refine Fork.by2 (fun h=>?_) fun h=>?_
 |(refine aR ?_;simp [VarD.cells, h, h2])
 |(refine Split.by2 (fun h=>?_) (fun h=>?_)<;>(simp [h, VarD.cells, h, h2]))
 |(apply hK;clear hK K)|refine AWh ‹_› ?_)
      exact r1q (cE (by simp [h, h2]) rfl)
    · repeat' (first
 |refine aK fun K hK=>?_|refine Step.by1 ?_|refine sE (by decide) ?_|refine cz rfl ?_|refine Fork.by2 (fun h=>?_) fun h=>?_
 |(refine aR ?_;simp [VarD.cells, h, h2])
 |(refine Split.by2 (fun h=>?_) (fun h=>?_)<;>(simp [h, VarD.cells, h, h2]))
 |(apply hK;clear hK K)|refine AWh ‹_› ?_)
      exact r1q (cE (by simp [h, h2]) rfl)
  · repeat' (first
 |refine aK fun K hK=>?_|refine Step.by1 ?_|refine sE (by decide) ?_|refine cz rfl ?_|refine Fork.by2 (fun h=>?_) fun h=>?_
 |(refine aR ?_;simp [VarD.cells, h])
 |(refine Split.by2 (fun h=>?_) (fun h=>?_)<;>(simp [h, VarD.cells, h]))
 |(apply hK;clear hK K)|refine AWh ‹_› ?_)
    exact r1q (cE (by simp [h]) rfl)
set_option maxHeartbeats 8000000 in
theorem c_besideA (f : Nat) (p : AutoD → Int → Bool) (hf : ∀ a i, PC f [.agg a.cells, .int .i64 i] (.bool (p a i))) (l : List AutoD) (m : List Int) (hll : l.length ≤ 1048576) :
    PC 127 [vl AutoD.cells l, .vec (ivs m) m.length, .fn (.func f) [] []] (.bool (eqF p l m)) := by
  have hrl : (ivs m).length = m.length := ivs_len
  by_cases hlen : l.length = m.length
  · have hlen' : (l.length : Int) = m.length := by omega
    refine pB Tryz.func127 rfl (by decide) Tryz.ntmps127 (by simp) Tryz.results127 ?_
    repeat' (first
 |refine aK fun K hK=>?_|refine Step.by1 ?_|refine sE (by decide) ?_|refine cz rfl ?_|refine Fork.by2 (fun h=>?_) fun h=>?_
 |(refine aR ?_;simp [vl, hlen, hlen'])
 |(refine Split.by2 (fun h=>?_) (fun h=>?_)<;>(simp [h, vl, hlen, hlen']))
 |(apply hK;clear hK K)|refine AWh ‹_› ?_)
    refine aL [1, 2, 14, 15] (fun i : Nat => [(16, .int .i64 i)]) (fun _ => []) (fun i => i ≤ l.length ∧ eqF p (l.drop i) (m.drop i) = eqF p l m) (fun i => l.length - i) 0 ⟨Nat.zero_le _, rfl⟩ (by apply Weak.mk' <;> simp [hlen]) (fun _ _ => rfl) ?_
    rintro i ⟨hi, hk⟩
    by_cases hlt : i < l.length
    · obtain ⟨a, haa⟩ : ∃ a, l[i] = a := ⟨_, rfl⟩
      have hlm : i < m.length := by omega
      obtain ⟨r, hrr⟩ : ∃ r, m[i] = r := ⟨_, rfl⟩
      rw [List.drop_eq_getElem_cons hlt, List.drop_eq_getElem_cons hlm, haa, hrr, eqF] at hk
      have hlt' : (i : Int) < l.length := by omega
      have hlm' : (i : Int) < m.length := by omega
      have w1 : IntKind.i64.wrap ((i : Int) + 1) = i + 1 := wI (by omega) (by omega)
      have c2 := ivs_get (r := m) (c := i) (by rw [List.getElem?_eq_getElem hlm, hrr])
      have c3 : (ivs m)[i]'(by omega) = [V.int .i64 r] := by rw [List.getElem?_eq_getElem (by omega)] at c2; exact Option.some.inj c2
      have hc := hf a r
      simp only [AutoD.cells, vl] at hc
      generalize p a r = q at *
      cases q
      · rw [Bool.false_and] at hk
        repeat' (first
 |refine aK fun K hK=>?_|refine Step.by1 ?_|refine sE (by decide) ?_|refine cz rfl ?_|refine Fork.by2 (fun h=>?_) fun h=>?_
 |((first|refine aR ?_|refine aX (id:=6) 7 mixed (by decide) ?_);simp [vl, AutoD.cells, hlt, hlt', hlm, hlm', haa, c2, c3, w1, hrl, hlen])
 |(refine Split.by2 (fun h=>?_) (fun h=>?_)<;>(simp [h, vl, AutoD.cells, hlt, hlt', hlm, hlm', haa, c2, c3, w1, hrl, hlen]))
 |(refine aP1 (f := f) rfl rfl hc rfl rfl rfl ?_; simp)
 |(apply hK;clear hK K)|refine AWh ‹_› ?_)
        exact r1q (cE (by simp [← hk]) rfl)
      · rw [Bool.true_and] at hk
        repeat' (first
 |refine aK fun K hK=>?_|refine Step.by1 ?_|refine sE (by decide) ?_|refine cz rfl ?_|refine Fork.by2 (fun h=>?_) fun h=>?_
 |((first|refine aR ?_|refine aX (id:=6) 7 mixed (by decide) ?_);simp [vl, AutoD.cells, hlt, hlt', hlm, hlm', haa, c2, c3, w1, hrl, hlen])
 |(refine Split.by2 (fun h=>?_) (fun h=>?_)<;>(simp [h, vl, AutoD.cells, hlt, hlt', hlm, hlm', haa, c2, c3, w1, hrl, hlen]))
 |(refine aP1 (f := f) rfl rfl hc rfl rfl rfl ?_; simp)
 |(apply hK;clear hK K)|refine AWh ‹_› ?_)
        refine ⟨i + 1, ⟨by omega, hk⟩, by omega, ?_⟩
        apply Weak.mk' <;> simp [AutoD.cells, vl, hlen]
    · obtain rfl : i = l.length := by omega
      rw [List.drop_length, hlen, List.drop_length, eqF] at hk
      repeat' (first
 |refine aK fun K hK=>?_|refine Step.by1 ?_|refine sE (by decide) ?_|refine cz rfl ?_|refine Fork.by2 (fun h=>?_) fun h=>?_
 |(refine aR ?_;simp [vl, hlen])
 |(refine Split.by2 (fun h=>?_) (fun h=>?_)<;>(simp [h, vl, hlen]))
 |(apply hK;clear hK K)|refine AWh ‹_› ?_)
      exact r1q (cE (by simp [← hk]) rfl)
  · have hlen' : ¬ (l.length : Int) = m.length := by omega
    rw [eqF_ne hlen]
    refine pB Tryz.func127 rfl (by decide) Tryz.ntmps127 (by simp) Tryz.results127 ?_
    repeat' (first
 |refine aK fun K hK=>?_|refine Step.by1 ?_|refine sE (by decide) ?_|refine cz rfl ?_|refine Fork.by2 (fun h=>?_) fun h=>?_
 |(refine aR ?_;simp [vl, hlen, hlen'])
 |(refine Split.by2 (fun h=>?_) (fun h=>?_)<;>(simp [h, vl, hlen, hlen']))
 |(apply hK;clear hK K)|refine AWh ‹_› ?_)
    exact r1q (cE rfl rfl)
set_option maxHeartbeats 8000000 in
theorem c_besideV (f : Nat) (p : VarD → Int → Bool) (hf : ∀ a i, PC f [.agg a.cells, .int .i64 i] (.bool (p a i))) (l : List VarD) (m : List Int) (hll : l.length ≤ 1048576) :
    PC 238 [vl VarD.cells l, .vec (ivs m) m.length, .fn (.func f) [] []] (.bool (eqF p l m)) := by
  have hrl : (ivs m).length = m.length := ivs_len
  by_cases hlen : l.length = m.length
  · have hlen' : (l.length : Int) = m.length := by omega
    refine pB Tryz.func238 rfl (by decide) Tryz.ntmps238 (by simp) Tryz.results238 ?_
    repeat' (first
 |refine aK fun K hK=>?_|refine Step.by1 ?_|refine sE (by decide) ?_|refine cz rfl ?_|refine Fork.by2 (fun h=>?_) fun h=>?_
 |(refine aR ?_;simp [vl, hlen, hlen'])
 |(refine Split.by2 (fun h=>?_) (fun h=>?_)<;>(simp [h, vl, hlen, hlen']))
 |(apply hK;clear hK K)|refine AWh ‹_› ?_)
    refine aL [1, 2, 14, 15] (fun i : Nat => [(16, .int .i64 i)]) (fun _ => []) (fun i => i ≤ l.length ∧ eqF p (l.drop i) (m.drop i) = eqF p l m) (fun i => l.length - i) 0 ⟨Nat.zero_le _, rfl⟩ (by apply Weak.mk' <;> simp [hlen]) (fun _ _ => rfl) ?_
    rintro i ⟨hi, hk⟩
    by_cases hlt : i < l.length
    · obtain ⟨a, haa⟩ : ∃ a, l[i] = a := ⟨_, rfl⟩
      have hlm : i < m.length := by omega
      obtain ⟨r, hrr⟩ : ∃ r, m[i] = r := ⟨_, rfl⟩
      rw [List.drop_eq_getElem_cons hlt, List.drop_eq_getElem_cons hlm, haa, hrr, eqF] at hk
      have hlt' : (i : Int) < l.length := by omega
      have hlm' : (i : Int) < m.length := by omega
      have w1 : IntKind.i64.wrap ((i : Int) + 1) = i + 1 := wI (by omega) (by omega)
      have c2 := ivs_get (r := m) (c := i) (by rw [List.getElem?_eq_getElem hlm, hrr])
      have c3 : (ivs m)[i]'(by omega) = [V.int .i64 r] := by rw [List.getElem?_eq_getElem (by omega)] at c2; exact Option.some.inj c2
      have hc := hf a r
      simp only [VarD.cells, vl] at hc
      generalize p a r = q at *
      cases q
      · rw [Bool.false_and] at hk
        repeat' (first
 |refine aK fun K hK=>?_|refine Step.by1 ?_|refine sE (by decide) ?_|refine cz rfl ?_|refine Fork.by2 (fun h=>?_) fun h=>?_
 |((first|refine aR ?_|refine aX (id:=6) 7 mixed (by decide) ?_);simp [vl, VarD.cells, hlt, hlt', hlm, hlm', haa, c2, c3, w1, hrl, hlen])
 |(refine Split.by2 (fun h=>?_) (fun h=>?_)<;>(simp [h, vl, VarD.cells, hlt, hlt', hlm, hlm', haa, c2, c3, w1, hrl, hlen]))
 |(refine aP1 (f := f) rfl rfl hc rfl rfl rfl ?_; simp)
 |(apply hK;clear hK K)|refine AWh ‹_› ?_)
        exact r1q (cE (by simp [← hk]) rfl)
      · rw [Bool.true_and] at hk
        repeat' (first
 |refine aK fun K hK=>?_|refine Step.by1 ?_|refine sE (by decide) ?_|refine cz rfl ?_|refine Fork.by2 (fun h=>?_) fun h=>?_
 |((first|refine aR ?_|refine aX (id:=6) 7 mixed (by decide) ?_);simp [vl, VarD.cells, hlt, hlt', hlm, hlm', haa, c2, c3, w1, hrl, hlen])
 |(refine Split.by2 (fun h=>?_) (fun h=>?_)<;>(simp [h, vl, VarD.cells, hlt, hlt', hlm, hlm', haa, c2, c3, w1, hrl, hlen]))
 |(refine aP1 (f := f) rfl rfl hc rfl rfl rfl ?_; simp)
 |(apply hK;clear hK K)|refine AWh ‹_› ?_)
        refine ⟨i + 1, ⟨by omega, hk⟩, by omega, ?_⟩
        apply Weak.mk' <;> simp [VarD.cells, vl, hlen]
    · obtain rfl : i = l.length := by omega
      rw [List.drop_length, hlen, List.drop_length, eqF] at hk
      repeat' (first
 |refine aK fun K hK=>?_|refine Step.by1 ?_|refine sE (by decide) ?_|refine cz rfl ?_|refine Fork.by2 (fun h=>?_) fun h=>?_
 |(refine aR ?_;simp [vl, hlen])
 |(refine Split.by2 (fun h=>?_) (fun h=>?_)<;>(simp [h, vl, hlen]))
 |(apply hK;clear hK K)|refine AWh ‹_› ?_)
      exact r1q (cE (by simp [← hk]) rfl)
  · have hlen' : ¬ (l.length : Int) = m.length := by omega
    rw [eqF_ne hlen]
    refine pB Tryz.func238 rfl (by decide) Tryz.ntmps238 (by simp) Tryz.results238 ?_
    repeat' (first
 |refine aK fun K hK=>?_|refine Step.by1 ?_|refine sE (by decide) ?_|refine cz rfl ?_|refine Fork.by2 (fun h=>?_) fun h=>?_
 |(refine aR ?_;simp [vl, hlen, hlen'])
 |(refine Split.by2 (fun h=>?_) (fun h=>?_)<;>(simp [h, vl, hlen, hlen']))
 |(apply hK;clear hK K)|refine AWh ‹_› ?_)
    exact r1q (cE rfl rfl)
set_option maxHeartbeats 8000000 in
theorem c_stIs (n : NetD) (hn : n.ok) (s : StateD) : PC 186 [.agg n.cells, .agg s.cells] (.bool (stB n s)) := by
  have hal := hn.2.2.2.1
  have hvl := hn.2.1.1
  have c1 := c_besideA 236 atLB c_stAt n.autos s.locs (by omega)
  have c2 := c_besideV 237 hasB c_stHas n.vars s.vars (by omega)
  unfold stB
  generalize eqF atLB n.autos s.locs = b1 at *
  generalize eqF hasB n.vars s.vars = b2 at *
  simp only [vl] at c1 c2
  refine pB Tryz.func186 rfl (by decide) Tryz.ntmps186 (by simp) Tryz.results186 ?_
  cases b1
  · repeat' (first
 |refine aK fun K hK=>?_|refine Step.by1 ?_|refine sE (by decide) ?_|refine cz rfl ?_|refine Fork.by2 (fun h=>?_) fun h=>?_
 |((first|refine aR ?_|refine aC (f:=127) rfl rfl (c1) rfl rfl rfl ?_);simp [NetD.cells, StateD.cells, vl])
 |(refine Split.by2 (fun h=>?_) (fun h=>?_)<;>(simp [h, NetD.cells, StateD.cells, vl]))
 |(apply hK;clear hK K)|refine AWh ‹_› ?_)
    exact r1q (cE rfl rfl)
  · repeat' (first
 |refine aK fun K hK=>?_|refine Step.by1 ?_|refine sE (by decide) ?_|refine cz rfl ?_|refine Fork.by2 (fun h=>?_) fun h=>?_
 |((first|refine aR ?_|refine aC (f:=127) rfl rfl (c1) rfl rfl rfl ?_|refine aC (f:=238) rfl rfl (c2) rfl rfl rfl ?_);simp [NetD.cells, StateD.cells, vl])
 |(refine Split.by2 (fun h=>?_) (fun h=>?_)<;>(simp [h, NetD.cells, StateD.cells, vl]))
 |(apply hK;clear hK K)|refine AWh ‹_› ?_)
    exact r1q (cE rfl rfl)
theorem c_stRight (n : NetD) (hn : n.ok) (s : StateD) : PC 119 [.agg n.cells, .agg s.cells] (.bool (rightSE n s)) := by
  have c1 := c_netRight n hn
  have c2 := c_stIs n hn s
  unfold rightSE
  generalize decide (wholeE n = 0) = b1 at *
  generalize stB n s = b2 at *
  simp only [NetD.cells, StateD.cells, vl] at c1 c2 ⊢
  refine pB Tryz.func119 rfl (by decide) Tryz.ntmps119 (by simp) Tryz.results119 ?_
  cases b1
  · repeat' (first
 |refine aK fun K hK=>?_|refine Step.by1 ?_|refine sE (by decide) ?_|refine cz rfl ?_|refine Fork.by2 (fun h=>?_) fun h=>?_
 |((first|refine aR ?_|refine aC (f:=137) rfl rfl (c1) rfl rfl rfl ?_);simp)
 |(refine Split.by2 (fun h=>?_) (fun h=>?_)<;>(simp [h]))
 |(apply hK;clear hK K)|refine AWh ‹_› ?_)
    exact r1q (cE rfl rfl)
  · repeat' (first
 |refine aK fun K hK=>?_|refine Step.by1 ?_|refine sE (by decide) ?_|refine cz rfl ?_|refine Fork.by2 (fun h=>?_) fun h=>?_
 |((first|refine aR ?_|refine aC (f:=137) rfl rfl (c1) rfl rfl rfl ?_|refine aC (f:=186) rfl rfl (c2) rfl rfl rfl ?_);simp)
 |(refine Split.by2 (fun h=>?_) (fun h=>?_)<;>(simp [h]))
 |(apply hK;clear hK K)|refine AWh ‹_› ?_)
    exact r1q (cE rfl rfl)



theorem greatE_zero {l : List GuardD} (h : greatE l = 0) : ∀ g ∈ l, 0 ≤ g.n ∧ g.n ≤ 1048576 := by
  unfold greatE at h
  intro g hg
  cases hc : greatG g
  · unfold greatG at hc
    have := of_decide_eq_false hc
    omega
  · rw [if_pos (List.any_eq_true.2 ⟨g, hg, hc⟩)] at h; cases h
theorem firstAt_none {α : Type} {f : α → Int} : ∀ {l : List α} {i : Nat}, firstAt f l i = none → ∀ x ∈ l, f x = 0
  | [], _, _ => fun x hx => (by cases hx)
  | y :: l, i, h => fun x hx => by
    rw [firstAt_cons] at h
    by_cases hy : f y = 0
    · rw [if_neg (by simp [hy])] at h
      rcases List.mem_cons.1 hx with rfl | hx
      · exact hy
      · exact firstAt_none h x hx
    · rw [if_pos hy] at h; cases h
theorem firstAt_some {α : Type} {f : α → Int} : ∀ {l : List α} {i k : Nat} {e : Int}, firstAt f l i = some (k, e) → e ≠ 0
  | [], _, _, _, h => (by cases h)
  | y :: l, i, k, e, h => by
    rw [firstAt_cons] at h
    by_cases hy : f y = 0
    · rw [if_neg (by simp [hy])] at h; exact firstAt_some h
    · rw [if_pos hy] at h; cases h; exact hy
theorem searchE_zero {pl : LocD → Int} {pe : EdgeD → Int} : ∀ {l : List AutoD} {i : Nat}, (searchE pl pe l i).2 = 0 → ∀ a ∈ l, (∀ x ∈ a.locs, pl x = 0) ∧ ∀ x ∈ a.edges, pe x = 0
  | [], _, _ => fun a ha => (by cases ha)
  | b :: l, i, h => fun a ha => by
    unfold searchE at h
    unfold searchA at h
    cases h1 : firstAt pl b.locs 0 with
    | some x => obtain ⟨k, e⟩ := x; simp only [h1] at h; exact absurd h (firstAt_some h1)
    | none =>
      simp only [h1] at h
      cases h2 : firstAt pe b.edges 0 with
      | some x => obtain ⟨k, e⟩ := x; simp only [h2] at h; exact absurd h (firstAt_some h2)
      | none =>
        simp only [h2] at h
        rcases List.mem_cons.1 ha with rfl | ha
        · exact ⟨firstAt_none h1, firstAt_none h2⟩
        · exact searchE_zero h a ha
theorem net_great {n : NetD} (h : netE n = 0) : ∀ g ∈ guardsL n, 0 ≤ g.n ∧ g.n ≤ 1048576 := by
  have hw := netE_whole h
  unfold netE whereE at h
  rw [if_neg (by simp [hw])] at h
  have h2 : (searchE (fun l => greatE l.inv) edG n.autos 0).2 = 0 := by
    by_cases hd : (searchE (fun l => diagE l.inv) (fun x => diagE x.guards) n.autos 0).2 = 0
    · rw [if_neg (by simp [hd])] at h; exact h
    · rw [if_pos hd] at h; exact absurd h hd
  intro g hg
  obtain ⟨a, ha, hga⟩ := List.mem_flatMap.1 hg
  obtain ⟨k1, k2⟩ := searchE_zero h2 a ha
  unfold guardsA at hga
  rcases List.mem_append.1 hga with hx | hx
  · obtain ⟨l, hl, hg⟩ := List.mem_flatMap.1 hx
    exact greatE_zero (k1 l hl) g hg
  · obtain ⟨e, he, hg⟩ := List.mem_flatMap.1 hx
    have h3 := k2 e he
    unfold edG at h3
    by_cases hz : greatE e.guards = 0
    · exact greatE_zero hz g hg
    · rw [if_pos hz] at h3; exact absurd h3 hz
theorem goal_great {n : NetD} {g : List PartD} (h : goalE n g = 0) : ∀ p ∈ g, ∀ x ∈ p.guards, 0 ≤ x.n ∧ x.n ≤ 1048576 := by
  unfold goalE at h
  have h1 := (fZ (fZ (fZ (fZ h).2).2).2).1
  exact fun p hp => greatE_zero (goF_zero h1 p hp)


end Go.Proofs.YtbgooadmonnjaaaGreatDoor
end
section
set_option linter.unusedVariables false
namespace Go.Proofs.YtbgooadmonnjaaaGreatDoor
open Go Go.AM
theorem rnI64 : RdN KB Tryz.prog 3 (fun n : Int => [V.int .i64 n]) I64 :=
  (RdN_int Tryz.underlying3).map id (fun _ => rfl) (fun _ h => wf64 h)
end Go.Proofs.YtbgooadmonnjaaaGreatDoor
end
section
set_option linter.unusedSimpArgs false
set_option linter.unusedVariables false
namespace Go.Proofs.YtbgooadmonnjaaaGreatDoor
open Go Go.AM Fx
structure CfgD where
  st : StateD
  clocks : List RatD
def CfgD.cells (c : CfgD) : List V := [.vec (ivs c.st.locs) c.st.locs.length, .vec (ivs c.st.vars) c.st.vars.length, vl RatD.cells c.clocks]
def CfgD.ok (c : CfgD) : Prop := c.st.ok ∧ c.clocks.length ≤ 1048576 ∧ ∀ r ∈ c.clocks, r.ok
set_option maxHeartbeats 4000000 in
theorem r_rowT (l : List Int) (hl : l.length ≤ 1048576) : PC 185 [.vec (ivs l) l.length, .vec (ivs l) l.length] (.int .i64 0) := by
  have hil : (ivs l).length = l.length := by simp [ivs]
  refine pB Tryz.func185 rfl (by decide) Tryz.ntmps185 (by simp) Tryz.results185 ?_
  repeat' (first
 |refine aK fun K hK=>?_|refine Step.by1 ?_|refine sE (by decide) ?_|refine cz rfl ?_|refine Fork.by2 (fun h=>?_) fun h=>?_
 |(refine aR ?_;simp)
 |(refine Split.by2 (fun h=>?_) (fun h=>?_)<;>(simp [h]))
 |(apply hK;clear hK K)|refine AWh ‹_› ?_)
  refine aL [0, 1] (fun i : Nat => [(5, .int .i64 i)]) (fun _ => []) (fun i => i ≤ l.length) (fun i => l.length - i) 0 (Nat.zero_le _) (by apply Weak.mk' <;> simp) (fun _ _ => rfl) ?_
  intro i hi
  by_cases hlt : i < l.length
  · obtain ⟨x, hx⟩ : ∃ x, l[i] = x := ⟨_, rfl⟩
    have hlt' : (i : Int) < l.length := by omega
    have w1 : IntKind.i64.wrap ((i : Int) + 1) = i + 1 := wI (by omega) (by omega)
    have hig : (ivs l)[i]'(by omega) = [.int .i64 x] := by simp [ivs, hx]
    repeat' (first
 |refine aK fun K hK=>?_|refine Step.by1 ?_|refine sE (by decide) ?_|refine cz rfl ?_|refine Fork.by2 (fun h=>?_) fun h=>?_
 |((first|refine aR ?_|refine aX (id:=4) 9 mixed (by decide) ?_|refine aX (id:=6) 9 mixed (by decide) ?_);simp [hlt, hlt', hil, hig, w1])
 |(refine Split.by2 (fun h=>?_) (fun h=>?_)<;>(simp [h, hlt, hlt', hil, hig, w1]))
 |(apply hK;clear hK K)|refine AWh ‹_› ?_)
    refine ⟨i + 1, by omega, by omega, ?_⟩
    apply Weak.mk' <;> simp
  · obtain rfl : i = l.length := by omega
    repeat' (first
 |refine aK fun K hK=>?_|refine Step.by1 ?_|refine sE (by decide) ?_|refine cz rfl ?_|refine Fork.by2 (fun h=>?_) fun h=>?_
 |(refine aR ?_;simp [hil])
 |(refine Split.by2 (fun h=>?_) (fun h=>?_)<;>(simp [h, hil]))
 |(apply hK;clear hK K)|refine AWh ‹_› ?_)
    exact r1q (cE rfl rfl)
theorem r_CompareT (s : StateD) (hs : s.ok) : PC 116 [.agg s.cells, .agg s.cells] (.int .i64 0) := by
  have h1 := r_rowT s.locs hs.1
  have h2 := r_rowT s.vars hs.2
  simp only [StateD.cells]
  refine pB Tryz.func116 rfl (by decide) Tryz.ntmps116 (by simp) Tryz.results116 ?_
  repeat' (first
 |refine aK fun K hK=>?_|refine Step.by1 ?_|refine sE (by decide) ?_|refine cz rfl ?_|refine Fork.by2 (fun h=>?_) fun h=>?_
 |((first|refine aR ?_|refine aC (f:=185) rfl rfl (h1) rfl rfl rfl ?_|refine aC (f:=185) rfl rfl (h2) rfl rfl rfl ?_);simp)
 |(refine Split.by2 (fun h=>?_) (fun h=>?_)<;>(simp [h]))
 |(apply hK;clear hK K)|refine AWh ‹_› ?_)
  exact r1q (cE rfl rfl)
theorem r_Same13T (s : StateD) (hs : s.ok) : PC 44 [.agg s.cells, .agg s.cells] (.bool true) := by
  have h1 := r_CompareT s hs
  simp only [StateD.cells] at h1 ⊢
  refine pB Tryz.func44 rfl (by decide) Tryz.ntmps44 (by simp) Tryz.results44 ?_
  repeat' (first
 |refine aK fun K hK=>?_|refine Step.by1 ?_|refine sE (by decide) ?_|refine cz rfl ?_|refine Fork.by2 (fun h=>?_) fun h=>?_
 |((first|refine aR ?_|refine aC (f:=116) rfl rfl (h1) rfl rfl rfl ?_);simp)
 |(refine Split.by2 (fun h=>?_) (fun h=>?_)<;>(simp [h]))
 |(apply hK;clear hK K)|refine AWh ‹_› ?_)
  exact r1q (cE rfl rfl)
set_option maxHeartbeats 4000000 in
theorem r_SameT (c : CfgD) (hc : c.ok) : PC 18 [.agg c.cells, .agg c.cells] (.bool true) := by
  have h1 := r_Same13T c.st hc.1
  have hl := hc.2.1
  simp only [StateD.cells] at h1
  simp only [CfgD.cells, vl]
  refine pB Tryz.func18 rfl (by decide) Tryz.ntmps18 (by simp) Tryz.results18 ?_
  repeat' (first
 |refine aK fun K hK=>?_|refine Step.by1 ?_|refine sE (by decide) ?_|refine cz rfl ?_|refine Fork.by2 (fun h=>?_) fun h=>?_
 |((first|refine aR ?_|refine aC (f:=44) rfl rfl (h1) rfl rfl rfl ?_);simp)
 |(refine Split.by2 (fun h=>?_) (fun h=>?_)<;>(simp [h]))
 |(apply hK;clear hK K)|refine AWh ‹_› ?_)
  refine aL [2, 3] (fun i : Nat => [(5, .int .i64 i)]) (fun _ => [.var [.vec (ivs c.st.locs) c.st.locs.length, .vec (ivs c.st.vars) c.st.vars.length, .vec (c.clocks.map RatD.cells) c.clocks.length], .var [.vec (ivs c.st.locs) c.st.locs.length, .vec (ivs c.st.vars) c.st.vars.length, .vec (c.clocks.map RatD.cells) c.clocks.length]]) (fun i => i ≤ c.clocks.length) (fun i => c.clocks.length - i) 0 (Nat.zero_le _) (by apply Weak.mk' <;> simp) (fun _ _ => rfl) ?_
  intro i hi
  by_cases hlt : i < c.clocks.length
  · obtain ⟨x, hx⟩ : ∃ x, c.clocks[i] = x := ⟨_, rfl⟩
    have hlt' : (i : Int) < c.clocks.length := by omega
    have w1 : IntKind.i64.wrap ((i : Int) + 1) = i + 1 := wI (by omega) (by omega)
    repeat' (first
 |refine aK fun K hK=>?_|refine Step.by1 ?_|refine sE (by decide) ?_|refine cz rfl ?_|refine Fork.by2 (fun h=>?_) fun h=>?_
 |((first|refine aR ?_|refine aX (id:=6) 11 mixed (by decide) ?_);simp [hlt, hlt', hx, RatD.cells, w1])
 |(refine Split.by2 (fun h=>?_) (fun h=>?_)<;>(simp [h, hlt, hlt', hx, RatD.cells, w1]))
 |(apply hK;clear hK K)|refine AWh ‹_› ?_)
    refine ⟨i + 1, by omega, by omega, ?_⟩
    apply Weak.mk' <;> simp
  · obtain rfl : i = c.clocks.length := by omega
    repeat' (first
 |refine aK fun K hK=>?_|refine Step.by1 ?_|refine sE (by decide) ?_|refine cz rfl ?_|refine Fork.by2 (fun h=>?_) fun h=>?_
 |(refine aR ?_;simp)
 |(refine Split.by2 (fun h=>?_) (fun h=>?_)<;>(simp [h]))
 |(apply hK;clear hK K)|refine AWh ‹_› ?_)
    exact r1q (cE rfl rfl)
def plainB (a : AutoD) (i : Int) : Bool := decide ((a.locs.getD i.toNat default).kind = 0)
def staysE (n : NetD) (s : StateD) : Bool := rightSE n s && eqF plainB n.autos s.locs
theorem eqF_len {α β : Type} {p : α → β → Bool} {l : List α} {m : List β} (h : eqF p l m = true) : l.length = m.length := by
  by_cases e : l.length = m.length
  · exact e
  · rw [eqF_ne e] at h; cases h
theorem eqF_at {α β : Type} {p : α → β → Bool} : ∀ {l : List α} {m : List β}, eqF p l m = true → ∀ (j : Nat) (x : α) (y : β), l[j]? = some x → m[j]? = some y → p x y = true
  | [], _, _, j, x, y, hx, _ => by simp at hx
  | a :: l, [], _, j, x, y, _, hy => by simp at hy
  | a :: l, b :: m, h, 0, x, y, hx, hy => by
    simp only [eqF, Bool.and_eq_true] at h
    simp at hx hy; subst hx; subst hy; exact h.1
  | a :: l, b :: m, h, j + 1, x, y, hx, hy => by
    simp only [eqF, Bool.and_eq_true] at h
    exact eqF_at h.2 j x y (by simpa using hx) (by simpa using hy)
theorem right_at {n : NetD} {s : StateD} (h : rightSE n s = true) : n.autos.length = s.locs.length ∧ n.vars.length = s.vars.length ∧ ∀ (j : Nat) (a : AutoD) (k : Int), n.autos[j]? = some a → s.locs[j]? = some k → 0 ≤ k ∧ k < a.locs.length := by
  simp only [rightSE, stB, Bool.and_eq_true] at h
  refine ⟨eqF_len h.2.1, eqF_len h.2.2, fun j a k ha hk => ?_⟩
  have := eqF_at h.2.1 j a k ha hk
  simpa [atLB] using this
theorem c_Stays1 (a : AutoD) (ha : a.ok) (k : Int) (h0 : 0 ≤ k) (h1 : k < a.locs.length) : PC 126 [.agg a.cells, .int .i64 k] (.bool (plainB a k)) := by
  obtain ⟨i, rfl⟩ := Int.eq_ofNat_of_zero_le h0
  have hi : i < a.locs.length := by omega
  obtain ⟨x, hx⟩ : ∃ x, a.locs[i] = x := ⟨_, rfl⟩
  have e : plainB a (i : Int) = decide (x.kind = 0) := by simp [plainB, List.getD, List.getElem?_eq_getElem hi, hx]
  rw [e]
  refine pB Tryz.func126 rfl (by decide) Tryz.ntmps126 (by simp) Tryz.results126 ?_
  repeat' (first
 |refine aK fun K hK=>?_|refine Step.by1 ?_|refine sE (by decide) ?_|refine cz rfl ?_|refine Fork.by2 (fun h=>?_) fun h=>?_
 |(refine aR ?_;simp [AutoD.cells, vl, hi, h1, hx, LocD.cells])
 |(refine Split.by2 (fun h=>?_) (fun h=>?_)<;>(simp [h, AutoD.cells, vl, hi, h1, hx, LocD.cells]))
 |(apply hK;clear hK K)|refine AWh ‹_› ?_)
  exact r1q (cE (by simp) rfl)
set_option maxHeartbeats 8000000 in
theorem c_besideP (f : Nat) (p : AutoD → Int → Bool)  (l : List AutoD) (m : List Int) (hll : l.length ≤ 1048576) (hf : ∀ (j : Nat) (a : AutoD) (i : Int), l[j]? = some a → m[j]? = some i → PC f [.agg a.cells, .int .i64 i] (.bool (p a i))) :
    PC 127 [vl AutoD.cells l, .vec (ivs m) m.length, .fn (.func f) [] []] (.bool (eqF p l m)) := by
  have hrl : (ivs m).length = m.length := ivs_len
  by_cases hlen : l.length = m.length
  · have hlen' : (l.length : Int) = m.length := by omega
    refine pB Tryz.func127 rfl (by decide) Tryz.ntmps127 (by simp) Tryz.results127 ?_
    repeat' (first
 |refine aK fun K hK=>?_|refine Step.by1 ?_|refine sE (by decide) ?_|refine cz rfl ?_|refine Fork.by2 (fun h=>?_) fun h=>?_
 |(refine aR ?_;simp [vl, hlen, hlen'])
 |(refine Split.by2 (fun h=>?_) (fun h=>?_)<;>(simp [h, vl, hlen, hlen']))
 |(apply hK;clear hK K)|refine AWh ‹_› ?_)
    refine aL [1, 2, 14, 15] (fun i : Nat => [(16, .int .i64 i)]) (fun _ => []) (fun i => i ≤ l.length ∧ eqF p (l.drop i) (m.drop i) = eqF p l m) (fun i => l.length - i) 0 ⟨Nat.zero_le _, rfl⟩ (by apply Weak.mk' <;> simp [hlen]) (fun _ _ => rfl) ?_
    rintro i ⟨hi, hk⟩
    by_cases hlt : i < l.length
    · obtain ⟨a, haa⟩ : ∃ a, l[i] = a := ⟨_, rfl⟩
      have hlm : i < m.length := by omega
      obtain ⟨r, hrr⟩ : ∃ r, m[i] = r := ⟨_, rfl⟩
      rw [List.drop_eq_getElem_cons hlt, List.drop_eq_getElem_cons hlm, haa, hrr, eqF] at hk
      have hlt' : (i : Int) < l.length := by omega
      have hlm' : (i : Int) < m.length := by omega
      have w1 : IntKind.i64.wrap ((i : Int) + 1) = i + 1 := wI (by omega) (by omega)
      have c2 := ivs_get (r := m) (c := i) (by rw [List.getElem?_eq_getElem hlm, hrr])
      have c3 : (ivs m)[i]'(by omega) = [V.int .i64 r] := by rw [List.getElem?_eq_getElem (by omega)] at c2; exact Option.some.inj c2
      have hc := hf i a r (by rw [List.getElem?_eq_getElem hlt, haa]) (by rw [List.getElem?_eq_getElem hlm, hrr])
      simp only [AutoD.cells, vl] at hc
      generalize p a r = q at *
      cases q
      · rw [Bool.false_and] at hk
        repeat' (first
 |refine aK fun K hK=>?_|refine Step.by1 ?_|refine sE (by decide) ?_|refine cz rfl ?_|refine Fork.by2 (fun h=>?_) fun h=>?_
 |((first|refine aR ?_|refine aX (id:=6) 7 mixed (by decide) ?_);simp [vl, AutoD.cells, hlt, hlt', hlm, hlm', haa, c2, c3, w1, hrl, hlen])
 |(refine Split.by2 (fun h=>?_) (fun h=>?_)<;>(simp [h, vl, AutoD.cells, hlt, hlt', hlm, hlm', haa, c2, c3, w1, hrl, hlen]))
 |(refine aP1 (f := f) rfl rfl hc rfl rfl rfl ?_; simp)
 |(apply hK;clear hK K)|refine AWh ‹_› ?_)
        exact r1q (cE (by simp [← hk]) rfl)
      · rw [Bool.true_and] at hk
        repeat' (first
 |refine aK fun K hK=>?_|refine Step.by1 ?_|refine sE (by decide) ?_|refine cz rfl ?_|refine Fork.by2 (fun h=>?_) fun h=>?_
 |((first|refine aR ?_|refine aX (id:=6) 7 mixed (by decide) ?_);simp [vl, AutoD.cells, hlt, hlt', hlm, hlm', haa, c2, c3, w1, hrl, hlen])
 |(refine Split.by2 (fun h=>?_) (fun h=>?_)<;>(simp [h, vl, AutoD.cells, hlt, hlt', hlm, hlm', haa, c2, c3, w1, hrl, hlen]))
 |(refine aP1 (f := f) rfl rfl hc rfl rfl rfl ?_; simp)
 |(apply hK;clear hK K)|refine AWh ‹_› ?_)
        refine ⟨i + 1, ⟨by omega, hk⟩, by omega, ?_⟩
        apply Weak.mk' <;> simp [AutoD.cells, vl, hlen]
    · obtain rfl : i = l.length := by omega
      rw [List.drop_length, hlen, List.drop_length, eqF] at hk
      repeat' (first
 |refine aK fun K hK=>?_|refine Step.by1 ?_|refine sE (by decide) ?_|refine cz rfl ?_|refine Fork.by2 (fun h=>?_) fun h=>?_
 |(refine aR ?_;simp [vl, hlen])
 |(refine Split.by2 (fun h=>?_) (fun h=>?_)<;>(simp [h, vl, hlen]))
 |(apply hK;clear hK K)|refine AWh ‹_› ?_)
      exact r1q (cE (by simp [← hk]) rfl)
  · have hlen' : ¬ (l.length : Int) = m.length := by omega
    rw [eqF_ne hlen]
    refine pB Tryz.func127 rfl (by decide) Tryz.ntmps127 (by simp) Tryz.results127 ?_
    repeat' (first
 |refine aK fun K hK=>?_|refine Step.by1 ?_|refine sE (by decide) ?_|refine cz rfl ?_|refine Fork.by2 (fun h=>?_) fun h=>?_
 |(refine aR ?_;simp [vl, hlen, hlen'])
 |(refine Split.by2 (fun h=>?_) (fun h=>?_)<;>(simp [h, vl, hlen, hlen']))
 |(apply hK;clear hK K)|refine AWh ‹_› ?_)
    exact r1q (cE rfl rfl)
theorem c_StaysX (n : NetD) (hn : n.ok) (s : StateD) : PC 56 [.agg n.cells, .agg s.cells] (.bool (staysE n s)) := by
  have h1 := c_stRight n hn s
  have e : staysE n s = (rightSE n s && eqF plainB n.autos s.locs) := rfl
  rw [e]
  cases hr : rightSE n s
  · rw [hr] at h1
    simp only [NetD.cells, StateD.cells] at h1 ⊢
    refine pB Tryz.func56 rfl (by decide) Tryz.ntmps56 (by simp) Tryz.results56 ?_
    repeat' (first
 |refine aK fun K hK=>?_|refine Step.by1 ?_|refine sE (by decide) ?_|refine cz rfl ?_|refine Fork.by2 (fun h=>?_) fun h=>?_
 |((first|refine aR ?_|refine aC (f:=119) rfl rfl (h1) rfl rfl rfl ?_);simp)
 |(refine Split.by2 (fun h=>?_) (fun h=>?_)<;>(simp [h]))
 |(apply hK;clear hK K)|refine AWh ‹_› ?_)
    exact r1q (cE (by simp) rfl)
  · rw [hr] at h1
    obtain ⟨r1, r2, r3⟩ := right_at hr
    have h2 := c_besideP 126 plainB n.autos s.locs hn.2.2.2.1 (fun j a k ha hk => c_Stays1 a (hn.2.2.2.2 a (List.mem_of_getElem? ha)) k (r3 j a k ha hk).1 (r3 j a k ha hk).2)
    simp only [NetD.cells, StateD.cells] at h1 h2 ⊢
    refine pB Tryz.func56 rfl (by decide) Tryz.ntmps56 (by simp) Tryz.results56 ?_
    repeat' (first
 |refine aK fun K hK=>?_|refine Step.by1 ?_|refine sE (by decide) ?_|refine cz rfl ?_|refine Fork.by2 (fun h=>?_) fun h=>?_
 |((first|refine aR ?_|refine aC (f:=119) rfl rfl (h1) rfl rfl rfl ?_|refine aC (f:=127) rfl rfl (h2) rfl rfl rfl ?_);simp)
 |(refine Split.by2 (fun h=>?_) (fun h=>?_)<;>(simp [h]))
 |(apply hK;clear hK K)|refine AWh ‹_› ?_)
    exact r1q (cE (by simp) rfl)
def badE (n : NetD) (s : StateD) : Int := if wholeE n = 0 then (if stB n s = true then 0 else 130) else 7
def invF (p : AutoD × Int) : List GuardD := (p.1.locs.getD p.2.toNat default).inv
def invL (n : NetD) (s : StateD) : List GuardD := (n.autos.zip s.locs).flatMap invF
theorem bad_right {n : NetD} {s : StateD} (h : badE n s = 0) : rightSE n s = true := by
  unfold badE at h
  split at h
  · rename_i h0
    split at h
    · rename_i h1; simp [rightSE, h0, h1]
    · cases h
  · cases h
end Go.Proofs.YtbgooadmonnjaaaGreatDoor
end
