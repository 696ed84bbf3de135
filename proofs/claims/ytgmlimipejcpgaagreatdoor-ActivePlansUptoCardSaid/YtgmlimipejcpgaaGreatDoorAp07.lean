/-
  YtgmlimipejcpgaaGreatDoorAp07: steps of the proof of a law of the program: what these texts prove holds under the hypotheses that their theorems name, and no others.
-/
import Derived.Test.YtgmlimipejcpgaaGreatDoorAp06
section
set_option linter.unusedSimpArgs false
set_option linter.unusedVariables false
namespace Go.Proofs.YtgmlimipejcpgaaGreatDoor
open Go Go.AM Fx
theorem N3.low' {o o' b g : Nat} {h : List B} {fl : Bool} {T : List (Nat × Nat × Bool × List (Nat × Nat × Nat))} {P : List (List (List Int))} (p : N3 o h b g fl T P) (ho : o' ≤ o) : N3 o' h b g fl T P :=
  ⟨p.at0, p.flat, p.len, fun i x hx => by
    obtain ⟨Q, h1, h2⟩ := p.rows i x hx
    exact ⟨Q, h1, ⟨h2.at0, h2.flat, h2.len, h2.rows, ⟨Nat.le_trans ho h2.low.1, fun x hx => Nat.le_trans ho (h2.low.2 x hx)⟩, h2.nodup⟩⟩, Nat.le_trans ho p.low, p.nodup⟩
set_option maxRecDepth 20000 in
set_option maxHeartbeats 16000000 in
theorem c_Plan (n : NetD) (hn : n.ok) (gs : List (List PartD)) (hgl : gs.length ≤ 1048576) (hgs : ∀ g ∈ gs, okGoal g) (he : lookE n gs = 0) (M : List Int) (hM : numbE n (fun _ => true) gs = some M) {h : List B} (hl : HL h) :
    GCall Tryz.prog GV 43 [.agg n.cells, gsV gs] h (fun v h' => ∃ b1 g1 fl1 T1 b2 g2 fl2 T2 o, v = .tup [.agg [.ref b1 g1 0 T1.length, .ref b2 g2 0 T2.length], .int .i64 0] ∧ Old h h' ∧ N3 h.length h' b1 g1 fl1 T1 (planP n gs M) ∧ N3 o h' b2 g2 fl2 T2 (planP n gs M) ∧ h.length ≤ o ∧ ∀ y ∈ T1, ∀ x ∈ y.2.2.2, x.1 < o) := by
  have hml := numb_len hM
  have hc := c_look n hn gs hgl hgs
  have hx := c_Max n hn gs hgl hgs
  rw [he] at hc
  rw [hM] at hx
  have hx' := PCall.freeze hx
  clear hx
  have hil : (ivs M).length = n.clocks.length := by simp [ivs, hml]
  rw [show (M.map fun k => [V.int .i64 k]) = ivs M from rfl, hil] at hx'
  have hh := fun {h : List B} {bn bg bm : Nat} => c_half n hn gs hgl hgs he M hml (h := h) (bn := bn) (bg := bg) (bm := bm)
  have g0 := fun x : List B => ga0 (h := h) (x := x) rfl
  have g1 := fun (x : List B) (k : Nat) => ga1 (h := h) (x := x) (k := k) rfl
  have s1 := fun (x : List B) (k : Nat) (y : B) => sa1 (h := h) (x := x) (k := k) (y := y) rfl
  have hH4 : HL (h ++ [B.var n.cells, B.var [gsV gs], B.var [.nils, .nils], B.var [.vec (ivs M) n.clocks.length]]) := hl.app (by simp [NetD.cells, gsV, vl])
  simp only [NetD.cells, vl, gsV] at hc hx' hh hH4
  refine gB1 Tryz.func43 rfl (by decide) Tryz.ntmps43 (by simp) Tryz.results43 ?_
  repeat' (first
 |refine aK fun K hK=>?_|refine Step.by1 ?_|refine sE (by decide) ?_|refine cz rfl ?_|refine Fork.by2 (fun h=>?_) fun h=>?_
 |((first|refine aR ?_|refine aC (f:=98) rfl rfl (hc) rfl rfl rfl ?_|refine aC (f:=22) rfl rfl (hx') rfl rfl rfl ?_);simp [NetD.cells, vl, gsV, g0, g1, s1])
 |(refine Split.by2 (fun h=>?_) (fun h=>?_)<;>(simp [h, NetD.cells, vl, gsV, g0, g1, s1]))
 |(refine aG (f := 111) rfl rfl (hh hH4 (by simp [g0]) (by simp [g1]) (by simp [g1])) rfl (fun v h' hq => ?_); obtain ⟨b1, g1', fl1, T1, rfl, ho1, hp1⟩ := hq; simp)
 |(apply hK;clear hK K)|refine AWh ‹_› ?_)
  refine aG (f := 111) rfl rfl (hh ho1.hl (ho1.get (by simp [g0])) (ho1.get (by simp [g1])) (ho1.get (by simp [g1]))) rfl (fun v h2 hq => ?_)
  obtain ⟨b2, g2, fl2, T2, rfl, ho2, hp2⟩ := hq
  have r2 : h2[h.length + 2]? = some (.var [.nils, .nils]) := ho2.get (ho1.get (by simp [g1]))
  have e2 : (h2.set (h.length + 2) (B.var [V.ref b1 g1' 0 T1.length, V.ref b2 g2 0 T2.length]))[h.length + 2]? = some (B.var [V.ref b1 g1' 0 T1.length, V.ref b2 g2 0 T2.length]) := get_set_eq r2
  simp [r2]
  repeat' (first
 |refine aK fun K hK=>?_|refine Step.by1 ?_|refine sE (by decide) ?_|refine cz rfl ?_|refine Fork.by2 (fun h=>?_) fun h=>?_
 |(refine aR ?_;simp [r2])
 |(refine Split.by2 (fun h=>?_) (fun h=>?_)<;>(simp [h, r2]))
 |(apply hK;clear hK K)|refine AWh ‹_› ?_)
  have hd := (ho1.trans ho2)
  have hl2 : HL (h2.set (h.length + 2) (B.var [V.ref b1 g1' 0 T1.length, V.ref b2 g2 0 T2.length])) := hd.hl.set (by have := (hp1.mono ho2.old).b_lt; have := hp2.b_lt; simp; omega)
  have hO : Old h (h2.set (h.length + 2) (B.var [V.ref b1 g1' 0 T1.length, V.ref b2 g2 0 T2.length])) := (((Old.rfl hl).app hH4).trans hd).set (Nat.le_add_right _ _) hl2
  refine retg2c (by simp [e2]; exact ⟨rfl, rfl⟩) (by simp) ⟨b1, g1', fl1, T1, b2, g2, fl2, T2, h'.length, by simp, hO, ((hp1.mono ho2.old).setne r2).low' (by simp), hp2.setne r2, by have := ho1.len; simp at this; omega, hp1.ids_lt⟩ (by have := (hp1.mono ho2.old).b_lt; have := hp2.b_lt; simp; omega) (Go.AM.Leaves.sym hO.len hO.hl)
theorem c_PlanF (n : NetD) (hn : n.ok) (gs : List (List PartD)) (hgl : gs.length ≤ 1048576) (hgs : ∀ g ∈ gs, okGoal g) (he : lookE n gs = 0) (M : List Int) (hM : numbE n (fun _ => true) gs = some M) :
    PC 43 [.agg n.cells, gsV gs] (.tup [.agg [halfV (planP n gs M), halfV (planP n gs M)], .int .i64 0]) :=
  PCall_of_GCall (c_Plan n hn gs hgl hgs he M hM (h := []) (by simp [HL])) fun v h' ⟨b1, g1, fl1, T1, b2, g2, fl2, T2, o, hv, hO, p1, p2, _⟩ => .inl ⟨5, by
    rw [hv]
    show _ = V.tup [V.agg [Go.AM.frz h' 3 (.ref b1 g1 0 T1.length), Go.AM.frz h' 3 (.ref b2 g2 0 T2.length)], Go.AM.frz h' 4 (.int .i64 0)]
    rw [p1.frz, p2.frz]
    rfl, rfl⟩
set_option maxRecDepth 20000 in
set_option maxHeartbeats 4000000 in
theorem c_PlanBad (n : NetD) (hn : n.ok) (gs : List (List PartD)) (hgl : gs.length ≤ 1048576) (hgs : ∀ g ∈ gs, okGoal g) (he : lookE n gs ≠ 0) :
    PC 43 [.agg n.cells, gsV gs] (.tup [.agg [.nils, .nils], .int .i64 (lookE n gs)]) := by
  have hc := c_look n hn gs hgl hgs
  generalize lookE n gs = e at *
  simp only [NetD.cells, vl, gsV] at hc
  refine pB Tryz.func43 rfl (by decide) Tryz.ntmps43 (by simp) Tryz.results43 ?_
  repeat' (first
 |refine aK fun K hK=>?_|refine Step.by1 ?_|refine sE (by decide) ?_|refine cz rfl ?_|refine Fork.by2 (fun h=>?_) fun h=>?_
 |((first|refine aR ?_|refine aC (f:=98) rfl rfl (hc) rfl rfl rfl ?_);simp [NetD.cells, vl, gsV, he])
 |(refine Split.by2 (fun h=>?_) (fun h=>?_)<;>(simp [h, NetD.cells, vl, gsV, he]))
 |(apply hK;clear hK K)|refine AWh ‹_› ?_)
  exact retq2ct rfl (by simp) (cE (by simp) (by simp))
theorem eqF_iff {α β : Type} {p : α → β → Bool} : ∀ {l : List α} {m : List β}, eqF p l m = true ↔ l.length = m.length ∧ ∀ (i : Nat) (a : α) (r : β), l[i]? = some a → m[i]? = some r → p a r = true
  | [], [] => by simp [eqF]
  | [], _ :: _ => by simp [eqF]
  | _ :: _, [] => by simp [eqF]
  | x :: r, y :: s => by
    rw [eqF, Bool.and_eq_true, eqF_iff]
    constructor
    · rintro ⟨h1, h2, h3⟩
      refine ⟨by simp [h2], fun i a b ha hb => ?_⟩
      rcases i with _ | i
      · simp at ha hb; subst ha; subst hb; exact h1
      · exact h3 i a b (by simpa using ha) (by simpa using hb)
    · rintro ⟨h2, h3⟩
      exact ⟨h3 0 x y rfl rfl, by simpa using h2, fun i a b ha hb => h3 (i + 1) a b (by simpa using ha) (by simpa using hb)⟩
theorem r_Right10 (n : NetD) (hn : n.ok) : PC 122 [.agg n.cells] (.bool (decide (wholeE n = 0))) := by
  have hc := r_Whole n hn
  generalize wholeE n = e at *
  simp only [NetD.cells, vl] at hc
  refine pB Tryz.func122 rfl (by decide) Tryz.ntmps122 (by simp) Tryz.results122 ?_
  repeat' (first
 |refine aK fun K hK=>?_|refine Step.by1 ?_|refine sE (by decide) ?_|refine cz rfl ?_|refine Fork.by2 (fun h=>?_) fun h=>?_
 |((first|refine aR ?_|refine aC (f:=67) rfl rfl (hc) rfl rfl rfl ?_);simp [NetD.cells, vl])
 |(refine Split.by2 (fun h=>?_) (fun h=>?_)<;>(simp [h, NetD.cells, vl]))
 |(apply hK;clear hK K)|refine AWh ‹_› ?_)
  exact r1q (cE rfl rfl)
theorem ivs_get {r : List Int} {c : Nat} {m : Int} (h : r[c]? = some m) : (ivs r)[c]? = some [V.int .i64 m] := by simp [ivs, h]
theorem ivs_len {r : List Int} : (ivs r).length = r.length := by simp [ivs]
structure StateD where
  locs : List Int
  vars : List Int
def StateD.ok (s : StateD) : Prop := s.locs.length ≤ 1048576 ∧ s.vars.length ≤ 1048576
def StateD.cells (s : StateD) : List V := [.vec (ivs s.locs) s.locs.length, .vec (ivs s.vars) s.vars.length]
@[simp] theorem StateD.cells_len (x : StateD) : x.cells.length = 2 := rfl
def atLB (a : AutoD) (i : Int) : Bool := decide (0 ≤ i) && decide (i < a.locs.length)
def hasB (v : VarD) (x : Int) : Bool := decide (v.lo ≤ x) && decide (x ≤ v.hi)
def stB (n : NetD) (s : StateD) : Bool := eqF atLB n.autos s.locs && eqF hasB n.vars s.vars
def rightSE (n : NetD) (s : StateD) : Bool := decide (wholeE n = 0) && stB n s
theorem c_stAt (a : AutoD) (i : Int) : PC 210 [.agg a.cells, .int .i64 i] (.bool (atLB a i)) := by
  unfold atLB
  refine pB Tryz.func210 rfl (by decide) Tryz.ntmps210 (by simp) Tryz.results210 ?_
  by_cases h : 0 ≤ i
  · by_cases h2 : i < a.locs.length
    · repeat' (first
 |refine aK fun K hK=>?_|refine Step.by1 ?_|refine sE (by decide) ?_|refine cz rfl ?_|refine Fork.by2 (fun h=>?_) fun h=>?_
 |(refine aR ?_;simp [AutoD.cells, vl, h, h2])
 |(refine Split.by2 (fun h=>?_) (fun h=>?_)<;>(simp [h, AutoD.cells, vl, h, h2]))
 |(apply hK;clear hK K)|refine AWh ‹_› ?_)
      exact r1q (cE (by simp [h, h2]) rfl)
    · repeat' (first
 |refine aK fun K hK=>?_|refine Step.by1 ?_|refine sE (by decide) ?_|refine cz rfl ?_|refine Fork.by2 (fun h=>?_) fun h=>?_
 |(refine aR ?_;simp [AutoD.cells, vl, h, h2])
 |(refine Split.by2 (fun h=>?_) (fun h=>?_)<;>(simp [h, AutoD.cells, vl, h, h2]))
 |(apply hK;clear hK K)|refine AWh ‹_› ?_)
      exact r1q (cE (by simp [h, h2]) rfl)
  · repeat' (first
 |refine aK fun K hK=>?_|refine Step.by1 ?_|refine sE (by decide) ?_|refine cz rfl ?_|refine Fork.by2 (fun h=>?_) fun h=>?_
 |(refine aR ?_;simp [AutoD.cells, vl, h])
 |(refine Split.by2 (fun h=>?_) (fun h=>?_)<;>(simp [h, AutoD.cells, vl, h]))
 |(apply hK;clear hK K)|refine AWh ‹_› ?_)
    exact r1q (cE (by simp [h]) rfl)
theorem c_stHas (v : VarD) (x : Int) : PC 211 [.agg v.cells, .int .i64 x] (.bool (hasB v x)) := by
  unfold hasB
  refine pB Tryz.func211 rfl (by decide) Tryz.ntmps211 (by simp) Tryz.results211 ?_
  by_cases h : v.lo ≤ x
  · by_cases h2 : x ≤ v.hi
    · repeat' (first
 |refine aK fun K hK=>?_|refine Step.by1 ?_|refine sE (by decide) ?_|refine cz rfl ?_|refine Fork.by2 (fun h=>?_) fun h=>?_
 |(refine aR ?_;simp [VarD.cells, h, h2])
 |(refine Split.by2 (fun h=>?_) (fun h=>?_)<;>(simp [h, VarD.cells, h, h2]))
 |(apply hK;clear hK K)|refine AWh ‹_› ?_)
      exact r1q (cE (by simp [h, h2]) rfl)
    · repeat' (first
 |refine aK fun K hK=>?_|refine Step.by1 ?_|refine sE (by decide) ?_|refine cz rfl ?_|refine Fork.by2 (fun h=>?_) fun h=>?_
 |(refine aR ?_;simp [VarD.cells, h, h2])
 |(refine Split.by2 (fun h=>?_) (fun h=>?_)<;>(simp [h, VarD.cells, h, h2]))
 |(apply hK;clear hK K)|refine AWh ‹_› ?_)
      exact r1q (cE (by simp [h, h2]) rfl)
  · repeat' (first
 |refine aK fun K hK=>?_|refine Step.by1 ?_|refine sE (by decide) ?_|refine cz rfl ?_|refine Fork.by2 (fun h=>?_) fun h=>?_
 |(refine aR ?_;simp [VarD.cells, h])
 |(refine Split.by2 (fun h=>?_) (fun h=>?_)<;>(simp [h, VarD.cells, h]))
 |(apply hK;clear hK K)|refine AWh ‹_› ?_)
    exact r1q (cE (by simp [h]) rfl)
set_option maxHeartbeats 8000000 in
theorem c_besideA (f : Nat) (p : AutoD → Int → Bool) (hf : ∀ a i, PC f [.agg a.cells, .int .i64 i] (.bool (p a i))) (l : List AutoD) (m : List Int) (hll : l.length ≤ 1048576) :
    PC 212 [vl AutoD.cells l, .vec (ivs m) m.length, .fn (.func f) [] []] (.bool (eqF p l m)) := by
  have hrl : (ivs m).length = m.length := ivs_len
  by_cases hlen : l.length = m.length
  · have hlen' : (l.length : Int) = m.length := by omega
    refine pB Tryz.func212 rfl (by decide) Tryz.ntmps212 (by simp) Tryz.results212 ?_
    repeat' (first
 |refine aK fun K hK=>?_|refine Step.by1 ?_|refine sE (by decide) ?_|refine cz rfl ?_|refine Fork.by2 (fun h=>?_) fun h=>?_
 |(refine aR ?_;simp [vl, hlen, hlen'])
 |(refine Split.by2 (fun h=>?_) (fun h=>?_)<;>(simp [h, vl, hlen, hlen']))
 |(apply hK;clear hK K)|refine AWh ‹_› ?_)
    refine aL [1, 2, 14, 15] (fun i : Nat => [(16, .int .i64 i)]) (fun _ => []) (fun i => i ≤ l.length ∧ eqF p (l.drop i) (m.drop i) = eqF p l m) (fun i => l.length - i) 0 ⟨Nat.zero_le _, rfl⟩ (by apply Weak.mk' <;> simp [hlen]) (fun _ _ => rfl) ?_
    rintro i ⟨hi, hk⟩
    by_cases hlt : i < l.length
    · obtain ⟨a, haa⟩ : ∃ a, l[i] = a := ⟨_, rfl⟩
      have hlm : i < m.length := by omega
      obtain ⟨r, hrr⟩ : ∃ r, m[i] = r := ⟨_, rfl⟩
      rw [List.drop_eq_getElem_cons hlt, List.drop_eq_getElem_cons hlm, haa, hrr, eqF] at hk
      have hlt' : (i : Int) < l.length := by omega
      have hlm' : (i : Int) < m.length := by omega
      have w1 : IntKind.i64.wrap ((i : Int) + 1) = i + 1 := wI (by omega) (by omega)
      have c2 := ivs_get (r := m) (c := i) (by rw [List.getElem?_eq_getElem hlm, hrr])
      have c3 : (ivs m)[i]'(by omega) = [V.int .i64 r] := by rw [List.getElem?_eq_getElem (by omega)] at c2; exact Option.some.inj c2
      have hc := hf a r
      simp only [AutoD.cells, vl] at hc
      generalize p a r = q at *
      cases q
      · rw [Bool.false_and] at hk
        repeat' (first
 |refine aK fun K hK=>?_|refine Step.by1 ?_|refine sE (by decide) ?_|refine cz rfl ?_|refine Fork.by2 (fun h=>?_) fun h=>?_
 |((first|refine aR ?_|refine aX (id:=6) 7 mixed (by decide) ?_);simp [vl, AutoD.cells, hlt, hlt', hlm, hlm', haa, c2, c3, w1, hrl, hlen])
 |(refine Split.by2 (fun h=>?_) (fun h=>?_)<;>(simp [h, vl, AutoD.cells, hlt, hlt', hlm, hlm', haa, c2, c3, w1, hrl, hlen]))
 |(refine aP1 (f := f) rfl rfl hc rfl rfl rfl ?_; simp)
 |(apply hK;clear hK K)|refine AWh ‹_› ?_)
        exact r1q (cE (by simp [← hk]) rfl)
      · rw [Bool.true_and] at hk
        repeat' (first
 |refine aK fun K hK=>?_|refine Step.by1 ?_|refine sE (by decide) ?_|refine cz rfl ?_|refine Fork.by2 (fun h=>?_) fun h=>?_
 |((first|refine aR ?_|refine aX (id:=6) 7 mixed (by decide) ?_);simp [vl, AutoD.cells, hlt, hlt', hlm, hlm', haa, c2, c3, w1, hrl, hlen])
 |(refine Split.by2 (fun h=>?_) (fun h=>?_)<;>(simp [h, vl, AutoD.cells, hlt, hlt', hlm, hlm', haa, c2, c3, w1, hrl, hlen]))
 |(refine aP1 (f := f) rfl rfl hc rfl rfl rfl ?_; simp)
 |(apply hK;clear hK K)|refine AWh ‹_› ?_)
        refine ⟨i + 1, ⟨by omega, hk⟩, by omega, ?_⟩
        apply Weak.mk' <;> simp [AutoD.cells, vl, hlen]
    · obtain rfl : i = l.length := by omega
      rw [List.drop_length, hlen, List.drop_length, eqF] at hk
      repeat' (first
 |refine aK fun K hK=>?_|refine Step.by1 ?_|refine sE (by decide) ?_|refine cz rfl ?_|refine Fork.by2 (fun h=>?_) fun h=>?_
 |(refine aR ?_;simp [vl, hlen])
 |(refine Split.by2 (fun h=>?_) (fun h=>?_)<;>(simp [h, vl, hlen]))
 |(apply hK;clear hK K)|refine AWh ‹_› ?_)
      exact r1q (cE (by simp [← hk]) rfl)
  · have hlen' : ¬ (l.length : Int) = m.length := by omega
    rw [eqF_ne hlen]
    refine pB Tryz.func212 rfl (by decide) Tryz.ntmps212 (by simp) Tryz.results212 ?_
    repeat' (first
 |refine aK fun K hK=>?_|refine Step.by1 ?_|refine sE (by decide) ?_|refine cz rfl ?_|refine Fork.by2 (fun h=>?_) fun h=>?_
 |(refine aR ?_;simp [vl, hlen, hlen'])
 |(refine Split.by2 (fun h=>?_) (fun h=>?_)<;>(simp [h, vl, hlen, hlen']))
 |(apply hK;clear hK K)|refine AWh ‹_› ?_)
    exact r1q (cE rfl rfl)
set_option maxHeartbeats 8000000 in
theorem c_besideV (f : Nat) (p : VarD → Int → Bool) (hf : ∀ a i, PC f [.agg a.cells, .int .i64 i] (.bool (p a i))) (l : List VarD) (m : List Int) (hll : l.length ≤ 1048576) :
    PC 213 [vl VarD.cells l, .vec (ivs m) m.length, .fn (.func f) [] []] (.bool (eqF p l m)) := by
  have hrl : (ivs m).length = m.length := ivs_len
  by_cases hlen : l.length = m.length
  · have hlen' : (l.length : Int) = m.length := by omega
    refine pB Tryz.func213 rfl (by decide) Tryz.ntmps213 (by simp) Tryz.results213 ?_
    repeat' (first
 |refine aK fun K hK=>?_|refine Step.by1 ?_|refine sE (by decide) ?_|refine cz rfl ?_|refine Fork.by2 (fun h=>?_) fun h=>?_
 |(refine aR ?_;simp [vl, hlen, hlen'])
 |(refine Split.by2 (fun h=>?_) (fun h=>?_)<;>(simp [h, vl, hlen, hlen']))
 |(apply hK;clear hK K)|refine AWh ‹_› ?_)
    refine aL [1, 2, 14, 15] (fun i : Nat => [(16, .int .i64 i)]) (fun _ => []) (fun i => i ≤ l.length ∧ eqF p (l.drop i) (m.drop i) = eqF p l m) (fun i => l.length - i) 0 ⟨Nat.zero_le _, rfl⟩ (by apply Weak.mk' <;> simp [hlen]) (fun _ _ => rfl) ?_
    rintro i ⟨hi, hk⟩
    by_cases hlt : i < l.length
    · obtain ⟨a, haa⟩ : ∃ a, l[i] = a := ⟨_, rfl⟩
      have hlm : i < m.length := by omega
      obtain ⟨r, hrr⟩ : ∃ r, m[i] = r := ⟨_, rfl⟩
      rw [List.drop_eq_getElem_cons hlt, List.drop_eq_getElem_cons hlm, haa, hrr, eqF] at hk
      have hlt' : (i : Int) < l.length := by omega
      have hlm' : (i : Int) < m.length := by omega
      have w1 : IntKind.i64.wrap ((i : Int) + 1) = i + 1 := wI (by omega) (by omega)
      have c2 := ivs_get (r := m) (c := i) (by rw [List.getElem?_eq_getElem hlm, hrr])
      have c3 : (ivs m)[i]'(by omega) = [V.int .i64 r] := by rw [List.getElem?_eq_getElem (by omega)] at c2; exact Option.some.inj c2
      have hc := hf a r
      simp only [VarD.cells, vl] at hc
      generalize p a r = q at *
      cases q
      · rw [Bool.false_and] at hk
        repeat' (first
 |refine aK fun K hK=>?_|refine Step.by1 ?_|refine sE (by decide) ?_|refine cz rfl ?_|refine Fork.by2 (fun h=>?_) fun h=>?_
 |((first|refine aR ?_|refine aX (id:=6) 7 mixed (by decide) ?_);simp [vl, VarD.cells, hlt, hlt', hlm, hlm', haa, c2, c3, w1, hrl, hlen])
 |(refine Split.by2 (fun h=>?_) (fun h=>?_)<;>(simp [h, vl, VarD.cells, hlt, hlt', hlm, hlm', haa, c2, c3, w1, hrl, hlen]))
 |(refine aP1 (f := f) rfl rfl hc rfl rfl rfl ?_; simp)
 |(apply hK;clear hK K)|refine AWh ‹_› ?_)
        exact r1q (cE (by simp [← hk]) rfl)
      · rw [Bool.true_and] at hk
        repeat' (first
 |refine aK fun K hK=>?_|refine Step.by1 ?_|refine sE (by decide) ?_|refine cz rfl ?_|refine Fork.by2 (fun h=>?_) fun h=>?_
 |((first|refine aR ?_|refine aX (id:=6) 7 mixed (by decide) ?_);simp [vl, VarD.cells, hlt, hlt', hlm, hlm', haa, c2, c3, w1, hrl, hlen])
 |(refine Split.by2 (fun h=>?_) (fun h=>?_)<;>(simp [h, vl, VarD.cells, hlt, hlt', hlm, hlm', haa, c2, c3, w1, hrl, hlen]))
 |(refine aP1 (f := f) rfl rfl hc rfl rfl rfl ?_; simp)
 |(apply hK;clear hK K)|refine AWh ‹_› ?_)
        refine ⟨i + 1, ⟨by omega, hk⟩, by omega, ?_⟩
        apply Weak.mk' <;> simp [VarD.cells, vl, hlen]
    · obtain rfl : i = l.length := by omega
      rw [List.drop_length, hlen, List.drop_length, eqF] at hk
      repeat' (first
 |refine aK fun K hK=>?_|refine Step.by1 ?_|refine sE (by decide) ?_|refine cz rfl ?_|refine Fork.by2 (fun h=>?_) fun h=>?_
 |(refine aR ?_;simp [vl, hlen])
 |(refine Split.by2 (fun h=>?_) (fun h=>?_)<;>(simp [h, vl, hlen]))
 |(apply hK;clear hK K)|refine AWh ‹_› ?_)
      exact r1q (cE (by simp [← hk]) rfl)
  · have hlen' : ¬ (l.length : Int) = m.length := by omega
    rw [eqF_ne hlen]
    refine pB Tryz.func213 rfl (by decide) Tryz.ntmps213 (by simp) Tryz.results213 ?_
    repeat' (first
 |refine aK fun K hK=>?_|refine Step.by1 ?_|refine sE (by decide) ?_|refine cz rfl ?_|refine Fork.by2 (fun h=>?_) fun h=>?_
 |(refine aR ?_;simp [vl, hlen, hlen'])
 |(refine Split.by2 (fun h=>?_) (fun h=>?_)<;>(simp [h, vl, hlen, hlen']))
 |(apply hK;clear hK K)|refine AWh ‹_› ?_)
    exact r1q (cE rfl rfl)
set_option maxHeartbeats 8000000 in
theorem c_stIs (n : NetD) (hn : n.ok) (s : StateD) : PC 170 [.agg n.cells, .agg s.cells] (.bool (stB n s)) := by
  have hal := hn.2.2.2.1
  have hvl := hn.2.1.1
  have c1 := c_besideA 210 atLB c_stAt n.autos s.locs (by omega)
  have c2 := c_besideV 211 hasB c_stHas n.vars s.vars (by omega)
  unfold stB
  generalize eqF atLB n.autos s.locs = b1 at *
  generalize eqF hasB n.vars s.vars = b2 at *
  simp only [vl] at c1 c2
  refine pB Tryz.func170 rfl (by decide) Tryz.ntmps170 (by simp) Tryz.results170 ?_
  cases b1
  · repeat' (first
 |refine aK fun K hK=>?_|refine Step.by1 ?_|refine sE (by decide) ?_|refine cz rfl ?_|refine Fork.by2 (fun h=>?_) fun h=>?_
 |((first|refine aR ?_|refine aC (f:=212) rfl rfl (c1) rfl rfl rfl ?_);simp [NetD.cells, StateD.cells, vl])
 |(refine Split.by2 (fun h=>?_) (fun h=>?_)<;>(simp [h, NetD.cells, StateD.cells, vl]))
 |(apply hK;clear hK K)|refine AWh ‹_› ?_)
    exact r1q (cE rfl rfl)
  · repeat' (first
 |refine aK fun K hK=>?_|refine Step.by1 ?_|refine sE (by decide) ?_|refine cz rfl ?_|refine Fork.by2 (fun h=>?_) fun h=>?_
 |((first|refine aR ?_|refine aC (f:=212) rfl rfl (c1) rfl rfl rfl ?_|refine aC (f:=213) rfl rfl (c2) rfl rfl rfl ?_);simp [NetD.cells, StateD.cells, vl])
 |(refine Split.by2 (fun h=>?_) (fun h=>?_)<;>(simp [h, NetD.cells, StateD.cells, vl]))
 |(apply hK;clear hK K)|refine AWh ‹_› ?_)
    exact r1q (cE rfl rfl)
theorem c_stRight (n : NetD) (hn : n.ok) (s : StateD) : PC 113 [.agg n.cells, .agg s.cells] (.bool (rightSE n s)) := by
  have c1 := c_netRight n hn
  have c2 := c_stIs n hn s
  unfold rightSE
  generalize decide (wholeE n = 0) = b1 at *
  generalize stB n s = b2 at *
  simp only [NetD.cells, StateD.cells, vl] at c1 c2 ⊢
  refine pB Tryz.func113 rfl (by decide) Tryz.ntmps113 (by simp) Tryz.results113 ?_
  cases b1
  · repeat' (first
 |refine aK fun K hK=>?_|refine Step.by1 ?_|refine sE (by decide) ?_|refine cz rfl ?_|refine Fork.by2 (fun h=>?_) fun h=>?_
 |((first|refine aR ?_|refine aC (f:=120) rfl rfl (c1) rfl rfl rfl ?_);simp)
 |(refine Split.by2 (fun h=>?_) (fun h=>?_)<;>(simp [h]))
 |(apply hK;clear hK K)|refine AWh ‹_› ?_)
    exact r1q (cE rfl rfl)
  · repeat' (first
 |refine aK fun K hK=>?_|refine Step.by1 ?_|refine sE (by decide) ?_|refine cz rfl ?_|refine Fork.by2 (fun h=>?_) fun h=>?_
 |((first|refine aR ?_|refine aC (f:=120) rfl rfl (c1) rfl rfl rfl ?_|refine aC (f:=170) rfl rfl (c2) rfl rfl rfl ?_);simp)
 |(refine Split.by2 (fun h=>?_) (fun h=>?_)<;>(simp [h]))
 |(apply hK;clear hK K)|refine AWh ‹_› ?_)
    exact r1q (cE rfl rfl)
end Go.Proofs.YtgmlimipejcpgaaGreatDoor
end
