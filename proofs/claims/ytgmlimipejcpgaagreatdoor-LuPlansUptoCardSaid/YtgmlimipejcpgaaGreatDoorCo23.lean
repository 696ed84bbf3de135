/-
  YtgmlimipejcpgaaGreatDoorCo23: steps of the proof of a law of the program: what these texts prove holds under the hypotheses that their theorems name, and no others.
-/
import Derived.Test.YtgmlimipejcpgaaGreatDoorCo22
section
set_option linter.unusedSimpArgs false
set_option linter.unusedVariables false
namespace Go.Proofs.YtgmlimipejcpgaaGreatDoor
open Go Go.AM Fx
def edG (x : EdgeD) : Int := if greatE x.guards ≠ 0 then greatE x.guards else greatSE x.sets
def whereE (n : NetD) : (Int × Int × Int) × Int :=
  if wholeE n ≠ 0 then ((0, 0, 0), wholeE n)
  else if (searchE (fun l => diagE l.inv) (fun x => diagE x.guards) n.autos 0).2 ≠ 0 then searchE (fun l => diagE l.inv) (fun x => diagE x.guards) n.autos 0
  else searchE (fun l => greatE l.inv) edG n.autos 0
def netE (n : NetD) : Int := (whereE n).2
theorem c_Where1 (x : LocD) (hx : x.ok) : PC 60 [.agg x.cells] (.int .i64 (diagE x.inv)) := by
  have hc := c_diagE x.inv (by have := hx.2.2.1; omega)
  simp only [vl] at hc
  refine pB Tryz.func60 rfl (by decide) Tryz.ntmps60 (by simp) Tryz.results60 ?_
  repeat' (first
 |refine aK fun K hK=>?_|refine Step.by1 ?_|refine sE (by decide) ?_|refine cz rfl ?_|refine Fork.by2 (fun h=>?_) fun h=>?_
 |((first|refine aR ?_|refine aC (f:=61) rfl rfl (hc) rfl rfl rfl ?_);simp [vl, LocD.cells])
 |(refine Split.by2 (fun h=>?_) (fun h=>?_)<;>(simp [h, vl, LocD.cells]))
 |(apply hK;clear hK K)|refine AWh ‹_› ?_)
  exact r1q (cE rfl rfl)
theorem c_Where2 (x : EdgeD) (hx : x.ok) : PC 62 [.agg x.cells] (.int .i64 (diagE x.guards)) := by
  have hc := c_diagE x.guards (by have := hx.2.2.1.1; omega)
  simp only [vl] at hc
  refine pB Tryz.func62 rfl (by decide) Tryz.ntmps62 (by simp) Tryz.results62 ?_
  repeat' (first
 |refine aK fun K hK=>?_|refine Step.by1 ?_|refine sE (by decide) ?_|refine cz rfl ?_|refine Fork.by2 (fun h=>?_) fun h=>?_
 |((first|refine aR ?_|refine aC (f:=61) rfl rfl (hc) rfl rfl rfl ?_);simp [vl, EdgeD.cells])
 |(refine Split.by2 (fun h=>?_) (fun h=>?_)<;>(simp [h, vl, EdgeD.cells]))
 |(apply hK;clear hK K)|refine AWh ‹_› ?_)
  exact r1q (cE rfl rfl)
theorem c_Where3 (x : LocD) (hx : x.ok) : PC 63 [.agg x.cells] (.int .i64 (greatE x.inv)) := by
  have hc := c_greatE x.inv (by have := hx.2.2.1; omega)
  simp only [vl] at hc
  refine pB Tryz.func63 rfl (by decide) Tryz.ntmps63 (by simp) Tryz.results63 ?_
  repeat' (first
 |refine aK fun K hK=>?_|refine Step.by1 ?_|refine sE (by decide) ?_|refine cz rfl ?_|refine Fork.by2 (fun h=>?_) fun h=>?_
 |((first|refine aR ?_|refine aC (f:=64) rfl rfl (hc) rfl rfl rfl ?_);simp [vl, LocD.cells])
 |(refine Split.by2 (fun h=>?_) (fun h=>?_)<;>(simp [h, vl, LocD.cells]))
 |(apply hK;clear hK K)|refine AWh ‹_› ?_)
  exact r1q (cE rfl rfl)
theorem c_Where4 (x : EdgeD) (hx : x.ok) : PC 65 [.agg x.cells] (.int .i64 (edG x)) := by
  have hc := c_greatE x.guards (by have := hx.2.2.1.1; omega)
  have hc2 := c_greatSE x.sets (by have := hx.2.2.2.2.2.2.1; omega)
  obtain ⟨r, hr⟩ : ∃ r, edG x = r := ⟨_, rfl⟩
  rw [hr]
  unfold edG at hr
  simp only [vl] at hc hc2
  generalize greatE x.guards = k1 at *
  generalize greatSE x.sets = k2 at *
  refine pB Tryz.func65 rfl (by decide) Tryz.ntmps65 (by simp) Tryz.results65 ?_
  by_cases hz : k1 = 0
  · rw [if_neg (by simp [hz])] at hr
    rw [hz] at hc
    repeat' (first
 |refine aK fun K hK=>?_|refine Step.by1 ?_|refine sE (by decide) ?_|refine cz rfl ?_|refine Fork.by2 (fun h=>?_) fun h=>?_
 |((first|refine aR ?_|refine aC (f:=64) rfl rfl (hc) rfl rfl rfl ?_|refine aC (f:=66) rfl rfl (hc2) rfl rfl rfl ?_);simp [vl, EdgeD.cells])
 |(refine Split.by2 (fun h=>?_) (fun h=>?_)<;>(simp [h, vl, EdgeD.cells]))
 |(apply hK;clear hK K)|refine AWh ‹_› ?_)
    exact r1q (cE (by rw [← hr]; rfl) rfl)
  · rw [if_pos hz] at hr
    repeat' (first
 |refine aK fun K hK=>?_|refine Step.by1 ?_|refine sE (by decide) ?_|refine cz rfl ?_|refine Fork.by2 (fun h=>?_) fun h=>?_
 |((first|refine aR ?_|refine aC (f:=64) rfl rfl (hc) rfl rfl rfl ?_);simp [vl, EdgeD.cells, hz])
 |(refine Split.by2 (fun h=>?_) (fun h=>?_)<;>(simp [h, vl, EdgeD.cells, hz]))
 |(apply hK;clear hK K)|refine AWh ‹_› ?_)
    exact r1q (cE (by rw [← hr]; rfl) rfl)
set_option maxRecDepth 20000 in
set_option maxHeartbeats 8000000 in
theorem c_Where (n : NetD) (hn : n.ok) : PC 12 [.agg n.cells] (spotE (whereE n)) := by
  have hW := c_Whole n hn
  have hS := c_search n hn 60 62 (fun l => diagE l.inv) (fun x => diagE x.guards) (fun a ha x hx => c_Where1 x ((hn.2.2.2.2 a ha).2.1.2 x hx)) (fun a ha x hx => c_Where2 x ((hn.2.2.2.2 a ha).2.2.2 x hx))
  have hT := c_search n hn 63 65 (fun l => greatE l.inv) edG (fun a ha x hx => c_Where3 x ((hn.2.2.2.2 a ha).2.1.2 x hx)) (fun a ha x hx => c_Where4 x ((hn.2.2.2.2 a ha).2.2.2 x hx))
  obtain ⟨r, hr⟩ : ∃ r, whereE n = r := ⟨_, rfl⟩
  rw [hr]
  unfold whereE at hr
  generalize wholeE n = w at *
  generalize searchE (fun l => diagE l.inv) (fun x => diagE x.guards) n.autos 0 = s at *
  generalize searchE (fun l => greatE l.inv) edG n.autos 0 = t at *
  obtain ⟨⟨s1, s2, s3⟩, s4⟩ := s
  obtain ⟨⟨t1, t2, t3⟩, t4⟩ := t
  simp only [vl, NetD.cells, spotE, spotV] at hW hS hT
  simp only at hr
  refine pB Tryz.func12 rfl (by decide) Tryz.ntmps12 (by simp) Tryz.results12 ?_
  by_cases hw : w = 0
  · subst hw
    rw [if_neg (by simp)] at hr
    by_cases hs : s4 = 0
    · subst hs
      rw [if_neg (by simp)] at hr
      subst hr
      repeat' (first
 |refine aK fun K hK=>?_|refine Step.by1 ?_|refine sE (by decide) ?_|refine cz rfl ?_|refine Fork.by2 (fun h=>?_) fun h=>?_
 |((first|refine aR ?_|refine aC (f:=58) rfl rfl (hW) rfl rfl rfl ?_|refine aC (f:=59) rfl rfl (hS) rfl rfl rfl ?_|refine aC (f:=59) rfl rfl (hT) rfl rfl rfl ?_);simp [vl, NetD.cells])
 |(refine Split.by2 (fun h=>?_) (fun h=>?_)<;>(simp [h, vl, NetD.cells]))
 |(apply hK;clear hK K)|refine AWh ‹_› ?_)
      exact retq2ct rfl (by simp) (cE (by simp [spotE, spotV]) (by simp))
    · rw [if_pos hs] at hr
      subst hr
      repeat' (first
 |refine aK fun K hK=>?_|refine Step.by1 ?_|refine sE (by decide) ?_|refine cz rfl ?_|refine Fork.by2 (fun h=>?_) fun h=>?_
 |((first|refine aR ?_|refine aC (f:=58) rfl rfl (hW) rfl rfl rfl ?_|refine aC (f:=59) rfl rfl (hS) rfl rfl rfl ?_);simp [vl, NetD.cells, hs])
 |(refine Split.by2 (fun h=>?_) (fun h=>?_)<;>(simp [h, vl, NetD.cells, hs]))
 |(apply hK;clear hK K)|refine AWh ‹_› ?_)
      exact retq2ct rfl (by simp) (cE (by simp [spotE, spotV]) (by simp))
  · rw [if_pos hw] at hr
    subst hr
    repeat' (first
 |refine aK fun K hK=>?_|refine Step.by1 ?_|refine sE (by decide) ?_|refine cz rfl ?_|refine Fork.by2 (fun h=>?_) fun h=>?_
 |((first|refine aR ?_|refine aC (f:=58) rfl rfl (hW) rfl rfl rfl ?_);simp [vl, NetD.cells, hw])
 |(refine Split.by2 (fun h=>?_) (fun h=>?_)<;>(simp [h, vl, NetD.cells, hw]))
 |(apply hK;clear hK K)|refine AWh ‹_› ?_)
    exact retq2ct rfl (by simp) (cE (by simp [spotE, spotV]) (by simp))
theorem c_Net (n : NetD) (hn : n.ok) : PC 15 [.agg n.cells] (.int .i64 (netE n)) := by
  have hW := c_Where n hn
  unfold netE
  generalize whereE n = s at *
  obtain ⟨⟨s1, s2, s3⟩, s4⟩ := s
  simp only [vl, NetD.cells, spotE, spotV] at hW
  refine pB Tryz.func15 rfl (by decide) Tryz.ntmps15 (by simp) Tryz.results15 ?_
  repeat' (first
 |refine aK fun K hK=>?_|refine Step.by1 ?_|refine sE (by decide) ?_|refine cz rfl ?_|refine Fork.by2 (fun h=>?_) fun h=>?_
 |((first|refine aR ?_|refine aC (f:=12) rfl rfl (hW) rfl rfl rfl ?_);simp [vl, NetD.cells])
 |(refine Split.by2 (fun h=>?_) (fun h=>?_)<;>(simp [h, vl, NetD.cells]))
 |(apply hK;clear hK K)|refine AWh ‹_› ?_)
  exact r1q (cE rfl rfl)
def plW (way : Int) (x : LocD) : Int := if anyL (badG way) x.inv = true then way else 0
def peW (way : Int) (x : EdgeD) : Int := if (anyL (badG way) x.guards || anyL (badS way) x.sets) = true then way else 0
theorem plW_120 : plW 120 = fun l => diagE l.inv := funext fun x => by
  have : badG 120 = diagG := funext fun g => by simp [badG]
  simp only [plW, this]; rfl
theorem peW_120 : peW 120 = fun x => diagE x.guards := funext fun x => by
  have h1 : badG 120 = diagG := funext fun g => by simp [badG]
  have h2 : badS 120 = fun _ => false := funext fun g => by simp [badS]
  simp only [peW, h1, h2, anyL_false', Bool.or_false]; rfl
theorem plW_13 : plW 13 = fun l => greatE l.inv := funext fun x => by
  have : badG 13 = greatG := funext fun g => by simp [badG]
  simp only [plW, this]; rfl
theorem peW_13 : peW 13 = edG := funext fun x => by
  have h1 : badG 13 = greatG := funext fun g => by simp [badG]
  have h2 : badS 13 = greatS := funext fun g => by simp [badS]
  have e1 : greatE x.guards = if anyL greatG x.guards = true then 13 else 0 := rfl
  have e2 : greatSE x.sets = if anyL greatS x.sets = true then 13 else 0 := rfl
  simp only [peW, edG, h1, h2, e1, e2]
  cases anyL greatG x.guards <;> cases anyL greatS x.sets <;> rfl
def spotW (x : (Int × Int × Int) × Int) : V := .tup [spotV x.1.1 x.1.2.1 x.1.2.2, .bool (decide (x.2 ≠ 0))]
set_option maxRecDepth 20000 in
set_option maxHeartbeats 8000000 in
theorem r_where (n : NetD) (hn : n.ok) (way : Int) (hway : way ≠ 0) : PC 68 [.agg n.cells, .int .i64 way] (spotW (searchE (plW way) (peW way) n.autos 0)) := by
  obtain ⟨_, _, _, h4, h5⟩ := hn
  obtain ⟨r, hr⟩ : ∃ r, searchE (plW way) (peW way) n.autos 0 = r := ⟨_, rfl⟩
  rw [hr]
  refine pB Tryz.func68 rfl (by decide) Tryz.ntmps68 (by simp) Tryz.results68 ?_
  repeat' (first
 |refine aK fun K hK=>?_|refine Step.by1 ?_|refine sE (by decide) ?_|refine cz rfl ?_|refine Fork.by2 (fun h=>?_) fun h=>?_
 |(refine aR ?_;simp [vl, NetD.cells])
 |(refine Split.by2 (fun h=>?_) (fun h=>?_)<;>(simp [h, vl, NetD.cells]))
 |(apply hK;clear hK K)|refine AWh ‹_› ?_)
  refine AW_range (r := r) n.autos 6 [1, 2, 4] (fun c : Nat => []) (fun _ => [.var n.cells, .var [.int .i64 0, .int .i64 0, .int .i64 0]]) (fun i c => c = i) (searchE (plW way) (peW way)) 0
    hr rfl (by apply Weak.mk' <;> simp [vl, NetD.cells]) (fun _ _ _ => rfl) ?_ ?_
  · intro i c a _ hlt ha hJ hF
    subst hJ
    rw [searchE_cons] at hF
    have hm : a ∈ n.autos := ha ▸ List.getElem_mem hlt
    have hoa := h5 a hm
    obtain ⟨_, ⟨hl1, hl2⟩, he1, he2⟩ := hoa
    have hlt' : (c : Int) < n.autos.length := by omega
    have w0 : IntKind.i64.wrap ((c : Int) + 1) = c + 1 := wI (by omega) (by omega)
    have hsA : searchA (plW way) (peW way) a = match firstAt (plW way) a.locs 0 with
      | some (k, e) => some (((k : Int), -1), e)
      | none => match firstAt (peW way) a.edges 0 with
        | some (k, e) => some ((-1, (k : Int)), e)
        | none => none := rfl
    obtain ⟨ra, hra⟩ : ∃ ra, firstAt (plW way) a.locs 0 = ra := ⟨_, rfl⟩
    obtain ⟨re, hre⟩ : ∃ re, firstAt (peW way) a.edges 0 = re := ⟨_, rfl⟩
    rw [hra, hre] at hsA
    rw [hsA] at hF
    clear hsA
    repeat' (first
 |refine aK fun K hK=>?_|refine Step.by1 ?_|refine sE (by decide) ?_|refine cz rfl ?_|refine Fork.by2 (fun h=>?_) fun h=>?_
 |(refine aR ?_;simp [vl, NetD.cells, AutoD.cells, hlt, hlt', ha])
 |(refine Split.by2 (fun h=>?_) (fun h=>?_)<;>(simp [h, vl, NetD.cells, AutoD.cells, hlt, hlt', ha]))
 |(apply hK;clear hK K)|refine AWh ‹_› ?_)
    refine AW_range (r := ra) a.locs 7 [1, 2, 4, 6] (fun c : Nat => []) (fun _ => [.var n.cells, .var [.int .i64 0, .int .i64 0, .int .i64 0]]) (fun i c => c = i) (firstAt (plW way)) 0
      hra rfl (by apply Weak.mk' <;> simp [vl, NetD.cells, AutoD.cells]) (fun _ _ _ => rfl) ?_ ?_
    · intro k q x _ hkt hx hJ hG
      subst hJ
      rw [firstAt_cons] at hG
      have hox := hl2 x (hx ▸ List.getElem_mem hkt)
      have hc0 := r_bad x.inv [] way (by have := hox.2.2.1; omega) (by simp)
      have hc := PCall.denil (args := [vl GuardD.cells x.inv, .nils, .int .i64 way]) hc0 rfl
      have hp : plW way x = if anyL (badG way) x.inv = true then way else 0 := rfl
      rw [show (anyL (badG way) x.inv || anyL (badS way) []) = anyL (badG way) x.inv by rw [anyL_nil, Bool.or_false]] at hc
      clear hc0
      have hkt' : (q : Int) < a.locs.length := by omega
      have w1 : IntKind.i64.wrap ((q : Int) + 1) = q + 1 := wI (by omega) (by omega)
      simp only [vl] at hc
      rw [hp] at hG
      clear hp
      cases hb : anyL (badG way) x.inv
      · rw [hb] at hc hG
        rw [if_neg (by simp)] at hG
        repeat' (first
 |refine aK fun K hK=>?_|refine Step.by1 ?_|refine sE (by decide) ?_|refine cz rfl ?_|refine Fork.by2 (fun h=>?_) fun h=>?_
 |((first|refine aR ?_|refine aC (f:=77) rfl rfl (hc) rfl rfl rfl ?_);simp [vl, NetD.cells, AutoD.cells, LocD.cells, hlt, hlt', ha, hkt, hkt', hx, w1])
 |(refine Split.by2 (fun h=>?_) (fun h=>?_)<;>(simp [h, vl, NetD.cells, AutoD.cells, LocD.cells, hlt, hlt', ha, hkt, hkt', hx, w1]))
 |(apply hK;clear hK K)|refine AWh ‹_› ?_)
        exact ⟨q + 1, hG, rfl, by apply Weak.mk' <;> simp [vl, NetD.cells, AutoD.cells]⟩
      · rw [hb] at hc hG
        rw [if_pos (by simpa using hway)] at hG
        subst hG
        simp only at hF
        repeat' (first
 |refine aK fun K hK=>?_|refine Step.by1 ?_|refine sE (by decide) ?_|refine cz rfl ?_|refine Fork.by2 (fun h=>?_) fun h=>?_
 |((first|refine aR ?_|refine aC (f:=77) rfl rfl (hc) rfl rfl rfl ?_);simp [vl, NetD.cells, AutoD.cells, LocD.cells, hlt, hlt', ha, hkt, hkt', hx, w1])
 |(refine Split.by2 (fun h=>?_) (fun h=>?_)<;>(simp [h, vl, NetD.cells, AutoD.cells, LocD.cells, hlt, hlt', ha, hkt, hkt', hx, w1]))
 |(apply hK;clear hK K)|refine AWh ‹_› ?_)
        exact retq2ct rfl (by simp) (cE (by rw [← hF]; simp [spotW, spotV, hway]) (by simp))
    · intro q hJ hG
      rw [firstAt_nil] at hG
      subst hG
      simp only at hF
      repeat' (first
 |refine aK fun K hK=>?_|refine Step.by1 ?_|refine sE (by decide) ?_|refine cz rfl ?_|refine Fork.by2 (fun h=>?_) fun h=>?_
 |(refine aR ?_;simp [vl, NetD.cells, AutoD.cells, hlt, hlt', ha])
 |(refine Split.by2 (fun h=>?_) (fun h=>?_)<;>(simp [h, vl, NetD.cells, AutoD.cells, hlt, hlt', ha]))
 |(apply hK;clear hK K)|refine AWh ‹_› ?_)
      refine AW_range (r := re) a.edges 8 [1, 2, 4, 6] (fun c : Nat => []) (fun _ => [.var n.cells, .var [.int .i64 0, .int .i64 0, .int .i64 0]]) (fun i c => c = i) (firstAt (peW way)) 0
        hre rfl (by apply Weak.mk' <;> simp [vl, NetD.cells, AutoD.cells]) (fun _ _ _ => rfl) ?_ ?_
      · intro k q2 y _ hkt hy hJ2 hG
        subst hJ2
        rw [firstAt_cons] at hG
        have hoy := he2 y (hy ▸ List.getElem_mem hkt)
        have hc := r_bad y.guards y.sets way (by have := hoy.2.2.1.1; omega) (by have := hoy.2.2.2.2.2.2.1; omega)
        have hp : peW way y = if (anyL (badG way) y.guards || anyL (badS way) y.sets) = true then way else 0 := rfl
        have hkt' : (q2 : Int) < a.edges.length := by omega
        have w1 : IntKind.i64.wrap ((q2 : Int) + 1) = q2 + 1 := wI (by omega) (by omega)
        simp only [vl] at hc
        rw [hp] at hG
        clear hp
        cases hb : (anyL (badG way) y.guards || anyL (badS way) y.sets)
        · rw [hb] at hc hG
          rw [if_neg (by simp)] at hG
          repeat' (first
 |refine aK fun K hK=>?_|refine Step.by1 ?_|refine sE (by decide) ?_|refine cz rfl ?_|refine Fork.by2 (fun h=>?_) fun h=>?_
 |((first|refine aR ?_|refine aX (id:=12) 22 mixed (by decide) ?_|refine aP1 (f:=77) rfl rfl (hc) rfl rfl rfl ?_);simp [vl, NetD.cells, AutoD.cells, EdgeD.cells, hlt, hlt', ha, hkt, hkt', hy, w1])
 |(refine Split.by2 (fun h=>?_) (fun h=>?_)<;>(simp [h, vl, NetD.cells, AutoD.cells, EdgeD.cells, hlt, hlt', ha, hkt, hkt', hy, w1]))
 |(apply hK;clear hK K)|refine AWh ‹_› ?_)
          exact ⟨q2 + 1, hG, rfl, by apply Weak.mk' <;> simp [vl, NetD.cells, AutoD.cells]⟩
        · rw [hb] at hc hG
          rw [if_pos (by simpa using hway)] at hG
          subst hG
          simp only at hF
          repeat' (first
 |refine aK fun K hK=>?_|refine Step.by1 ?_|refine sE (by decide) ?_|refine cz rfl ?_|refine Fork.by2 (fun h=>?_) fun h=>?_
 |((first|refine aR ?_|refine aX (id:=12) 22 mixed (by decide) ?_|refine aP1 (f:=77) rfl rfl (hc) rfl rfl rfl ?_);simp [vl, NetD.cells, AutoD.cells, EdgeD.cells, hlt, hlt', ha, hkt, hkt', hy, w1])
 |(refine Split.by2 (fun h=>?_) (fun h=>?_)<;>(simp [h, vl, NetD.cells, AutoD.cells, EdgeD.cells, hlt, hlt', ha, hkt, hkt', hy, w1]))
 |(apply hK;clear hK K)|refine AWh ‹_› ?_)
          exact retq2ct rfl (by simp) (cE (by rw [← hF]; simp [spotW, spotV, hway]) (by simp))
      · intro q2 hJ2 hG
        rw [firstAt_nil] at hG
        subst hG
        simp only at hF
        repeat' (first
 |refine aK fun K hK=>?_|refine Step.by1 ?_|refine sE (by decide) ?_|refine cz rfl ?_|refine Fork.by2 (fun h=>?_) fun h=>?_
 |(refine aR ?_;simp [vl, NetD.cells, AutoD.cells, hlt, hlt', ha, w0])
 |(refine Split.by2 (fun h=>?_) (fun h=>?_)<;>(simp [h, vl, NetD.cells, AutoD.cells, hlt, hlt', ha, w0]))
 |(apply hK;clear hK K)|refine AWh ‹_› ?_)
        exact ⟨c + 1, hF, rfl, by apply Weak.mk' <;> simp [vl, NetD.cells]⟩
  · intro c hJ hF
    rw [searchE_nil] at hF
    repeat' (first
 |refine aK fun K hK=>?_|refine Step.by1 ?_|refine sE (by decide) ?_|refine cz rfl ?_|refine Fork.by2 (fun h=>?_) fun h=>?_
 |(refine aR ?_;simp [vl, NetD.cells])
 |(refine Split.by2 (fun h=>?_) (fun h=>?_)<;>(simp [h, vl, NetD.cells]))
 |(apply hK;clear hK K)|refine AWh ‹_› ?_)
    exact retq2ct rfl (by simp) (cE (by rw [← hF]; simp [spotW, spotV]) (by simp))
/-- What the second answer of a search is. -/
theorem firstAt_val {α : Type} {f : α → Int} {w : Int} (hf : ∀ x, f x = w ∨ f x = 0) : ∀ {l : List α} {i k : Nat} {e : Int}, firstAt f l i = some (k, e) → e = w
  | [], i, k, e, h => by cases h
  | x :: r, i, k, e, h => by
    rw [firstAt_cons] at h
    split at h
    · rename_i h0
      cases h
      exact (hf x).resolve_right h0
    · exact firstAt_val hf h
theorem searchE_val {pl : LocD → Int} {pe : EdgeD → Int} {w : Int} (hl : ∀ x, pl x = w ∨ pl x = 0) (he : ∀ x, pe x = w ∨ pe x = 0) : ∀ {l : List AutoD} {i : Nat}, (searchE pl pe l i).2 ≠ 0 → (searchE pl pe l i).2 = w
  | [], i, h => absurd rfl h
  | a :: r, i, h => by
    rw [searchE_cons] at h ⊢
    unfold searchA at h ⊢
    cases h1 : firstAt pl a.locs 0 with
    | some p => exact firstAt_val hl (k := p.1) (e := p.2) h1
    | none =>
      rw [h1] at h
      cases h2 : firstAt pe a.edges 0 with
      | some p => exact firstAt_val he (k := p.1) (e := p.2) h2
      | none =>
        rw [h2] at h
        exact searchE_val hl he h
set_option maxRecDepth 20000 in
set_option maxHeartbeats 8000000 in
theorem r_Where (n : NetD) (hn : n.ok) : PC 13 [.agg n.cells] (spotE (whereE n)) := by
  have hW := r_Whole n hn
  have hS := r_where n hn 120 (by decide)
  have hT := r_where n hn 13 (by decide)
  have vS := searchE_val (pl := plW 120) (pe := peW 120) (w := 120) (fun x => by unfold plW; split <;> simp) (fun x => by unfold peW; split <;> simp) (l := n.autos) (i := 0)
  have vT := searchE_val (pl := plW 13) (pe := peW 13) (w := 13) (fun x => by unfold plW; split <;> simp) (fun x => by unfold peW; split <;> simp) (l := n.autos) (i := 0)
  rw [plW_120, peW_120] at hS vS
  rw [plW_13, peW_13] at hT vT
  have z0 : (searchE (fun l => greatE l.inv) edG n.autos 0).2 = 0 → searchE (fun l => greatE l.inv) edG n.autos 0 = ((0, 0, 0), 0) := by
    generalize n.autos = l
    generalize (0 : Nat) = i
    have hz : ∀ {α : Type} {f : α → Int} {l : List α} {i k : Nat} {e : Int}, firstAt f l i = some (k, e) → e ≠ 0 := by
      intro α f l
      induction l with
      | nil => intro i k e h; cases h
      | cons x r ih =>
        intro i k e h
        rw [firstAt_cons] at h
        split at h
        · rename_i h0; cases h; exact h0
        · exact ih h
    induction l generalizing i with
    | nil => intro _; rfl
    | cons a r ih =>
      intro h
      rw [searchE_cons] at h ⊢
      unfold searchA at h ⊢
      cases h1 : firstAt (fun l : LocD => greatE l.inv) a.locs 0 with
      | some p => rw [h1] at h; exact absurd h (hz (k := p.1) (e := p.2) h1)
      | none =>
        rw [h1] at h
        cases h2 : firstAt edG a.edges 0 with
        | some p => rw [h2] at h; exact absurd h (hz (k := p.1) (e := p.2) h2)
        | none => rw [h2] at h; exact ih _ h
  obtain ⟨r, hr⟩ : ∃ r, whereE n = r := ⟨_, rfl⟩
  rw [hr]
  unfold whereE at hr
  generalize wholeE n = w at *
  generalize searchE (fun l => diagE l.inv) (fun x => diagE x.guards) n.autos 0 = s at *
  generalize searchE (fun l => greatE l.inv) edG n.autos 0 = t at *
  obtain ⟨⟨s1, s2, s3⟩, s4⟩ := s
  obtain ⟨⟨t1, t2, t3⟩, t4⟩ := t
  simp only [vl, NetD.cells, spotW, spotV] at hW hS hT
  simp only at hr vS vT z0
  refine pB Tryz.func13 rfl (by decide) Tryz.ntmps13 (by simp) Tryz.results13 ?_
  by_cases hw : w = 0
  · subst hw
    rw [if_neg (by simp)] at hr
    by_cases hs : s4 = 0
    · subst hs
      rw [if_neg (by simp)] at hr
      subst hr
      by_cases ht : t4 = 0
      · have hz := z0 ht
        cases hz
        repeat' (first
 |refine aK fun K hK=>?_|refine Step.by1 ?_|refine sE (by decide) ?_|refine cz rfl ?_|refine Fork.by2 (fun h=>?_) fun h=>?_
 |((first|refine aR ?_|refine aC (f:=67) rfl rfl (hW) rfl rfl rfl ?_|refine aC (f:=68) rfl rfl (hS) rfl rfl rfl ?_|refine aC (f:=68) rfl rfl (hT) rfl rfl rfl ?_);simp [vl, NetD.cells])
 |(refine Split.by2 (fun h=>?_) (fun h=>?_)<;>(simp [h, vl, NetD.cells]))
 |(apply hK;clear hK K)|refine AWh ‹_› ?_)
        exact retq2ct rfl (by simp) (cE (by simp [spotE, spotV]) (by simp))
      · have ht' := vT ht
        subst ht'
        repeat' (first
 |refine aK fun K hK=>?_|refine Step.by1 ?_|refine sE (by decide) ?_|refine cz rfl ?_|refine Fork.by2 (fun h=>?_) fun h=>?_
 |((first|refine aR ?_|refine aC (f:=67) rfl rfl (hW) rfl rfl rfl ?_|refine aC (f:=68) rfl rfl (hS) rfl rfl rfl ?_|refine aC (f:=68) rfl rfl (hT) rfl rfl rfl ?_);simp [vl, NetD.cells])
 |(refine Split.by2 (fun h=>?_) (fun h=>?_)<;>(simp [h, vl, NetD.cells]))
 |(apply hK;clear hK K)|refine AWh ‹_› ?_)
        exact retq2ct rfl (by simp) (cE (by simp [spotE, spotV]) (by simp))
    · rw [if_pos hs] at hr
      subst hr
      have hs' := vS hs
      subst hs'
      repeat' (first
 |refine aK fun K hK=>?_|refine Step.by1 ?_|refine sE (by decide) ?_|refine cz rfl ?_|refine Fork.by2 (fun h=>?_) fun h=>?_
 |((first|refine aR ?_|refine aC (f:=67) rfl rfl (hW) rfl rfl rfl ?_|refine aC (f:=68) rfl rfl (hS) rfl rfl rfl ?_);simp [vl, NetD.cells, hs])
 |(refine Split.by2 (fun h=>?_) (fun h=>?_)<;>(simp [h, vl, NetD.cells, hs]))
 |(apply hK;clear hK K)|refine AWh ‹_› ?_)
      exact retq2ct rfl (by simp) (cE (by simp [spotE, spotV]) (by simp))
  · rw [if_pos hw] at hr
    subst hr
    repeat' (first
 |refine aK fun K hK=>?_|refine Step.by1 ?_|refine sE (by decide) ?_|refine cz rfl ?_|refine Fork.by2 (fun h=>?_) fun h=>?_
 |((first|refine aR ?_|refine aC (f:=67) rfl rfl (hW) rfl rfl rfl ?_);simp [vl, NetD.cells, hw])
 |(refine Split.by2 (fun h=>?_) (fun h=>?_)<;>(simp [h, vl, NetD.cells, hw]))
 |(apply hK;clear hK K)|refine AWh ‹_› ?_)
    exact retq2ct rfl (by simp) (cE (by simp [spotE, spotV]) (by simp))
theorem r_Net (n : NetD) (hn : n.ok) : PC 16 [.agg n.cells] (.int .i64 (netE n)) := by
  have hW := r_Where n hn
  unfold netE
  generalize whereE n = s at *
  obtain ⟨⟨s1, s2, s3⟩, s4⟩ := s
  simp only [vl, NetD.cells, spotE, spotV] at hW
  refine pB Tryz.func16 rfl (by decide) Tryz.ntmps16 (by simp) Tryz.results16 ?_
  repeat' (first
 |refine aK fun K hK=>?_|refine Step.by1 ?_|refine sE (by decide) ?_|refine cz rfl ?_|refine Fork.by2 (fun h=>?_) fun h=>?_
 |((first|refine aR ?_|refine aC (f:=13) rfl rfl (hW) rfl rfl rfl ?_);simp [vl, NetD.cells])
 |(refine Split.by2 (fun h=>?_) (fun h=>?_)<;>(simp [h, vl, NetD.cells]))
 |(apply hK;clear hK K)|refine AWh ‹_› ?_)
  exact r1q (cE rfl rfl)
theorem leaves_drop {h x : List B} : Go.AM.Leaves h (h ++ x) h := ⟨Nat.le_refl _, by simp, fun b y hy => .inr ⟨by
  rw [List.getElem?_append_left (List.getElem?_eq_some_iff.1 hy).1]; exact hy, .inl hy⟩⟩
def raise1 (so : Int → Bool) (o : List Int) (g : GuardD) : List Int :=
  if so g.cmp = true then o.set (g.clock - 1).toNat (if g.n > o.getD (g.clock - 1).toNat 0 then g.n else o.getD (g.clock - 1).toNat 0) else o
def raiseL (so : Int → Bool) (l : List GuardD) (o : List Int) : List Int := l.foldl (raise1 so) o
theorem raiseL_nil {so : Int → Bool} {o : List Int} : raiseL so [] o = o := rfl
theorem raiseL_cons {so : Int → Bool} {g : GuardD} {l : List GuardD} {o : List Int} : raiseL so (g :: l) o = raiseL so l (raise1 so o g) := rfl
theorem raise1_len {so : Int → Bool} {g : GuardD} {o : List Int} : (raise1 so o g).length = o.length := by unfold raise1; split <;> simp
theorem raiseL_len {so : Int → Bool} : ∀ {l : List GuardD} {o : List Int}, (raiseL so l o).length = o.length
  | [], o => rfl
  | g :: l, o => by rw [raiseL_cons, raiseL_len, raise1_len]
/-- A guard that is of the clocks. -/
def okG (N : Nat) (g : GuardD) : Prop := 1 ≤ g.clock ∧ g.clock ≤ N
theorem retg2c {P : Program} {st : St} {t u : Nat} {T : TypeId} {cs : List V} {off : Nat} {Q : V → List B → Prop} {h0 h' : List B} (hp : place st.h (lk st.tm t) = some (cs, off)) (ho : loadOk P T cs off) (hq : Q (.tup [loadV P T cs off, lk st.tm u]) h')
    (hv : (V.tup [loadV P T cs off, lk st.tm u]).lt h'.length = true) (hl : Go.AM.Leaves h0 st.h h') : RetG P #[.cell t T, .tmp u] Q h0 .ret st :=
  ⟨.inr rfl, _, h', ⟨[loadV P T cs off, lk st.tm u], rfl, ⟨cs, off, hp, ho, rfl⟩, rfl, trivial⟩, hq, hv, hl⟩
theorem raiseL_append {so : Int → Bool} {l l' : List GuardD} {o : List Int} : raiseL so (l ++ l') o = raiseL so l' (raiseL so l o) := by simp [raiseL]
def longP (p : PartD) : Bool := decide (16 < p.locs.length ∨ 16 < p.guards.length ∨ 64 < p.test.length)
def atB (n : NetD) (x : AtD) : Bool := decide (x.auto < 0 ∨ (n.autos.length : Int) ≤ x.auto ∨ x.loc < 0 ∨ ((n.autos.getD x.auto.toNat default).locs.length : Int) ≤ x.loc)
def g1E (p : PartD) : Int := if longP p = true then 6 else 0
def g2E (n : NetD) (p : PartD) : Int := if anyL (atB n) p.locs = true then 122 else 0
def goF (f : PartD → Int) : List PartD → Int
  | [] => 0
  | p :: r => if f p ≠ 0 then f p else goF f r
theorem goF_nil {f : PartD → Int} : goF f [] = 0 := rfl
theorem goF_cons {f : PartD → Int} {p : PartD} {r : List PartD} : goF f (p :: r) = if f p ≠ 0 then f p else goF f r := rfl
def wholeGoalE (n : NetD) (g : List PartD) : Int :=
  firstE [wholeE n, if 16 < g.length then 6 else 0, goF g1E g, goF (g2E n) g, goF (fun p => clkE n p.guards) g, goF (fun p => cmpE p.guards) g, goF (fun p => truthE n p.test) g]
def goalE (n : NetD) (g : List PartD) : Int := firstE [netE n, wholeGoalE n g, goF (fun p => diagE p.guards) g, goF (fun p => greatE p.guards) g]
def okGoal (g : List PartD) : Prop := g.length ≤ 1048576 ∧ ∀ p ∈ g, p.ok
theorem c_WG1 (p : PartD) : PC 145 [.agg p.cells] (.int .i64 (g1E p)) := by
  obtain ⟨r, hr⟩ : ∃ r, g1E p = r := ⟨_, rfl⟩
  rw [hr]
  unfold g1E longP at hr
  refine pB Tryz.func145 rfl (by decide) Tryz.ntmps145 (by simp) Tryz.results145 ?_
  repeat' (first
 |refine aK fun K hK=>?_|refine Step.by1 ?_|refine sE (by decide) ?_|refine cz rfl ?_|refine Fork.by2 (fun h=>?_) fun h=>?_
 |(refine aR ?_;simp [vl, PartD.cells])
 |(refine Split.by2 (fun h=>?_) (fun h=>?_)<;>(simp [h, vl, PartD.cells]))
 |(apply hK;clear hK K)|refine AWh ‹_› ?_)
  all_goals first
    | exact r1q (cE (by rw [← hr, if_pos (by simp; omega)]; rfl) rfl)
    | exact r1q (cE (by rw [← hr, if_neg (by simp; omega)]; rfl) rfl)
    | (exfalso; omega)
theorem c_WG4 (p : PartD) (hp : p.ok) : PC 149 [.agg p.cells] (.int .i64 (cmpE p.guards)) := by
  have hc := c_cmpE p.guards (by have := hp.2.1.1; omega)
  simp only [vl] at hc
  refine pB Tryz.func149 rfl (by decide) Tryz.ntmps149 (by simp) Tryz.results149 ?_
  repeat' (first
 |refine aK fun K hK=>?_|refine Step.by1 ?_|refine sE (by decide) ?_|refine cz rfl ?_|refine Fork.by2 (fun h=>?_) fun h=>?_
 |((first|refine aR ?_|refine aC (f:=150) rfl rfl (hc) rfl rfl rfl ?_);simp [vl, PartD.cells])
 |(refine Split.by2 (fun h=>?_) (fun h=>?_)<;>(simp [h, vl, PartD.cells]))
 |(apply hK;clear hK K)|refine AWh ‹_› ?_)
  exact r1q (cE rfl rfl)
theorem c_WG3 (n : NetD) (p : PartD) (hp : p.ok) (e : List B) : GCall Tryz.prog GV 147 [.agg p.cells, .ptr 0 0] (.var n.cells :: e) (fun v h' => v = .int .i64 (clkE n p.guards) ∧ h' = .var n.cells :: e) := by
  have hc := c_clkE n p.guards (by have := hp.2.1.1; omega)
  simp only [vl, NetD.cells] at hc
  generalize clkE n p.guards = k at *
  refine gB1 Tryz.func147 rfl (by decide) Tryz.ntmps147 (by simp) Tryz.results147 ?_
  repeat' (first
 |refine aK fun K hK=>?_|refine Step.by1 ?_|refine sE (by decide) ?_|refine cz rfl ?_|refine Fork.by2 (fun h=>?_) fun h=>?_
 |((first|refine aR ?_|refine aC (f:=148) rfl rfl (hc) rfl rfl rfl ?_);simp [vl, PartD.cells, NetD.cells])
 |(refine Split.by2 (fun h=>?_) (fun h=>?_)<;>(simp [h, vl, PartD.cells, NetD.cells]))
 |(apply hK;clear hK K)|refine AWh ‹_› ?_)
  exact retg1 (h' := .var n.cells :: e) ⟨rfl, rfl⟩ rfl (by simpa [NetD.cells, PartD.cells, vl] using leaves_drop (h := .var n.cells :: e) (x := [.var p.cells]))
theorem c_WG5 (n : NetD) (hn : n.ok) (p : PartD) (hp : p.ok) (e : List B) : GCall Tryz.prog GV 151 [.agg p.cells, .ptr 0 0] (.var n.cells :: e) (fun v h' => v = .int .i64 (truthE n p.test) ∧ h' = .var n.cells :: e) := by
  have hc := c_truth n p.test hp.2.2 hn.2.1.1
  simp only [vl, NetD.cells] at hc
  generalize truthE n p.test = k at *
  refine gB1 Tryz.func151 rfl (by decide) Tryz.ntmps151 (by simp) Tryz.results151 ?_
  repeat' (first
 |refine aK fun K hK=>?_|refine Step.by1 ?_|refine sE (by decide) ?_|refine cz rfl ?_|refine Fork.by2 (fun h=>?_) fun h=>?_
 |((first|refine aR ?_|refine aC (f:=152) rfl rfl (hc) rfl rfl rfl ?_);simp [vl, PartD.cells, NetD.cells])
 |(refine Split.by2 (fun h=>?_) (fun h=>?_)<;>(simp [h, vl, PartD.cells, NetD.cells]))
 |(apply hK;clear hK K)|refine AWh ‹_› ?_)
  exact retg1 (h' := .var n.cells :: e) ⟨rfl, rfl⟩ rfl (by simpa [NetD.cells, PartD.cells, vl] using leaves_drop (h := .var n.cells :: e) (x := [.var p.cells]))
set_option maxRecDepth 20000 in
set_option maxHeartbeats 8000000 in
theorem c_WG2 (n : NetD) (hn : n.ok) (p : PartD) (hp : p.ok) (e : List B) (hE : ∀ y ∈ e, y.lt (1 + e.length)) : GCall Tryz.prog GV 146 [.agg p.cells, .ptr 0 0] (.var n.cells :: e) (fun v h' => v = .int .i64 (g2E n p) ∧ h' = .var n.cells :: e) := by
  obtain ⟨r, hr⟩ : ∃ r, g2E n p = r := ⟨_, rfl⟩
  rw [hr]
  have hpl := hp.1.1
  have hnl := hn.2.2.2.1
  obtain ⟨E, hE'⟩ : ∃ E : List AtD → Int, E = fun l => if anyL (atB n) l = true then 122 else 0 := ⟨_, rfl⟩
  have hEc : ∀ a l, E (a :: l) = if atB n a = true then 122 else E l := fun a l => by subst hE'; by_cases h : atB n a = true <;> simp [anC, h]
  have hEn : E p.locs = r := by subst hE'; exact hr
  have hE0 : E [] = 0 := by subst hE'; rfl
  clear hr hE'
  have hlt1 : ∀ (y : B), y ∈ e ++ [B.var p.cells] → y.lt ([B.var n.cells] ++ (e ++ [B.var p.cells])).length := fun y hy => by
    rcases List.mem_append.1 hy with h | h
    · exact B.lt_mono (by simp; omega) (hE y h)
    · simp at h; subst h; simp [PartD.cells, vl]
  refine gB1 Tryz.func146 rfl (by decide) Tryz.ntmps146 (by simp) Tryz.results146 ?_
  repeat' (first
 |refine aK fun K hK=>?_|refine Step.by1 ?_|refine sE (by decide) ?_|refine cz rfl ?_|refine Fork.by2 (fun h=>?_) fun h=>?_
 |(refine aR ?_;simp [vl, PartD.cells, NetD.cells])
 |(refine Split.by2 (fun h=>?_) (fun h=>?_)<;>(simp [h, vl, PartD.cells, NetD.cells]))
 |(apply hK;clear hK K)|refine AWh ‹_› ?_)
  refine AW_range (r := r) p.locs 9 [1, 7, 8] (fun c : Unit => []) (fun _ => [.var n.cells] ++ (e ++ [.var p.cells])) (fun i c => True) (fun l _ => E l) ()
    hEn trivial (Weak.tail (x := []) (by simp [vl, NetD.cells, PartD.cells]) (by simp [vl]) (by simp [NetD.cells, vl]) hlt1) (fun _ _ _ => by simp) ?_ ?_
  · intro i c x _ hlt hx _ hF
    rw [hEc] at hF
    have hlt' : (i : Int) < p.locs.length := by omega
    have w1 : IntKind.i64.wrap ((i : Int) + 1) = i + 1 := wI (by omega) (by omega)
    have ha : atB n x = decide (x.auto < 0 ∨ (n.autos.length : Int) ≤ x.auto ∨ x.loc < 0 ∨ ((n.autos.getD x.auto.toNat default).locs.length : Int) ≤ x.loc) := rfl
    by_cases q : 0 ≤ x.auto ∧ x.auto < n.autos.length
    · obtain ⟨k, hk⟩ := Int.eq_ofNat_of_zero_le q.1
      have hkl : k < n.autos.length := by omega
      have hkl' : (k : Int) < n.autos.length := by omega
      obtain ⟨a, haa⟩ : ∃ a, n.autos[k] = a := ⟨_, rfl⟩
      have hg : n.autos.getD x.auto.toNat default = a := by rw [hk]; simp [List.getD, hkl, haa]
      rw [hg] at ha
      have hk0 : ¬ (k : Int) < 0 := by omega
      have hk1 : ¬ (n.autos.length : Int) ≤ k := by omega
      rw [hk] at ha
      repeat' (first
 |refine aK fun K hK=>?_|refine Step.by1 ?_|refine sE (by decide) ?_|refine cz rfl ?_|refine Fork.by2 (fun h=>?_) fun h=>?_
 |((first|refine aR ?_|refine aX (id:=4) 29 mixed (by decide) ?_);simp [vl, PartD.cells, NetD.cells, AtD.cells, AutoD.cells, hlt, hlt', hx, w1, hk, hkl, hkl', haa, hk0, hk1])
 |(refine Split.by2 (fun h=>?_) (fun h=>?_)<;>(simp [h, vl, PartD.cells, NetD.cells, AtD.cells, AutoD.cells, hlt, hlt', hx, w1, hk, hkl, hkl', haa, hk0, hk1]))
 |(apply hK;clear hK K)|refine AWh ‹_› ?_)
      all_goals first
        | (rw [if_pos (by rw [ha]; simp; omega)] at hF
           exact retg1 (h' := .var n.cells :: e) ⟨by rw [← hF]; rfl, rfl⟩ rfl (by simpa [NetD.cells, PartD.cells, AtD.cells, vl, hk] using leaves_drop (h := .var n.cells :: e) (x := [.var p.cells, .var x.cells])))
        | (rw [if_neg (by rw [ha]; simp; omega)] at hF
           refine ⟨hF, ?_⟩
           refine Weak.tail (a := [B.var n.cells]) (e := e ++ [.var p.cells]) (x := [B.var x.cells]) ?_ ?_ ?_ hlt1
           · simp [NetD.cells, PartD.cells, AtD.cells, vl, hk]
           · simp [vl]
           · simp [NetD.cells, vl])
    · rw [if_pos (by rw [ha]; simp; omega)] at hF
      repeat' (first
 |refine aK fun K hK=>?_|refine Step.by1 ?_|refine sE (by decide) ?_|refine cz rfl ?_|refine Fork.by2 (fun h=>?_) fun h=>?_
 |((first|refine aR ?_|refine aX (id:=4) 29 mixed (by decide) ?_);simp [vl, PartD.cells, NetD.cells, AtD.cells, hlt, hlt', hx, w1])
 |(refine Split.by2 (fun h=>?_) (fun h=>?_)<;>(simp [h, vl, PartD.cells, NetD.cells, AtD.cells, hlt, hlt', hx, w1]))
 |(apply hK;clear hK K)|refine AWh ‹_› ?_)
      all_goals first
        | (exfalso; omega)
        | exact retg1 (h' := .var n.cells :: e) ⟨by rw [← hF]; rfl, rfl⟩ rfl (by simpa [NetD.cells, PartD.cells, AtD.cells, vl] using leaves_drop (h := .var n.cells :: e) (x := [.var p.cells, .var x.cells]))
  · intro c _ hF
    repeat' (first
 |refine aK fun K hK=>?_|refine Step.by1 ?_|refine sE (by decide) ?_|refine cz rfl ?_|refine Fork.by2 (fun h=>?_) fun h=>?_
 |(refine aR ?_;simp [vl, PartD.cells, NetD.cells])
 |(refine Split.by2 (fun h=>?_) (fun h=>?_)<;>(simp [h, vl, PartD.cells, NetD.cells]))
 |(apply hK;clear hK K)|refine AWh ‹_› ?_)
    exact retg1 (h' := .var n.cells :: e) ⟨by rw [← hF, hE0]; rfl, rfl⟩ rfl (by simpa [NetD.cells, PartD.cells, vl] using leaves_drop (h := .var n.cells :: e) (x := [.var p.cells]))
end Go.Proofs.YtgmlimipejcpgaaGreatDoor
end
