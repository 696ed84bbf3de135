/-
  YtbgooadmonnjaaaGreatDoorRc33: steps of the proof of a law of the program: what these texts prove holds under the hypotheses that their theorems name, and no others.
-/
import Derived.Test.YtbgooadmonnjaaaGreatDoorRc32
import Derived.Test.YtbgooadmonnjaaaGreatDoorRc24
import Derived.Test.YtbgooadmonnjaaaGreatDoorRc31
section
set_option linter.unusedSimpArgs false
set_option linter.unusedVariables false
namespace Go.Proofs.YtbgooadmonnjaaaGreatDoor
open Go Go.AM Fx
set_option maxHeartbeats 4000000 in
theorem g_idxPart (h : List B) (hH : HL h) (k : Nat) (C : List V) (hC : V.lts h.length C = true) (p : PartD → Bool) (l : List PartD) (hl : l.length ≤ 1048576) (hf : ∀ x ∈ l, GCall Tryz.prog GV k (.agg x.cells :: C) h (fun v h' => v = .bool (p x) ∧ h' = h)) :
    GCall Tryz.prog GV 49 [vl PartD.cells l, .fn (.func k) [] C] h (fun v h' => v = .int .i64 (idxA p l 0) ∧ h' = h) := by
  obtain ⟨E, hE⟩ : ∃ E, idxA p l 0 = E := ⟨_, rfl⟩
  rw [hE]
  simp only [vl]
  refine gB1 Tryz.func49 rfl (by decide) Tryz.ntmps49 (by simp) Tryz.results49 ?_
  repeat' (first
 |refine aK fun K hK=>?_|refine Step.by1 ?_|refine sE (by decide) ?_|refine cz rfl ?_|refine Fork.by2 (fun h=>?_) fun h=>?_
 |(refine aR ?_;simp)
 |(refine Split.by2 (fun h=>?_) (fun h=>?_)<;>(simp [h]))
 |(apply hK;clear hK K)|refine AWh ‹_› ?_)
  refine AW_range (r := E) l 8 [0, 1, 7] (fun c : Nat => []) (fun _ => h) (fun i c => c = i) (idxA p) 0 hE rfl (Weak.sym (x := []) (by simp) hH (by simp [hC])) (fun _ _ _ => rfl) ?_ ?_
  · intro i c x _ hlt hx hJ hF
    subst hJ
    have hc := hf x (hx ▸ List.getElem_mem hlt)
    rw [idxA_cons] at hF
    have hlt' : (c : Int) < l.length := by omega
    have w1 : IntKind.i64.wrap ((c : Int) + 1) = c + 1 := wI (by omega) (by omega)
    have hln : x.cells.length = 3 := rfl
    have htk : List.take 3 x.cells = x.cells := List.take_of_length_le (by rw [hln]; decide)
    generalize p x = b at *
    cases b
    · rw [if_neg (by simp)] at hF
      repeat' (first
 |refine aK fun K hK=>?_|refine Step.by1 ?_|refine sE (by decide) ?_|refine cz rfl ?_|refine Fork.by2 (fun h=>?_) fun h=>?_
 |(refine aR ?_;simp [hlt, hlt', hx, w1, htk, hln])
 |(refine Split.by2 (fun h=>?_) (fun h=>?_)<;>(simp [h, hlt, hlt', hx, w1, htk, hln]))
 |(refine aG (f := k) rfl rfl (hc.imp (by simp) rfl) rfl (fun v h' hq => ?_); obtain ⟨rfl, rfl⟩ := hq; simp)
 |(apply hK;clear hK K)|refine AWh ‹_› ?_)
      exact ⟨c + 1, hF, rfl, Weak.sym (x := []) (by simp) hH (by simp [hC])⟩
    · rw [if_pos rfl] at hF
      repeat' (first
 |refine aK fun K hK=>?_|refine Step.by1 ?_|refine sE (by decide) ?_|refine cz rfl ?_|refine Fork.by2 (fun h=>?_) fun h=>?_
 |(refine aR ?_;simp [hlt, hlt', hx, w1, htk, hln])
 |(refine Split.by2 (fun h=>?_) (fun h=>?_)<;>(simp [h, hlt, hlt', hx, w1, htk, hln]))
 |(refine aG (f := k) rfl rfl (hc.imp (by simp) rfl) rfl (fun v h' hq => ?_); obtain ⟨rfl, rfl⟩ := hq; simp)
 |(apply hK;clear hK K)|refine AWh ‹_› ?_)
      exact retg1 ⟨by simp [← hF], rfl⟩ rfl leaves_same
  · intro c hJ hF
    rw [idxA_nil] at hF
    repeat' (first
 |refine aK fun K hK=>?_|refine Step.by1 ?_|refine sE (by decide) ?_|refine cz rfl ?_|refine Fork.by2 (fun h=>?_) fun h=>?_
 |(refine aR ?_;simp)
 |(refine Split.by2 (fun h=>?_) (fun h=>?_)<;>(simp [h]))
 |(apply hK;clear hK K)|refine AWh ‹_› ?_)
    exact retg1 ⟨by simp [← hF], rfl⟩ rfl leaves_same
set_option maxHeartbeats 4000000 in
theorem g_idxAt (h : List B) (hH : HL h) (k : Nat) (C : List V) (hC : V.lts h.length C = true) (p : AtD → Bool) (l : List AtD) (hl : l.length ≤ 1048576) (hf : ∀ x ∈ l, GCall Tryz.prog GV k (.agg x.cells :: C) h (fun v h' => v = .bool (p x) ∧ h' = h)) :
    GCall Tryz.prog GV 192 [vl AtD.cells l, .fn (.func k) [] C] h (fun v h' => v = .int .i64 (idxA p l 0) ∧ h' = h) := by
  obtain ⟨E, hE⟩ : ∃ E, idxA p l 0 = E := ⟨_, rfl⟩
  rw [hE]
  simp only [vl]
  refine gB1 Tryz.func192 rfl (by decide) Tryz.ntmps192 (by simp) Tryz.results192 ?_
  repeat' (first
 |refine aK fun K hK=>?_|refine Step.by1 ?_|refine sE (by decide) ?_|refine cz rfl ?_|refine Fork.by2 (fun h=>?_) fun h=>?_
 |(refine aR ?_;simp)
 |(refine Split.by2 (fun h=>?_) (fun h=>?_)<;>(simp [h]))
 |(apply hK;clear hK K)|refine AWh ‹_› ?_)
  refine AW_range (r := E) l 8 [0, 1, 7] (fun c : Nat => []) (fun _ => h) (fun i c => c = i) (idxA p) 0 hE rfl (Weak.sym (x := []) (by simp) hH (by simp [hC])) (fun _ _ _ => rfl) ?_ ?_
  · intro i c x _ hlt hx hJ hF
    subst hJ
    have hc := hf x (hx ▸ List.getElem_mem hlt)
    rw [idxA_cons] at hF
    have hlt' : (c : Int) < l.length := by omega
    have w1 : IntKind.i64.wrap ((c : Int) + 1) = c + 1 := wI (by omega) (by omega)
    have hln : x.cells.length = 2 := rfl
    have htk : List.take 2 x.cells = x.cells := List.take_of_length_le (by rw [hln]; decide)
    generalize p x = b at *
    cases b
    · rw [if_neg (by simp)] at hF
      repeat' (first
 |refine aK fun K hK=>?_|refine Step.by1 ?_|refine sE (by decide) ?_|refine cz rfl ?_|refine Fork.by2 (fun h=>?_) fun h=>?_
 |(refine aR ?_;simp [hlt, hlt', hx, w1, htk, hln])
 |(refine Split.by2 (fun h=>?_) (fun h=>?_)<;>(simp [h, hlt, hlt', hx, w1, htk, hln]))
 |(refine aG (f := k) rfl rfl (hc.imp (by simp) rfl) rfl (fun v h' hq => ?_); obtain ⟨rfl, rfl⟩ := hq; simp)
 |(apply hK;clear hK K)|refine AWh ‹_› ?_)
      exact ⟨c + 1, hF, rfl, Weak.sym (x := []) (by simp) hH (by simp [hC])⟩
    · rw [if_pos rfl] at hF
      repeat' (first
 |refine aK fun K hK=>?_|refine Step.by1 ?_|refine sE (by decide) ?_|refine cz rfl ?_|refine Fork.by2 (fun h=>?_) fun h=>?_
 |(refine aR ?_;simp [hlt, hlt', hx, w1, htk, hln])
 |(refine Split.by2 (fun h=>?_) (fun h=>?_)<;>(simp [h, hlt, hlt', hx, w1, htk, hln]))
 |(refine aG (f := k) rfl rfl (hc.imp (by simp) rfl) rfl (fun v h' hq => ?_); obtain ⟨rfl, rfl⟩ := hq; simp)
 |(apply hK;clear hK K)|refine AWh ‹_› ?_)
      exact retg1 ⟨by simp [← hF], rfl⟩ rfl leaves_same
  · intro c hJ hF
    rw [idxA_nil] at hF
    repeat' (first
 |refine aK fun K hK=>?_|refine Step.by1 ?_|refine sE (by decide) ?_|refine cz rfl ?_|refine Fork.by2 (fun h=>?_) fun h=>?_
 |(refine aR ?_;simp)
 |(refine Split.by2 (fun h=>?_) (fun h=>?_)<;>(simp [h]))
 |(apply hK;clear hK K)|refine AWh ‹_› ?_)
    exact retg1 ⟨by simp [← hF], rfl⟩ rfl leaves_same
theorem idxA_any {α : Type} {p : α → Bool} : ∀ {l : List α} {i : Nat}, decide (0 ≤ idxA p l i) = anyL p l
  | [], i => by simp [idxA, anyL]
  | x :: r, i => by
    rw [idxA_cons, anC, ← idxA_any (l := r) (i := i + 1)]
    cases p x <;> simp
theorem g_hasAt (h : List B) (hH : HL h) (k : Nat) (C : List V) (hC : V.lts h.length C = true) (p : AtD → Bool) (l : List AtD) (hl : l.length ≤ 1048576) (hf : ∀ x ∈ l, GCall Tryz.prog GV k (.agg x.cells :: C) h (fun v h' => v = .bool (p x) ∧ h' = h)) :
    GCall Tryz.prog GV 123 [vl AtD.cells l, .fn (.func k) [] C] h (fun v h' => v = .bool (anyL p l) ∧ h' = h) := by
  have h1 := g_idxAt h hH k C hC p l hl hf
  have e := idxA_any (p := p) (l := l) (i := 0)
  rw [← e]
  generalize idxA p l 0 = q at *
  simp only [vl] at h1 ⊢
  refine gB1 Tryz.func123 rfl (by decide) Tryz.ntmps123 (by simp) Tryz.results123 ?_
  repeat' (first
 |refine aK fun K hK=>?_|refine Step.by1 ?_|refine sE (by decide) ?_|refine cz rfl ?_|refine Fork.by2 (fun h=>?_) fun h=>?_
 |(refine aR ?_;simp)
 |(refine Split.by2 (fun h=>?_) (fun h=>?_)<;>(simp [h]))
 |(refine aG (f := 192) rfl rfl (h1.imp (by simp) rfl) rfl (fun v h' hq => ?_); obtain ⟨rfl, rfl⟩ := hq; simp)
 |(apply hK;clear hK K)|refine AWh ‹_› ?_)
  exact retg1 ⟨by simp, rfl⟩ rfl leaves_same
theorem g_away (c : CfgD) (hc : c.ok) (p : PartD) (a : AtD) (h0 : 0 ≤ a.auto) (h1 : a.auto < c.st.locs.length) : GCall Tryz.prog GV 121 [.agg a.cells, .ptr 0 0] [.var c.cells, .var p.cells] (fun v h' => v = .bool (awayL c.st a) ∧ h' = [.var c.cells, .var p.cells]) := by
  obtain ⟨i, hi⟩ : ∃ i : Nat, a.auto = i := ⟨a.auto.toNat, by omega⟩
  obtain ⟨au, al⟩ := a
  simp only at hi h0 h1
  subst hi
  have hil : i < c.st.locs.length := by omega
  obtain ⟨y, hy⟩ : ∃ y, c.st.locs[i] = y := ⟨_, rfl⟩
  have hiv : (ivs c.st.locs).length = c.st.locs.length := by simp [ivs]
  have hig : (ivs c.st.locs)[i]'(by omega) = [.int .i64 y] := by simp [ivs, hy]
  have e : awayL c.st ⟨i, al⟩ = !decide (y = al) := by simp [awayL, List.getD, List.getElem?_eq_getElem hil, hy]
  rw [e]
  have ccells : c.cells = [.vec (ivs c.st.locs) c.st.locs.length, .vec (ivs c.st.vars) c.st.vars.length, .vec (c.clocks.map RatD.cells) c.clocks.length] := rfl
  have pcells : p.cells = [.vec (p.locs.map AtD.cells) p.locs.length, .vec (p.guards.map GuardD.cells) p.guards.length, .vec (p.test.map NodeD.cells) p.test.length] := rfl
  simp only [AtD.cells, ccells, pcells]
  by_cases hb : y = al
  · refine gB1 Tryz.func121 rfl (by decide) Tryz.ntmps121 (by simp) Tryz.results121 ?_
    repeat' (first
 |refine aK fun K hK=>?_|refine Step.by1 ?_|refine sE (by decide) ?_|refine cz rfl ?_|refine Fork.by2 (fun h=>?_) fun h=>?_
 |((first|refine aR ?_|refine aX (id:=1) 10 mixed (by decide) ?_);simp [hil, h1, hiv, hig, hb])
 |(refine Split.by2 (fun h=>?_) (fun h=>?_)<;>(simp [h, hil, h1, hiv, hig, hb]))
 |(apply hK;clear hK K)|refine AWh ‹_› ?_)
    exact retg1 (h' := [.var c.cells, .var p.cells]) ⟨by simp [hb], by simp [ccells, pcells]⟩ (by simp) ⟨by simp, by simp, fun b x hx => by
      rcases b with _ | _ | b
      all_goals (simp [ccells, pcells] at hx; try (subst hx; simp))⟩
  · refine gB1 Tryz.func121 rfl (by decide) Tryz.ntmps121 (by simp) Tryz.results121 ?_
    repeat' (first
 |refine aK fun K hK=>?_|refine Step.by1 ?_|refine sE (by decide) ?_|refine cz rfl ?_|refine Fork.by2 (fun h=>?_) fun h=>?_
 |((first|refine aR ?_|refine aX (id:=1) 10 mixed (by decide) ?_);simp [hil, h1, hiv, hig, hb])
 |(refine Split.by2 (fun h=>?_) (fun h=>?_)<;>(simp [h, hil, h1, hiv, hig, hb]))
 |(apply hK;clear hK K)|refine AWh ‹_› ?_)
    exact retg1 (h' := [.var c.cells, .var p.cells]) ⟨by simp [hb], by simp [ccells, pcells]⟩ (by simp) ⟨by simp, by simp, fun b x hx => by
      rcases b with _ | _ | b
      all_goals (simp [ccells, pcells] at hx; try (subst hx; simp))⟩
theorem goal_ats {n : NetD} {g : List PartD} (h : goalE n g = 0) : ∀ p ∈ g, ∀ a ∈ p.locs, 0 ≤ a.auto ∧ a.auto < n.autos.length := by
  unfold goalE at h
  have h1 := (fZ (fZ h).2).1
  unfold wholeGoalE at h1
  have h2 := (fZ (fZ (fZ (fZ h1).2).2).2).1
  intro p hp a ha
  have h3 := goF_zero h2 p hp
  unfold g2E at h3
  by_cases hb : anyL (atB n) p.locs = true
  · rw [if_pos hb] at h3; cases h3
  · have := anyL_no hb a ha
    simp only [atB, decide_eq_false_iff_not] at this
    omega
set_option maxHeartbeats 4000000 in
theorem c_met (n : NetD) (hn : n.ok) (c : CfgD) (hc : c.ok) (hf : confB n c = true) (p : PartD) (hp : p.ok) (ha : ∀ a ∈ p.locs, 0 ≤ a.auto ∧ a.auto < n.autos.length) (hg : ∀ x ∈ p.guards, GuardR n.clocks.length x) : PC 51 [.agg c.cells, .agg p.cells] (.bool (metB c p)) := by
  obtain ⟨c1, c2, c3⟩ := conf_iff.1 hf
  obtain ⟨r1, r2, r3⟩ := right_at c1
  obtain ⟨w0, w1, w2⟩ := right_split c1
  have h1 := c_HoldsX p.test hp.2.2 c.st.vars hc.1.2 (vals_i64 hn w2)
  have h2 := c_ptHolds c.clocks hc.2 c3 p.guards (by have := hp.2.1.1; omega) (fun g h => by rw [c2]; exact hg g h)
  have h3 := g_hasAt [.var c.cells, .var p.cells] (by simp [HL, CfgD.cells, PartD.cells, vl]) 121 [.ptr 0 0] (by simp) (awayL c.st) p.locs hp.1.1 (fun a h => g_away c hc p a (ha a h).1 (by have := (ha a h).2; omega))
  have ccells : c.cells = [.vec (ivs c.st.locs) c.st.locs.length, .vec (ivs c.st.vars) c.st.vars.length, .vec (c.clocks.map RatD.cells) c.clocks.length] := rfl
  have pcells : p.cells = [.vec (p.locs.map AtD.cells) p.locs.length, .vec (p.guards.map GuardD.cells) p.guards.length, .vec (p.test.map NodeD.cells) p.test.length] := rfl
  have e : metB c p = ((!anyL (awayL c.st) p.locs && (decide ((holdsS p.test c.st.vars).2 = 0) && (holdsS p.test c.st.vars).1)) && !anyL (notG c.clocks) p.guards) := rfl
  rw [e]
  generalize anyL (awayL c.st) p.locs = x1 at *
  generalize anyL (notG c.clocks) p.guards = x2 at *
  generalize holdsS p.test c.st.vars = q at *
  obtain ⟨qb, qe⟩ := q
  simp only [vl, ccells, pcells] at h1 h2 h3 ⊢
  by_cases hq : qe = 0
  · subst hq
    cases x1 <;> cases qb
    all_goals
      refine pB Tryz.func51 rfl (by decide) Tryz.ntmps51 (by simp) Tryz.results51 ?_
      repeat' (first
 |refine aK fun K hK=>?_|refine Step.by1 ?_|refine sE (by decide) ?_|refine cz rfl ?_|refine Fork.by2 (fun h=>?_) fun h=>?_
 |((first|refine aR ?_|refine aC (f:=122) rfl rfl (h1) rfl rfl rfl ?_|refine aC (f:=64) rfl rfl (h2) rfl rfl rfl ?_);simp)
 |(refine Split.by2 (fun h=>?_) (fun h=>?_)<;>(simp [h]))
 |(refine aG (f := 123) rfl rfl (h3.imp (by simp) rfl) rfl (fun v h' hq => ?_); obtain ⟨rfl, rfl⟩ := hq; simp)
 |(apply hK;clear hK K)|refine AWh ‹_› ?_)
      exact r1q (cE (by simp) rfl)
  · cases x1
    all_goals
      refine pB Tryz.func51 rfl (by decide) Tryz.ntmps51 (by simp) Tryz.results51 ?_
      repeat' (first
 |refine aK fun K hK=>?_|refine Step.by1 ?_|refine sE (by decide) ?_|refine cz rfl ?_|refine Fork.by2 (fun h=>?_) fun h=>?_
 |((first|refine aR ?_|refine aC (f:=122) rfl rfl (h1) rfl rfl rfl ?_|refine aC (f:=64) rfl rfl (h2) rfl rfl rfl ?_);simp [hq])
 |(refine Split.by2 (fun h=>?_) (fun h=>?_)<;>(simp [h, hq]))
 |(refine aG (f := 123) rfl rfl (h3.imp (by simp) rfl) rfl (fun v h' hq => ?_); obtain ⟨rfl, rfl⟩ := hq; simp [hq])
 |(apply hK;clear hK K)|refine AWh ‹_› ?_)
      exact r1q (cE (by simp [hq]) rfl)
def fsM : List V := [.fn (.func 117) [] [.ptr 3 0], .fn (.func 124) [] [.ptr 7 0, .ptr 6 0], .fn (.func 48) [] [.ptr 0 0, .ptr 2 0]]
def MHp (n : NetD) (c : CfgD) (g : List PartD) : List B := [.var n.cells, .var c.cells, .var [vl PartD.cells g], .var n.cells, .var n.cells, .var c.cells, .var [.int .i64 130], .var [.fn (.func 118) [] [.ptr 4 0, .ptr 5 0]], rowF fsM]
theorem MHp_ok {n : NetD} {c : CfgD} {g : List PartD} : HL (MHp n c g) := by
  intro q hq
  have : (MHp n c g).length = 9 := rfl
  rw [this]
  simp only [MHp, rowF, fsM, List.mem_cons, List.not_mem_nil, or_false] at hq
  rcases hq with rfl | rfl | rfl | rfl | rfl | rfl | rfl | rfl | rfl
  all_goals (simp [NetD.cells, CfgD.cells, vl])
theorem g_Meets1 (n : NetD) (hn : n.ok) (c : CfgD) (g : List PartD) (hg : okGoal g) : GCall Tryz.prog GV 48 [.ptr 0 0, .ptr 2 0] (MHp n c g) (fun v h' => v = .int .i64 (goalE n g) ∧ h' = MHp n c g) := by
  have h1 := c_Goal n hn g hg
  have hcells : n.cells = [.vec (n.clocks.map fun x => [.str x]) n.clocks.length, .vec (n.vars.map VarD.cells) n.vars.length, .vec (n.chans.map fun x => [.str x]) n.chans.length, .vec (n.autos.map AutoD.cells) n.autos.length] := rfl
  simp only [hcells, vl] at h1
  refine gB1 Tryz.func48 rfl (by decide) Tryz.ntmps48 (by simp) Tryz.results48 ?_
  repeat' (first
 |refine aK fun K hK=>?_|refine Step.by1 ?_|refine sE (by decide) ?_|refine cz rfl ?_|refine Fork.by2 (fun h=>?_) fun h=>?_
 |((first|refine aR ?_|refine aC (f:=41) rfl rfl (h1) rfl rfl rfl ?_);simp [MHp, hcells, vl])
 |(refine Split.by2 (fun h=>?_) (fun h=>?_)<;>(simp [h, MHp, hcells, vl]))
 |(apply hK;clear hK K)|refine AWh ‹_› ?_)
  exact retg1 (h' := MHp n c g) ⟨rfl, by simp [MHp, hcells, vl]⟩ rfl (Go.AM.Leaves.sym (by simp [MHp]) MHp_ok)
theorem g_Meets2 (n : NetD) (hn : n.ok) (c : CfgD) (hc : c.ok) (hf : confB n c = true) (g : List PartD) (p : PartD) (hp : p.ok) (ha : ∀ a ∈ p.locs, 0 ≤ a.auto ∧ a.auto < n.autos.length) (hg : ∀ x ∈ p.guards, GuardR n.clocks.length x) : GCall Tryz.prog GV 50 [.agg p.cells, .ptr 1 0] (MHp n c g) (fun v h' => v = .bool (metB c p) ∧ h' = MHp n c g) := by
  have h1 := c_met n hn c hc hf p hp ha hg
  generalize metB c p = b at *
  have ccells : c.cells = [.vec (ivs c.st.locs) c.st.locs.length, .vec (ivs c.st.vars) c.st.vars.length, .vec (c.clocks.map RatD.cells) c.clocks.length] := rfl
  have pcells : p.cells = [.vec (p.locs.map AtD.cells) p.locs.length, .vec (p.guards.map GuardD.cells) p.guards.length, .vec (p.test.map NodeD.cells) p.test.length] := rfl
  simp only [ccells, pcells] at h1 ⊢
  refine gB1 Tryz.func50 rfl (by decide) Tryz.ntmps50 (by simp) Tryz.results50 ?_
  repeat' (first
 |refine aK fun K hK=>?_|refine Step.by1 ?_|refine sE (by decide) ?_|refine cz rfl ?_|refine Fork.by2 (fun h=>?_) fun h=>?_
 |((first|refine aR ?_|refine aC (f:=51) rfl rfl (h1) rfl rfl rfl ?_);simp [MHp, ccells])
 |(refine Split.by2 (fun h=>?_) (fun h=>?_)<;>(simp [h, MHp, ccells]))
 |(apply hK;clear hK K)|refine AWh ‹_› ?_)
  refine retg1 (h' := MHp n c g) ⟨rfl, rfl⟩ rfl ⟨by simp [MHp], by simp [MHp], fun b x hx => .inr ⟨?_, .inl hx⟩⟩
  have hb := (List.getElem?_eq_some_iff.1 hx).1
  have : ∀ z, (MHp n c g ++ [z])[b]? = some x := fun z => by rw [List.getElem?_append_left hb]; exact hx
  exact this _
theorem meets_chain (n : NetD) (hn : n.ok) (c : CfgD) (hc : c.ok) (g : List PartD) (hg : okGoal g) : Chain 8 (rowF fsM) fsM (MHp n c g) (meetsS n c g).1 (MHp n c g) := by
  have hH0 : HL (MHp n c g) := MHp_ok
  have a1 : Callee (.fn (.func 117) [] [.ptr 3 0]) (MHp n c g) (netE n) (MHp n c g) := ⟨_, _, rfl, g_right1 _ n hn 3 rfl⟩
  have a2 : Callee (.fn (.func 124) [] [.ptr 7 0, .ptr 6 0]) (MHp n c g) (if confB n c = true then 0 else 130) (MHp n c g) := ⟨_, _, rfl, g_other1 _ 7 6 _ _ 130 (confB n c) rfl rfl (g_conf1 _ n hn c hc 4 5 rfl rfl)⟩
  have a3 : Callee (.fn (.func 48) [] [.ptr 0 0, .ptr 2 0]) (MHp n c g) (goalE n g) (MHp n c g) := ⟨_, _, rfl, g_Meets1 n hn c g hg⟩
  unfold meetsS
  by_cases e1 : netE n = 0
  rotate_left
  · rw [if_pos e1]
    exact .stop a1 e1 rfl hH0
  rw [if_neg (by simp [e1])]
  rw [e1] at a1
  cases e2 : confB n c
  · rw [if_pos rfl]
    rw [e2] at a2
    exact .go _ a1 rfl hH0 rfl (.stop a2 (by simp) rfl hH0)
  rw [if_neg (by simp)]
  rw [e2] at a2
  by_cases e3 : goalE n g = 0
  rotate_left
  · rw [if_pos e3]
    exact .go _ a1 rfl hH0 rfl (.go _ a2 rfl hH0 rfl (.stop a3 e3 rfl hH0))
  rw [if_neg (by simp [e3])]
  rw [e3] at a3
  exact .go _ a1 rfl hH0 rfl (.go _ a2 rfl hH0 rfl (.go _ a3 rfl hH0 rfl .nil))
theorem meets_ok {n : NetD} {c : CfgD} {g : List PartD} (h : (meetsS n c g).1 = 0) : netE n = 0 ∧ confB n c = true ∧ goalE n g = 0 ∧ (meetsS n c g).2 = idxA (metB c) g 0 := by
  unfold meetsS at h ⊢
  split at h
  · rename_i q; exact absurd h q
  · rename_i q1
    rw [if_neg q1]
    split at h
    · cases h
    · rename_i q2
      rw [if_neg q2]
      split at h
      · rename_i q; exact absurd h q
      · rename_i q3
        rw [if_neg q3]
        exact ⟨by simpa using q1, by simpa using q2, by simpa using q3, rfl⟩
theorem meets_err {n : NetD} {c : CfgD} {g : List PartD} (h : (meetsS n c g).1 ≠ 0) : (meetsS n c g).2 = 0 := by
  unfold meetsS at h ⊢
  split
  · rfl
  · rename_i q1
    rw [if_neg q1] at h
    split
    · rfl
    · rename_i q2
      rw [if_neg q2] at h
      split
      · rfl
      · rename_i q3
        rw [if_neg q3] at h; exact absurd rfl h
set_option maxRecDepth 40000 in
set_option maxHeartbeats 16000000 in
theorem c_Meets (n : NetD) (hn : n.ok) (c : CfgD) (hc : c.ok) (g : List PartD) (hg : okGoal g) : PC 20 [.agg n.cells, .agg c.cells, vl PartD.cells g] (.tup [.int .i64 (meetsS n c g).2, .int .i64 (meetsS n c g).1]) := by
  have hch := meets_chain n hn c hc g hg
  have hidx : (meetsS n c g).1 = 0 → GCall Tryz.prog GV 49 [vl PartD.cells g, .fn (.func 50) [] [.ptr 1 0]] (MHp n c g) (fun v h' => v = .int .i64 (meetsS n c g).2 ∧ h' = MHp n c g) := fun h => by
    obtain ⟨k1, k2, k3, k4⟩ := meets_ok h
    rw [k4]
    exact g_idxPart (MHp n c g) MHp_ok 50 [.ptr 1 0] (by simp [MHp]) (metB c) g hg.1 (fun p hp => g_Meets2 n hn c hc k2 g p (hg.2 p hp) (goal_ats k3 p hp) (goal_guardR k3 p hp))
  have herr := fun h => meets_err (n := n) (c := c) (g := g) h
  have hcells : n.cells = [.vec (n.clocks.map fun x => [.str x]) n.clocks.length, .vec (n.vars.map VarD.cells) n.vars.length, .vec (n.chans.map fun x => [.str x]) n.chans.length, .vec (n.autos.map AutoD.cells) n.autos.length] := rfl
  have ccells : c.cells = [.vec (ivs c.st.locs) c.st.locs.length, .vec (ivs c.st.vars) c.st.vars.length, .vec (c.clocks.map RatD.cells) c.clocks.length] := rfl
  generalize meetsS n c g = w at *
  simp only [hcells, ccells, vl]
  refine pB Tryz.func20 rfl (by decide) Tryz.ntmps20 (by simp) Tryz.results20 ?_
  repeat' (first
 |refine aK fun K hK=>?_|refine Step.by1 ?_|refine sE (by decide) ?_|refine cz rfl ?_|refine Fork.by2 (fun h=>?_) fun h=>?_
 |(refine aR ?_;simp)
 |(refine Split.by2 (fun h=>?_) (fun h=>?_)<;>(simp [h]))
 |(apply hK;clear hK K)|refine AWh ‹_› ?_)
  have hrest : ∀ st' : St, st'.n = 23 → st'.h = MHp n c g → lk st'.tm 4 = .ptr 1 0 → lk st'.tm 5 = .ptr 2 0 → lk st'.tm 8 = .int .i64 w.1 → K st' := by
    rintro ⟨sn, tm, H⟩ hsn hH u1 u2 u3
    refine hK _ ?_
    simp only at hsn hH u1 u2 u3
    subst hsn; subst hH
    refine AW.weak (st' := ⟨23, [(4, .ptr 1 0), (5, .ptr 2 0), (8, .int .i64 w.1)], MHp n c g⟩) (Weak.sym (x := []) (by simp) MHp_ok (by simp [u1, u2, u3, MHp])) rfl ?_
    clear hK u1 u2 u3 hch
    by_cases hw0 : w.1 = 0
    · have hi := hidx hw0
      simp only [vl] at hi
      repeat' (first
 |refine aK fun K hK=>?_|refine Step.by1 ?_|refine sE (by decide) ?_|refine cz rfl ?_|refine Fork.by2 (fun h=>?_) fun h=>?_
 |(refine aR ?_;simp [MHp, hw0, vl])
 |(refine Split.by2 (fun h=>?_) (fun h=>?_)<;>(simp [h, MHp, hw0, vl]))
 |(refine aG (f := 49) rfl rfl (hi.imp (by simp) (by simp [MHp, vl])) rfl (fun v h' hq => ?_); obtain ⟨rfl, rfl⟩ := hq; simp)
 |(apply hK;clear hK K)|refine AWh ‹_› ?_)
      exact retq2 (cE (by simp [hw0]) (by simp))
    · have := herr hw0
      repeat' (first
 |refine aK fun K hK=>?_|refine Step.by1 ?_|refine sE (by decide) ?_|refine cz rfl ?_|refine Fork.by2 (fun h=>?_) fun h=>?_
 |(refine aR ?_;simp [MHp, hw0])
 |(refine Split.by2 (fun h=>?_) (fun h=>?_)<;>(simp [h, MHp, hw0]))
 |(apply hK;clear hK K)|refine AWh ‹_› ?_)
      exact retq2 (cE (by simp [this]) (by simp))
  refine AW_region_chain 8 9 [0, 2, 3, 5] (fun H => H[0]? = some (.var [.vec (n.clocks.map fun x => [.str x]) n.clocks.length, .vec (n.vars.map VarD.cells) n.vars.length, .vec (n.chans.map fun x => [.str x]) n.chans.length, .vec (n.autos.map AutoD.cells) n.autos.length]) ∧ H[1]? = some (.var [.vec (ivs c.st.locs) c.st.locs.length, .vec (ivs c.st.vars) c.st.vars.length, .vec (c.clocks.map RatD.cells) c.clocks.length])) mixed (by decide) (by decide) rfl ⟨rfl, rfl⟩ ?_
  simp only [List.take_succ_cons, List.take_zero]
  refine PX_op (v := .agg n.cells) rfl rfl rfl rfl (fun H hs => by simp [hs.1, hcells]) ?_
  refine PX_skip rfl ?_
  refine PX_op (v := .agg n.cells) rfl rfl rfl rfl (fun H hs => by simp [hs.1, hcells]) ?_
  refine PX_op (v := .agg c.cells) rfl rfl rfl rfl (fun H hs => by simp [hs.2, ccells]) ?_
  refine PX_skip rfl ?_
  refine PX_op (v := .fn (.func 48) [] [.ptr 0 0, .ptr 2 0]) rfl rfl rfl rfl (fun H hs => by simp) ?_
  refine PX_skip rfl ?_
  refine PX_skip rfl ?_
  refine PX_nil ?_
  simp
  refine Ch_1 1 (by decide) (by decide) ?_
  refine ChS_callG (f := 46) rfl rfl rfl rfl (g_right _ (by simp [HL]) n) ?_
  rintro _ _ ⟨rfl, rfl⟩
  refine ⟨⟨rfl, rfl⟩, ?_⟩
  simp
  refine Ch_1 4 (by decide) (by decide) ?_
  refine ChS_callG (f := 47) rfl rfl rfl rfl (g_conf _ (by simp [HL, hcells]) n c) ?_
  rintro _ _ ⟨rfl, rfl⟩
  refine ⟨⟨rfl, rfl⟩, ?_⟩
  simp
  refine Ch_1 6 (by decide) (by decide) ?_
  refine ChS_op rfl rfl rfl rfl (by simp) rfl ⟨rfl, rfl⟩ ?_
  simp
  refine Ch_1 7 (by decide) (by decide) ?_
  refine ChS_callG (f := 45) rfl rfl rfl rfl ((g_first 8 fsM (MHp n c g) (MHp n c g) w.1 MHp_ok rfl (by decide) hch).imp rfl (by simp [MHp, fsM, rowF, hcells, ccells, vl])) ?_
  rintro _ _ ⟨rfl, rfl⟩
  refine ⟨⟨rfl, rfl⟩, ?_⟩
  simp
  refine Ch_end (by decide) ?_
  refine AS_of_AO ?_
  simp
  exact hrest _ rfl rfl rfl rfl rfl
theorem noC_ok : noC.ok := ⟨⟨by simp [noC], by simp [noC]⟩, by simp [noC], fun r hr => by simp [noC] at hr⟩
theorem wait_ok {n : NetD} {c : CfgD} (hc : c.ok) {d : RatD} (hd : d.ok) : (waitS n c d).2.ok := by
  by_cases h : (waitS n c d).1 = 0
  · have w := wait_iff.1 h
    rw [wait_val w]
    have := CfgD.add_ok hc (conf_iff.1 w.conf).2.2 (laps_delay w.laps).1 w.add
    rw [addF_map w.add] at this
    exact this
  · rw [wait_err h]; exact noC_ok
theorem do_ok {n : NetD} {c : CfgD} (hc : c.ok) {m : MoveD} : (doS n c m).2.ok := by
  by_cases h : (doS n c m).1 = 0
  · have w := do_iff.1 h
    rw [do_val w]
    obtain ⟨c1, c2, c3⟩ := conf_iff.1 w.conf
    exact ⟨pass_ok hc.1 c1, by simp only [setC_len]; exact hc.2.1, set_mem (resets_R w.net) hc.2.2⟩
  · rw [do_err h]; exact noC_ok
theorem firstS_ok {n : NetD} (hn : n.ok) : (firstS n).2.ok := by
  by_cases h : (firstS n).1 = 0
  · unfold firstS at h ⊢
    split
    · rename_i q; rw [if_pos q] at h; exact absurd h q
    · rename_i q
      rw [if_neg q] at h
      split
      · exact first_ok hn
      · rename_i q2; rw [if_neg q2] at h; cases h
  · rw [first_err h]; exact noC_ok
noncomputable def allA (n : NetD) (last : RatD) (l : List StepD) (a : Nat × Nat × CfgD × List CfgD) : Int × Nat × List CfgD := allF n last l a.1 a.2.2.1 a.2.2.2
def allV (E : Int × Nat × List CfgD) : V := .tup [if E.1 = 0 then vl CfgD.cells E.2.2 else .nils, .int .i64 E.1, .int .i64 E.2.1]
theorem all_len {n : NetD} {last : RatD} : ∀ {l : List StepD} {i : Nat} {c : CfgD} {a : List CfgD}, (allF n last l i c a).1 = 0 → (allF n last l i c a).2.1 = 0 ∧ (allF n last l i c a).2.2.length = a.length + 2 * l.length + 1
  | [], i, c, a, h => by
    unfold allF at h ⊢
    split
    · rename_i q; rw [if_pos q] at h; exact absurd h q
    · simp
  | s :: r, i, c, a, h => by
    unfold allF at h ⊢
    split
    · rename_i q; rw [if_pos q] at h; exact absurd h q
    · rename_i q
      rw [if_neg q] at h
      split
      · rename_i q2; rw [if_pos q2] at h; exact absurd h q2
      · rename_i q2
        rw [if_neg q2] at h
        obtain ⟨h1, h2⟩ := all_len h
        refine ⟨h1, h2.trans ?_⟩
        simp
        omega
theorem all_ok {n : NetD} {last : RatD} (hl : last.ok) : ∀ {l : List StepD} {i : Nat} {c : CfgD} {a : List CfgD}, (∀ s ∈ l, s.ok) → c.ok → (∀ x ∈ a, x.ok) → ∀ x ∈ (allF n last l i c a).2.2, x.ok
  | [], i, c, a, hs, hc, ha => by
    unfold allF
    split
    · intro x hx; cases hx
    · intro x hx
      rcases List.mem_append.1 hx with hx | hx
      · exact ha x hx
      · rw [List.mem_singleton.1 hx]; exact wait_ok hc hl
  | s :: r, i, c, a, hs, hc, ha => by
    unfold allF
    have hso := hs s (List.mem_cons_self ..)
    have hw : (waitS n c s.delay).2.ok := wait_ok hc hso.1
    split
    · intro x hx; cases hx
    · split
      · intro x hx; cases hx
      · refine all_ok hl (fun y hy => hs y (List.mem_cons_of_mem _ hy)) (do_ok hw) fun x hx => ?_
        rcases List.mem_append.1 hx with hx | hx
        · exact ha x hx
        · simp at hx
          rcases hx with rfl | rfl
          · exact hw
          · exact do_ok hw
set_option maxRecDepth 40000 in
set_option maxHeartbeats 16000000 in
theorem c_All1 (n : NetD) (hn : n.ok) (r : RunD) (hr : r.ok) : PC 15 [.agg n.cells, .agg r.cells] (allV (allS n r)) := by
  have h1 := c_First n hn
  have hfo := firstS_ok hn
  obtain ⟨E, hE⟩ : ∃ E, allS n r = E := ⟨_, rfl⟩
  rw [hE]
  unfold allS at hE
  generalize firstS n = w0 at *
  obtain ⟨we, wc⟩ := w0
  simp only at hE h1 hfo
  have hcells : n.cells = [.vec (n.clocks.map fun x => [.str x]) n.clocks.length, .vec (n.vars.map VarD.cells) n.vars.length, .vec (n.chans.map fun x => [.str x]) n.chans.length, .vec (n.autos.map AutoD.cells) n.autos.length] := rfl
  have rcells : r.cells = [.vec (r.steps.map StepD.cells) r.steps.length, .int .i64 r.last.num, .int .i64 r.last.den] := rfl
  have ccl : ∀ c : CfgD, c.cells = [.vec (ivs c.st.locs) c.st.locs.length, .vec (ivs c.st.vars) c.st.vars.length, .vec (c.clocks.map RatD.cells) c.clocks.length] := fun _ => rfl
  have hsl := hr.1.1
  by_cases hw0 : we = 0
  rotate_left
  · rw [if_pos hw0] at hE
    subst hE
    simp only [hcells, rcells, ccl] at h1 ⊢
    refine pB Tryz.func15 rfl (by decide) Tryz.ntmps15 (by simp) Tryz.results15 ?_
    repeat' (first
 |refine aK fun K hK=>?_|refine Step.by1 ?_|refine sE (by decide) ?_|refine cz rfl ?_|refine Fork.by2 (fun h=>?_) fun h=>?_
 |((first|refine aR ?_|refine aC (f:=25) rfl rfl (h1) rfl rfl rfl ?_);simp [hw0])
 |(refine Split.by2 (fun h=>?_) (fun h=>?_)<;>(simp [h, hw0]))
 |(apply hK;clear hK K)|refine AWh ‹_› ?_)
    exact retq3 (cE (by simp [allV, hw0]) (by simp))
  · subst hw0
    rw [if_neg (by simp)] at hE
    have hcl : ∀ c : CfgD, c.cells.length = 3 := fun _ => rfl
    simp only [hcells, rcells, ccl] at h1 ⊢
    refine pB Tryz.func15 rfl (by decide) Tryz.ntmps15 (by simp) Tryz.results15 ?_
    repeat' (first
 |refine aK fun K hK=>?_|refine Step.by1 ?_|refine sE (by decide) ?_|refine cz rfl ?_|refine Fork.by2 (fun h=>?_) fun h=>?_
 |((first|refine aR ?_|refine aC (f:=25) rfl rfl (h1) rfl rfl rfl ?_);simp [hcl])
 |(refine Split.by2 (fun h=>?_) (fun h=>?_)<;>(simp [h, hcl]))
 |(apply hK;clear hK K)|refine AWh ‹_› ?_)
    refine AW_range r.steps 25 [2, 3, 7, 23, 24] (fun a : Nat × Nat × CfgD × List CfgD => [(9, .ref 3 a.2.1 0 a.2.2.2.length)]) (fun a => [.var n.cells, .var r.cells, .var a.2.2.1.cells, .row 67 a.2.1 0 true (a.2.2.2.map CfgD.cells)]) (fun i a => a.1 = i ∧ a.2.2.1.ok ∧ a.2.2.2.length = 2 * i + 1) (allA n r.last) (0, 0, wc, [wc]) (r := E) hE ⟨rfl, hfo, rfl⟩ (by apply Weak.mk' <;> simp [hcells, rcells, ccl]) (fun _ _ _ => rfl) ?_ ?_
    · rintro i ⟨k, g, c, l⟩ ⟨sd, sm⟩ hx? hlt hx ⟨hJ1, hJ2, hJ3⟩ hF
      simp only at hJ1 hJ2 hJ3
      subst hJ1
      replace hF : allF n r.last (⟨sd, sm⟩ :: r.steps.drop (k + 1)) k c l = E := hF
      have hmem : (⟨sd, sm⟩ : StepD) ∈ r.steps := by rw [← hx]; exact List.getElem_mem hlt
      have hso := hr.1.2 ⟨sd, sm⟩ hmem
      have hlt' : (k : Int) < r.steps.length := by omega
      have w1 : IntKind.i64.wrap ((k : Int) + 1) = k + 1 := wI (by omega) (by omega)
      have by0 : l.length + 2 ≤ 3000000 := by omega
      have by1 : (l.length + 1) * 72 ≤ 140737488355328 := Nat.le_trans (Nat.mul_le_mul_right 72 (Nat.le_trans (by omega) by0)) (by decide)
      have by2 : (l.length + 1 + 1) * 72 ≤ 140737488355328 := Nat.le_trans (Nat.mul_le_mul_right 72 by0) (by decide)
      have h2 := c_Wait n hn c hJ2 sd hso.1
      have hwo := wait_ok (n := n) hJ2 hso.1
      unfold allF at hF
      simp only at hF hwo h2
      generalize waitS n c sd = w at *
      obtain ⟨e1, c1⟩ := w
      simp only at hF hwo h2
      by_cases he1 : e1 = 0
      · subst he1
        rw [if_neg (by simp)] at hF
        have h3 := c_Do n hn c1 hwo sm
        have hdo := do_ok (n := n) hwo (m := sm)
        generalize doS n c1 sm = w at *
        obtain ⟨e2, c2⟩ := w
        simp only at hF hdo h3
        by_cases he2 : e2 = 0
        · subst he2
          rw [if_neg (by simp)] at hF
          simp only [hcells, ccl, RatD.cells, MoveD.cells] at h2 h3
          repeat' (first
 |refine aK fun K hK=>?_|refine Step.by1 ?_|refine sE (by decide) ?_|refine cz rfl ?_|refine Fork.by2 (fun h=>?_) fun h=>?_
 |((first|refine aR ?_|refine aC (f:=21) rfl rfl (h2) rfl rfl rfl ?_|refine aC (f:=24) rfl rfl (h3) rfl rfl rfl ?_);simp [hlt, hlt', hx, StepD.cells, RatD.cells, MoveD.cells, hcells, rcells, ccl, hcl, w1, by1, by2])
 |(refine Split.by2 (fun h=>?_) (fun h=>?_)<;>(simp [h, hlt, hlt', hx, StepD.cells, RatD.cells, MoveD.cells, hcells, rcells, ccl, hcl, w1, by1, by2]))
 |(apply hK;clear hK K)|refine AWh ‹_› ?_)
          refine ⟨k + 1, g + 2, c2, l ++ [c1, c2], hF, ⟨rfl, hdo, by clear by1 by2; simp; omega⟩, ?_⟩
          clear by1 by2
          apply Weak.mk' <;> simp [hcells, rcells, ccl]
        · rw [if_pos he2] at hF
          subst hF
          simp only [hcells, ccl, RatD.cells, MoveD.cells] at h2 h3
          repeat' (first
 |refine aK fun K hK=>?_|refine Step.by1 ?_|refine sE (by decide) ?_|refine cz rfl ?_|refine Fork.by2 (fun h=>?_) fun h=>?_
 |((first|refine aR ?_|refine aC (f:=21) rfl rfl (h2) rfl rfl rfl ?_|refine aC (f:=24) rfl rfl (h3) rfl rfl rfl ?_);simp [hlt, hlt', hx, StepD.cells, RatD.cells, MoveD.cells, hcells, rcells, ccl, hcl, w1, by1, by2, he2])
 |(refine Split.by2 (fun h=>?_) (fun h=>?_)<;>(simp [h, hlt, hlt', hx, StepD.cells, RatD.cells, MoveD.cells, hcells, rcells, ccl, hcl, w1, by1, by2, he2]))
 |(apply hK;clear hK K)|refine AWh ‹_› ?_)
          exact retq3 (cE (by simp [allV, he2]) (by simp))
      · rw [if_pos he1] at hF
        subst hF
        simp only [hcells, ccl, RatD.cells] at h2
        repeat' (first
 |refine aK fun K hK=>?_|refine Step.by1 ?_|refine sE (by decide) ?_|refine cz rfl ?_|refine Fork.by2 (fun h=>?_) fun h=>?_
 |((first|refine aR ?_|refine aC (f:=21) rfl rfl (h2) rfl rfl rfl ?_);simp [hlt, hlt', hx, StepD.cells, RatD.cells, MoveD.cells, hcells, rcells, ccl, hcl, w1, he1])
 |(refine Split.by2 (fun h=>?_) (fun h=>?_)<;>(simp [h, hlt, hlt', hx, StepD.cells, RatD.cells, MoveD.cells, hcells, rcells, ccl, hcl, w1, he1]))
 |(apply hK;clear hK K)|refine AWh ‹_› ?_)
        exact retq3 (cE (by simp [allV, he1]) (by simp))
    · rintro ⟨k, g, c, l⟩ ⟨hJ1, hJ2, hJ3⟩ hF
      simp only at hJ1 hJ2 hJ3
      subst hJ1
      replace hF : allF n r.last [] r.steps.length c l = E := hF
      have h2 := c_Wait n hn c hJ2 r.last hr.2
      have by1 : (l.length + 1) * 72 ≤ 140737488355328 := by omega
      unfold allF at hF
      generalize waitS n c r.last = w at *
      obtain ⟨e1, c1⟩ := w
      simp only at hF h2
      simp only [hcells, ccl, RatD.cells] at h2
      by_cases he1 : e1 = 0
      · subst he1
        rw [if_neg (by simp)] at hF
        subst hF
        repeat' (first
 |refine aK fun K hK=>?_|refine Step.by1 ?_|refine sE (by decide) ?_|refine cz rfl ?_|refine Fork.by2 (fun h=>?_) fun h=>?_
 |((first|refine aR ?_|refine aC (f:=21) rfl rfl (h2) rfl rfl rfl ?_);simp [hcells, rcells, ccl, hcl, by1])
 |(refine Split.by2 (fun h=>?_) (fun h=>?_)<;>(simp [h, hcells, rcells, ccl, hcl, by1]))
 |(apply hK;clear hK K)|refine AWh ‹_› ?_)
        refine retq3 (.inl ⟨3, ?_, rfl⟩)
        simp [frz, allV, vl, Go.AM.V.isF, ccl]
      · rw [if_pos he1] at hF
        subst hF
        repeat' (first
 |refine aK fun K hK=>?_|refine Step.by1 ?_|refine sE (by decide) ?_|refine cz rfl ?_|refine Fork.by2 (fun h=>?_) fun h=>?_
 |((first|refine aR ?_|refine aC (f:=21) rfl rfl (h2) rfl rfl rfl ?_|refine aX (id:=19) 7 mixed (by decide) ?_);simp [hcells, rcells, ccl, hcl, he1])
 |(refine Split.by2 (fun h=>?_) (fun h=>?_)<;>(simp [h, hcells, rcells, ccl, hcl, he1]))
 |(apply hK;clear hK K)|refine AWh ‹_› ?_)
        exact retq3 (cE (by simp [allV, he1]) (by simp))
theorem allS_len {n : NetD} {r : RunD} (h : (allS n r).1 = 0) : (allS n r).2.1 = 0 ∧ (allS n r).2.2.length = 2 * r.steps.length + 2 := by
  unfold allS at h ⊢
  split
  · rename_i q; rw [if_pos q] at h; exact absurd h q
  · rename_i q
    rw [if_neg q] at h
    obtain ⟨h1, h2⟩ := all_len h
    exact ⟨h1, by rw [h2]; simp; omega⟩
theorem allS_ok {n : NetD} (hn : n.ok) {r : RunD} (hr : r.ok) : ∀ x ∈ (allS n r).2.2, x.ok := by
  unfold allS
  split
  · intro x hx; cases hx
  · exact all_ok hr.2 hr.1.2 (firstS_ok hn) (fun x hx => by rw [List.mem_singleton.1 hx]; exact firstS_ok hn)
theorem allS_err {n : NetD} {r : RunD} (h : (allS n r).1 ≠ 0) : (allS n r).2.2 = [] := by
  have key : ∀ (last : RatD) (l : List StepD) (i : Nat) (c : CfgD) (a : List CfgD), (allF n last l i c a).1 ≠ 0 → (allF n last l i c a).2.2 = [] := by
    intro last l
    induction l with
    | nil =>
      intro i c a h
      unfold allF at h ⊢
      split
      · rfl
      · rename_i q; rw [if_neg q] at h; exact absurd rfl h
    | cons s r ih =>
      intro i c a h
      unfold allF at h ⊢
      split
      · rfl
      · rename_i q
        rw [if_neg q] at h
        split
        · rfl
        · rename_i q2
          rw [if_neg q2] at h
          exact ih _ _ _ h
  unfold allS at h ⊢
  split
  · rfl
  · rename_i q
    rw [if_neg q] at h
    exact key _ _ _ _ _ h
theorem c_All (n : NetD) (hn : n.ok) (r : RunD) (hr : r.ok) : PC 15 [.agg n.cells, .agg r.cells] (.tup [vl CfgD.cells (allS n r).2.2, .int .i64 (allS n r).1, .int .i64 (allS n r).2.1]) := by
  have h1 := c_All1 n hn r hr
  by_cases h : (allS n r).1 = 0
  · rw [allV, if_pos h] at h1; exact h1
  · rw [allV, if_neg h] at h1
    rw [allS_err h]
    exact h1.dnt (by simp [V.isOwn]) (by simp [V.dns, V.dn, vl]) (by simp [V.isOwn, vl])
set_option maxHeartbeats 8000000 in
theorem c_Check (n : NetD) (hn : n.ok) (r : RunD) (hr : r.ok) (g : List PartD) (hg : okGoal g) : PC 13 [.agg n.cells, .agg r.cells, vl PartD.cells g] (.tup [.int .i64 (checkS n r g).1, .int .i64 (checkS n r g).2]) := by
  have h1 := c_Goal n hn g hg
  have h2 := c_All n hn r hr
  have hln := fun h => allS_len (n := n) (r := r) h
  have hok := allS_ok hn hr
  obtain ⟨E, hE⟩ : ∃ E, checkS n r g = E := ⟨_, rfl⟩
  rw [hE]
  unfold checkS at hE
  have hcells : n.cells = [.vec (n.clocks.map fun x => [.str x]) n.clocks.length, .vec (n.vars.map VarD.cells) n.vars.length, .vec (n.chans.map fun x => [.str x]) n.chans.length, .vec (n.autos.map AutoD.cells) n.autos.length] := rfl
  have rcells : r.cells = [.vec (r.steps.map StepD.cells) r.steps.length, .int .i64 r.last.num, .int .i64 r.last.den] := rfl
  have ccl : ∀ c : CfgD, c.cells = [.vec (ivs c.st.locs) c.st.locs.length, .vec (ivs c.st.vars) c.st.vars.length, .vec (c.clocks.map RatD.cells) c.clocks.length] := fun _ => rfl
  have hsl := hr.1.1
  by_cases hg0 : goalE n g = 0
  rotate_left
  · rw [if_pos hg0] at hE
    subst hE
    generalize goalE n g = q at *
    simp only [hcells, rcells, vl] at h1 ⊢
    refine pB Tryz.func13 rfl (by decide) Tryz.ntmps13 (by simp) Tryz.results13 ?_
    repeat' (first
 |refine aK fun K hK=>?_|refine Step.by1 ?_|refine sE (by decide) ?_|refine cz rfl ?_|refine Fork.by2 (fun h=>?_) fun h=>?_
 |((first|refine aR ?_|refine aC (f:=41) rfl rfl (h1) rfl rfl rfl ?_);simp [hg0])
 |(refine Split.by2 (fun h=>?_) (fun h=>?_)<;>(simp [h, hg0]))
 |(apply hK;clear hK K)|refine AWh ‹_› ?_)
    exact retq2 (cE (by simp) (by simp))
  rw [if_neg (by simp [hg0])] at hE
  rw [hg0] at h1
  generalize allS n r = w at *
  obtain ⟨we, wk, wl⟩ := w
  simp only at hE h2 hln hok
  by_cases hw0 : we = 0
  rotate_left
  · rw [if_pos hw0] at hE
    subst hE
    simp only [hcells, rcells, vl] at h1 h2 ⊢
    refine pB Tryz.func13 rfl (by decide) Tryz.ntmps13 (by simp) Tryz.results13 ?_
    repeat' (first
 |refine aK fun K hK=>?_|refine Step.by1 ?_|refine sE (by decide) ?_|refine cz rfl ?_|refine Fork.by2 (fun h=>?_) fun h=>?_
 |((first|refine aR ?_|refine aC (f:=41) rfl rfl (h1) rfl rfl rfl ?_|refine aC (f:=15) rfl rfl (h2) rfl rfl rfl ?_);simp [hw0])
 |(refine Split.by2 (fun h=>?_) (fun h=>?_)<;>(simp [h, hw0]))
 |(apply hK;clear hK K)|refine AWh ‹_› ?_)
    exact retq2 (cE (by simp) (by simp))
  subst hw0
  rw [if_neg (by simp)] at hE
  obtain ⟨_, hln⟩ := hln rfl
  have hpos : 2 * r.steps.length + 1 < wl.length := by omega
  have hpos' : ((2 * r.steps.length + 1 : Nat) : Int) < wl.length := by omega
  obtain ⟨c, hc⟩ : ∃ c, wl[2 * r.steps.length + 1] = c := ⟨_, rfl⟩
  have hlast : wl.getLastD noC = c := by
    have hne : wl ≠ [] := fun h => by rw [h] at hpos; simp at hpos
    rw [List.getLastD_eq_getLast?, List.getLast?_eq_getElem?]
    have : wl.length - 1 = 2 * r.steps.length + 1 := by omega
    rw [this, List.getElem?_eq_getElem hpos, hc]; rfl
  rw [hlast] at hE
  have h3 := c_Meets n hn c (hok c (hc ▸ List.getElem_mem hpos)) g hg
  have wm : IntKind.i64.wrap ((wl.length : Int) - 1) = ((2 * r.steps.length + 1 : Nat) : Int) := by rw [wI (by omega) (by omega)]; omega
  generalize hkk : 2 * r.steps.length + 1 = kk at *
  generalize meetsS n c g = w at *
  obtain ⟨me, mi⟩ := w
  simp only [hcells, rcells, ccl, vl] at h1 h2 h3 hE ⊢
  clear hln
  by_cases hbad : me ≠ 0 ∨ mi < 0
  · rw [if_pos hbad] at hE
    subst hE
    by_cases hm0 : me = 0
    · have hmi : mi < 0 := by rcases hbad with h | h; exact absurd hm0 h; exact h
      refine pB Tryz.func13 rfl (by decide) Tryz.ntmps13 (by simp) Tryz.results13 ?_
      repeat' (first
 |refine aK fun K hK=>?_|refine Step.by1 ?_|refine sE (by decide) ?_|refine cz rfl ?_|refine Fork.by2 (fun h=>?_) fun h=>?_
 |((first|refine aR ?_|refine aC (f:=41) rfl rfl (h1) rfl rfl rfl ?_|refine aC (f:=15) rfl rfl (h2) rfl rfl rfl ?_|refine aX (id:=7) 13 mixed (by decide) ?_|refine aP1 (f:=20) rfl rfl (h3) rfl rfl rfl ?_|refine aX (id:=9) 5 mixed (by decide) ?_|refine aX (id:=10) 5 mixed (by decide) ?_);simp [hm0, hmi, wm, hpos, hpos', hc, ccl, vl])
 |(refine Split.by2 (fun h=>?_) (fun h=>?_)<;>(simp [h, hm0, hmi, wm, hpos, hpos', hc, ccl, vl]))
 |(apply hK;clear hK K)|refine AWh ‹_› ?_)
      exact retq2 (cE (by simp) (by simp))
    · refine pB Tryz.func13 rfl (by decide) Tryz.ntmps13 (by simp) Tryz.results13 ?_
      repeat' (first
 |refine aK fun K hK=>?_|refine Step.by1 ?_|refine sE (by decide) ?_|refine cz rfl ?_|refine Fork.by2 (fun h=>?_) fun h=>?_
 |((first|refine aR ?_|refine aC (f:=41) rfl rfl (h1) rfl rfl rfl ?_|refine aC (f:=15) rfl rfl (h2) rfl rfl rfl ?_|refine aX (id:=7) 13 mixed (by decide) ?_|refine aP1 (f:=20) rfl rfl (h3) rfl rfl rfl ?_|refine aX (id:=9) 5 mixed (by decide) ?_|refine aX (id:=10) 5 mixed (by decide) ?_);simp [hm0, wm, hpos, hpos', hc, ccl, vl])
 |(refine Split.by2 (fun h=>?_) (fun h=>?_)<;>(simp [h, hm0, wm, hpos, hpos', hc, ccl, vl]))
 |(apply hK;clear hK K)|refine AWh ‹_› ?_)
      exact retq2 (cE (by simp) (by simp))
  · rw [if_neg hbad] at hE
    subst hE
    have hm0 : me = 0 := by
      rcases Classical.em (me = 0) with h | h
      · exact h
      · exact absurd (.inl h) hbad
    have hmi : ¬ mi < 0 := fun h => hbad (.inr h)
    refine pB Tryz.func13 rfl (by decide) Tryz.ntmps13 (by simp) Tryz.results13 ?_
    repeat' (first
 |refine aK fun K hK=>?_|refine Step.by1 ?_|refine sE (by decide) ?_|refine cz rfl ?_|refine Fork.by2 (fun h=>?_) fun h=>?_
 |((first|refine aR ?_|refine aC (f:=41) rfl rfl (h1) rfl rfl rfl ?_|refine aC (f:=15) rfl rfl (h2) rfl rfl rfl ?_|refine aX (id:=7) 13 mixed (by decide) ?_|refine aP1 (f:=20) rfl rfl (h3) rfl rfl rfl ?_|refine aX (id:=9) 5 mixed (by decide) ?_|refine aX (id:=10) 5 mixed (by decide) ?_);simp [hm0, hmi, wm, hpos, hpos', hc, ccl, vl])
 |(refine Split.by2 (fun h=>?_) (fun h=>?_)<;>(simp [h, hm0, hmi, wm, hpos, hpos', hc, ccl, vl]))
 |(apply hK;clear hK K)|refine AWh ‹_› ?_)
    exact retq2 (cE (by simp) (by simp))
end Go.Proofs.YtbgooadmonnjaaaGreatDoor
end
