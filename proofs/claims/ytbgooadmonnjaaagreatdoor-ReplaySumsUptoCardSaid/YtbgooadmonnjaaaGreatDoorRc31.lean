/-
  YtbgooadmonnjaaaGreatDoorRc31: steps of the proof of a law of the program: what these texts prove holds under the hypotheses that their theorems name, and no others.
-/
import Derived.Test.YtbgooadmonnjaaaGreatDoorRc30
import Derived.Test.YtbgooadmonnjaaaGreatDoorRc25
import Derived.Test.YtbgooadmonnjaaaGreatDoorRc29
section
set_option linter.unusedSimpArgs false
set_option linter.unusedVariables false
namespace Go.Proofs.YtbgooadmonnjaaaGreatDoor
open Go Go.AM Fx
theorem c_Guards1 (e : EdgeD) : PC 133 [.agg e.cells] (vl GuardD.cells e.guards) := by
  simp only [EdgeD.cells, vl]
  refine pB Tryz.func133 rfl (by decide) Tryz.ntmps133 (by simp) Tryz.results133 ?_
  repeat' (first
 |refine aK fun K hK=>?_|refine Step.by1 ?_|refine sE (by decide) ?_|refine cz rfl ?_|refine Fork.by2 (fun h=>?_) fun h=>?_
 |(refine aR ?_;simp)
 |(refine Split.by2 (fun h=>?_) (fun h=>?_)<;>(simp [h]))
 |(apply hK;clear hK K)|refine AWh ‹_› ?_)
  exact r1q (cE rfl rfl)
def filA (l : List SetD) (c : Nat × List SetD) : List SetD := c.2 ++ l.filter clkP
theorem filA_nil {c : Nat × List SetD} : filA [] c = c.2 := by simp [filA]
theorem filA_cons (g : Nat) {x : SetD} {l : List SetD} {c : Nat × List SetD} : filA (x :: l) c = if x.clock = 0 then filA l c else filA l (g, c.2 ++ [x]) := by
  unfold filA
  by_cases h : x.clock = 0
  · have : clkP x = false := by simp [clkP, h]
    rw [if_pos h, List.filter_cons, this]; simp
  · have : clkP x = true := by simp [clkP, h]
    rw [if_neg h, List.filter_cons, this]; simp
set_option maxHeartbeats 8000000 in
theorem c_Resets1 (e : EdgeD) (he : e.sets.length ≤ 1048576) : PC 140 [.agg e.cells] (vl SetD.cells (e.sets.filter clkP)) := by
  obtain ⟨E, hE⟩ : ∃ E, e.sets.filter clkP = E := ⟨_, rfl⟩
  rw [hE]
  have ec : e.cells = [.int .i64 e.frm, .int .i64 e.to, .vec (e.guards.map GuardD.cells) e.guards.length, .vec (e.test.map NodeD.cells) e.test.length, .int .i64 e.chan, .bool e.send, .vec (e.sets.map SetD.cells) e.sets.length] := rfl
  simp only [vl]
  refine pB Tryz.func140 rfl (by decide) Tryz.ntmps140 (by simp) Tryz.results140 ?_
  repeat' (first
 |refine AW_nilrow 3 143 rfl (by simp) ?_
 |refine aK fun K hK=>?_|refine Step.by1 ?_|refine sE (by decide) ?_|refine cz rfl ?_|refine Fork.by2 (fun h=>?_) fun h=>?_
 |(refine aR ?_;simp [ec])
 |(refine Split.by2 (fun h=>?_) (fun h=>?_)<;>(simp [h, ec]))
 |(apply hK;clear hK K)|refine AWh ‹_› ?_)
  refine AW_range e.sets 9 [7, 8] (fun c : Nat × List SetD => [(3, .ref 1 c.1 0 c.2.length)]) (fun c => [.var e.cells, .row 143 c.1 0 true (c.2.map SetD.cells)]) (fun i c => c.2.length ≤ i) filA (0, []) (r := E) (by simp [filA, hE]) (by simp) (by apply Weak.mk' <;> simp [ec]) (fun _ _ _ => rfl) ?_ ?_
  · rintro i ⟨g, out⟩ x _ hlt hx hJ hF
    simp only at hJ
    have hlt' : (i : Int) < e.sets.length := by omega
    have w1 : IntKind.i64.wrap ((i : Int) + 1) = i + 1 := wI (by omega) (by omega)
    have hby : (out.length + 1) * 48 ≤ 140737488355328 := by omega
    rw [filA_cons (g + 1)] at hF
    by_cases h0 : x.clock = 0
    · rw [if_pos h0] at hF
      repeat' (first
 |refine aK fun K hK=>?_|refine Step.by1 ?_|refine sE (by decide) ?_|refine cz rfl ?_|refine Fork.by2 (fun h=>?_) fun h=>?_
 |(refine aR ?_;simp [ec, hlt, hlt', hx, SetD.cells, vl, w1, h0])
 |(refine Split.by2 (fun h=>?_) (fun h=>?_)<;>(simp [h, ec, hlt, hlt', hx, SetD.cells, vl, w1, h0]))
 |(apply hK;clear hK K)|refine AWh ‹_› ?_)
      exact ⟨g, out, hF, by (try simp); omega, by apply Weak.mk' <;> simp [ec]⟩
    · rw [if_neg h0] at hF
      repeat' (first
 |refine aK fun K hK=>?_|refine Step.by1 ?_|refine sE (by decide) ?_|refine cz rfl ?_|refine Fork.by2 (fun h=>?_) fun h=>?_
 |(refine aR ?_;simp [ec, hlt, hlt', hx, SetD.cells, vl, w1, h0, hby])
 |(refine Split.by2 (fun h=>?_) (fun h=>?_)<;>(simp [h, ec, hlt, hlt', hx, SetD.cells, vl, w1, h0, hby]))
 |(apply hK;clear hK K)|refine AWh ‹_› ?_)
      exact ⟨g + 1, out ++ [x], hF, by (try simp); omega, by apply Weak.mk' <;> simp [ec, SetD.cells, vl]⟩
  · rintro ⟨g, out⟩ hJ hF
    rw [filA_nil] at hF
    simp only at hF
    subst hF
    repeat' (first
 |refine aK fun K hK=>?_|refine Step.by1 ?_|refine sE (by decide) ?_|refine cz rfl ?_|refine Fork.by2 (fun h=>?_) fun h=>?_
 |(refine aR ?_;simp [ec])
 |(refine Split.by2 (fun h=>?_) (fun h=>?_)<;>(simp [h, ec]))
 |(apply hK;clear hK K)|refine AWh ‹_› ?_)
    exact r1q (.inl ⟨2, by simp [Go.AM.frz], rfl⟩)
/-- Of a move of the network, its edges' data. -/
theorem mov_ok {n : NetD} (hn : n.ok) {m : MoveD} {L : List (Int × EdgeD)} (h : movL n m = some L) : ∀ p ∈ L, p.2.ok := fun p hp => by
  obtain ⟨i, A, _, e2, e3⟩ := (movL_at h).2 p hp
  exact (hn.2.2.2.2 A (List.mem_of_getElem? e2)).2.2.2 p.2 e3
theorem catP_len {α β : Type} {f : α → List β} {k : Nat} : ∀ {l : List α}, (∀ x ∈ l, (f x).length ≤ k) → (l.flatMap f).length ≤ l.length * k
  | [], _ => by simp
  | x :: l, h => by
    have h1 := h x (List.mem_cons_self ..)
    have h2 := catP_len (l := l) fun y hy => h y (List.mem_cons_of_mem _ hy)
    rw [List.flatMap_cons, List.length_append, List.length_cons, Nat.add_mul]
    omega
def ofGuards (p : Int × EdgeD) : List GuardD := p.2.guards
set_option maxHeartbeats 8000000 in
theorem c_gathGuards (n : NetD) (hn : n.ok) (hw : wholeE n = 0) (m : MoveD) (L : List (Int × EdgeD)) (hm : movL n m = some L) : PC 132 [.agg n.cells, .agg m.cells, .fn (.func 133) [] []] (.tup [vl GuardD.cells (L.flatMap ofGuards), .int .i64 0]) := by
  have h1 := c_netRight n hn
  rw [decide_eq_true hw] at h1
  have h2 := c_sidesL hm
  have hL2 := (movL_at hm).1
  have hok := mov_ok hn hm
  obtain ⟨E, hE⟩ : ∃ E, L.flatMap ofGuards = E := ⟨_, rfl⟩
  rw [hE]
  have hcells : n.cells = [.vec (n.clocks.map fun x => [.str x]) n.clocks.length, .vec (n.vars.map VarD.cells) n.vars.length, .vec (n.chans.map fun x => [.str x]) n.chans.length, .vec (n.autos.map AutoD.cells) n.autos.length] := rfl
  have mcells : m.cells = [.int .i64 m.auto, .int .i64 m.edge, .int .i64 m.wth, .int .i64 m.take] := rfl
  simp only [hcells, mcells, vl] at h1 h2 ⊢
  refine pB Tryz.func132 rfl (by decide) Tryz.ntmps132 (by simp) Tryz.results132 ?_
  repeat' (first
 |refine AW_nilrow 10 154 rfl (by simp) ?_
 |refine aK fun K hK=>?_|refine Step.by1 ?_|refine sE (by decide) ?_|refine cz rfl ?_|refine Fork.by2 (fun h=>?_) fun h=>?_
 |((first|refine aR ?_|refine aC (f:=137) rfl rfl (h1) rfl rfl rfl ?_|refine aC (f:=195) rfl rfl (h2) rfl rfl rfl ?_);simp)
 |(refine Split.by2 (fun h=>?_) (fun h=>?_)<;>(simp [h]))
 |(apply hK;clear hK K)|refine AWh ‹_› ?_)
  refine AW_range L 26 [2, 24, 25] (fun c : Nat × List GuardD => [(10, .ref 2 c.1 0 c.2.length)]) (fun c => [.var n.cells, .var m.cells, .row 154 c.1 0 true (c.2.map GuardD.cells)]) (fun i c => c.2.length ≤ i * 1048576) (catF ofGuards) (0, []) (r := E) (by simp [catF, hE]) (by simp) (by apply Weak.mk' <;> simp [hcells, mcells]) (fun _ _ _ => rfl) ?_ ?_
  · rintro i ⟨g, out⟩ ⟨a, e⟩ _ hlt hx hJ hF
    have heo := hok _ (hx ▸ List.getElem_mem hlt)
    simp only at heo
    have hc := c_Guards1 e
    rw [catF_cons (g + 1)] at hF
    simp only at hJ hF
    have hof : ofGuards (a, e) = e.guards := rfl
    rw [hof] at hF
    have hln : (e.guards).length ≤ 1048576 := heo.2.2.1.1
    obtain ⟨ef, et, eg, ex, ec, es, el⟩ := e
    simp only [EdgeD.cells, vl] at hc hln hF
    have hx' : L[i] = (a, EdgeD.mk ef et eg ex ec es el) := hx
    generalize eg = z at *
    have hlt' : (i : Int) < L.length := by omega
    have w1 : IntKind.i64.wrap ((i : Int) + 1) = i + 1 := wI (by omega) (by omega)
    have htk : (z.map GuardD.cells).take z.length = z.map GuardD.cells := List.take_of_length_le (by simp)
    have hby : (out.length + z.length) * 32 ≤ 140737488355328 := by omega
    have hlg : ∀ z : GuardD, z.cells.length = 4 := fun _ => rfl
    repeat' (first
 |refine aK fun K hK=>?_|refine Step.by1 ?_|refine sE (by decide) ?_|refine cz rfl ?_|refine Fork.by2 (fun h=>?_) fun h=>?_
 |((first|refine aR ?_|refine aC (f:=133) rfl rfl (hc) rfl rfl rfl ?_);simp [hlt, hlt', hx', sideP, sideC, EdgeD.cells, vl, htk, hby, hlg, w1, hcells, mcells])
 |(refine Split.by2 (fun h=>?_) (fun h=>?_)<;>(simp [h, hlt, hlt', hx', sideP, sideC, EdgeD.cells, vl, htk, hby, hlg, w1, hcells, mcells]))
 |(apply hK;clear hK K)|refine AWh ‹_› ?_)
    exact ⟨g + 1, out ++ z, hF, by (try simp); omega, by apply Weak.mk' <;> simp [hcells, mcells]⟩
  · rintro ⟨g, out⟩ hJ hF
    rw [catF_nil] at hF
    simp only at hF
    subst hF
    repeat' (first
 |refine aK fun K hK=>?_|refine Step.by1 ?_|refine sE (by decide) ?_|refine cz rfl ?_|refine Fork.by2 (fun h=>?_) fun h=>?_
 |(refine aR ?_;simp)
 |(refine Split.by2 (fun h=>?_) (fun h=>?_)<;>(simp [h]))
 |(apply hK;clear hK K)|refine AWh ‹_› ?_)
    exact retq2 (.inl ⟨2, by simp [Go.AM.frz], rfl⟩)
theorem c_Guards (n : NetD) (hn : n.ok) (hw : wholeE n = 0) (m : MoveD) (L : List (Int × EdgeD)) (hm : movL n m = some L) : PC 63 [.agg n.cells, .agg m.cells] (.tup [vl GuardD.cells (guardsM L), .int .i64 0]) := by
  have h1 := c_gathGuards n hn hw m L hm
  have e : L.flatMap ofGuards = guardsM L := rfl
  rw [e] at h1
  simp only [NetD.cells, MoveD.cells, vl] at h1 ⊢
  refine pB Tryz.func63 rfl (by decide) Tryz.ntmps63 (by simp) Tryz.results63 ?_
  repeat' (first
 |refine aK fun K hK=>?_|refine Step.by1 ?_|refine sE (by decide) ?_|refine cz rfl ?_|refine Fork.by2 (fun h=>?_) fun h=>?_
 |((first|refine aR ?_|refine aC (f:=132) rfl rfl (h1) rfl rfl rfl ?_);simp)
 |(refine Split.by2 (fun h=>?_) (fun h=>?_)<;>(simp [h]))
 |(apply hK;clear hK K)|refine AWh ‹_› ?_)
  exact retq2 (cE (by simp) (by simp))
def ofResets (p : Int × EdgeD) : List SetD := p.2.sets.filter clkP
set_option maxHeartbeats 8000000 in
theorem c_gathResets (n : NetD) (hn : n.ok) (hw : wholeE n = 0) (m : MoveD) (L : List (Int × EdgeD)) (hm : movL n m = some L) : PC 139 [.agg n.cells, .agg m.cells, .fn (.func 140) [] []] (.tup [vl SetD.cells (L.flatMap ofResets), .int .i64 0]) := by
  have h1 := c_netRight n hn
  rw [decide_eq_true hw] at h1
  have h2 := c_sidesL hm
  have hL2 := (movL_at hm).1
  have hok := mov_ok hn hm
  obtain ⟨E, hE⟩ : ∃ E, L.flatMap ofResets = E := ⟨_, rfl⟩
  rw [hE]
  have hcells : n.cells = [.vec (n.clocks.map fun x => [.str x]) n.clocks.length, .vec (n.vars.map VarD.cells) n.vars.length, .vec (n.chans.map fun x => [.str x]) n.chans.length, .vec (n.autos.map AutoD.cells) n.autos.length] := rfl
  have mcells : m.cells = [.int .i64 m.auto, .int .i64 m.edge, .int .i64 m.wth, .int .i64 m.take] := rfl
  simp only [hcells, mcells, vl] at h1 h2 ⊢
  refine pB Tryz.func139 rfl (by decide) Tryz.ntmps139 (by simp) Tryz.results139 ?_
  repeat' (first
 |refine AW_nilrow 10 143 rfl (by simp) ?_
 |refine aK fun K hK=>?_|refine Step.by1 ?_|refine sE (by decide) ?_|refine cz rfl ?_|refine Fork.by2 (fun h=>?_) fun h=>?_
 |((first|refine aR ?_|refine aC (f:=137) rfl rfl (h1) rfl rfl rfl ?_|refine aC (f:=195) rfl rfl (h2) rfl rfl rfl ?_);simp)
 |(refine Split.by2 (fun h=>?_) (fun h=>?_)<;>(simp [h]))
 |(apply hK;clear hK K)|refine AWh ‹_› ?_)
  refine AW_range L 26 [2, 24, 25] (fun c : Nat × List SetD => [(10, .ref 2 c.1 0 c.2.length)]) (fun c => [.var n.cells, .var m.cells, .row 143 c.1 0 true (c.2.map SetD.cells)]) (fun i c => c.2.length ≤ i * 1048576) (catF ofResets) (0, []) (r := E) (by simp [catF, hE]) (by simp) (by apply Weak.mk' <;> simp [hcells, mcells]) (fun _ _ _ => rfl) ?_ ?_
  · rintro i ⟨g, out⟩ ⟨a, e⟩ _ hlt hx hJ hF
    have heo := hok _ (hx ▸ List.getElem_mem hlt)
    simp only at heo
    have hc := c_Resets1 e heo.2.2.2.2.2.2.1
    rw [catF_cons (g + 1)] at hF
    simp only at hJ hF
    have hof : ofResets (a, e) = e.sets.filter clkP := rfl
    rw [hof] at hF
    have hln : (e.sets.filter clkP).length ≤ 1048576 := Nat.le_trans (List.length_filter_le _ _) heo.2.2.2.2.2.2.1
    obtain ⟨ef, et, eg, ex, ec, es, el⟩ := e
    simp only [EdgeD.cells, vl] at hc hln hF
    have hx' : L[i] = (a, EdgeD.mk ef et eg ex ec es el) := hx
    generalize el.filter clkP = z at *
    have hlt' : (i : Int) < L.length := by omega
    have w1 : IntKind.i64.wrap ((i : Int) + 1) = i + 1 := wI (by omega) (by omega)
    have htk : (z.map SetD.cells).take z.length = z.map SetD.cells := List.take_of_length_le (by simp)
    have hby : (out.length + z.length) * 48 ≤ 140737488355328 := by omega
    have hlg : ∀ z : SetD, z.cells.length = 4 := fun _ => rfl
    repeat' (first
 |refine aK fun K hK=>?_|refine Step.by1 ?_|refine sE (by decide) ?_|refine cz rfl ?_|refine Fork.by2 (fun h=>?_) fun h=>?_
 |((first|refine aR ?_|refine aC (f:=140) rfl rfl (hc) rfl rfl rfl ?_);simp [hlt, hlt', hx', sideP, sideC, EdgeD.cells, vl, htk, hby, hlg, w1, hcells, mcells])
 |(refine Split.by2 (fun h=>?_) (fun h=>?_)<;>(simp [h, hlt, hlt', hx', sideP, sideC, EdgeD.cells, vl, htk, hby, hlg, w1, hcells, mcells]))
 |(apply hK;clear hK K)|refine AWh ‹_› ?_)
    exact ⟨g + 1, out ++ z, hF, by (try simp); omega, by apply Weak.mk' <;> simp [hcells, mcells]⟩
  · rintro ⟨g, out⟩ hJ hF
    rw [catF_nil] at hF
    simp only at hF
    subst hF
    repeat' (first
 |refine aK fun K hK=>?_|refine Step.by1 ?_|refine sE (by decide) ?_|refine cz rfl ?_|refine Fork.by2 (fun h=>?_) fun h=>?_
 |(refine aR ?_;simp)
 |(refine Split.by2 (fun h=>?_) (fun h=>?_)<;>(simp [h]))
 |(apply hK;clear hK K)|refine AWh ‹_› ?_)
    exact retq2 (.inl ⟨2, by simp [Go.AM.frz], rfl⟩)
theorem c_Resets (n : NetD) (hn : n.ok) (hw : wholeE n = 0) (m : MoveD) (L : List (Int × EdgeD)) (hm : movL n m = some L) : PC 68 [.agg n.cells, .agg m.cells] (.tup [vl SetD.cells (resetsM L), .int .i64 0]) := by
  have h1 := c_gathResets n hn hw m L hm
  have e : L.flatMap ofResets = resetsM L := rfl
  rw [e] at h1
  simp only [NetD.cells, MoveD.cells, vl] at h1 ⊢
  refine pB Tryz.func68 rfl (by decide) Tryz.ntmps68 (by simp) Tryz.results68 ?_
  repeat' (first
 |refine aK fun K hK=>?_|refine Step.by1 ?_|refine sE (by decide) ?_|refine cz rfl ?_|refine Fork.by2 (fun h=>?_) fun h=>?_
 |((first|refine aR ?_|refine aC (f:=139) rfl rfl (h1) rfl rfl rfl ?_);simp)
 |(refine Split.by2 (fun h=>?_) (fun h=>?_)<;>(simp [h]))
 |(apply hK;clear hK K)|refine AWh ‹_› ?_)
  exact retq2 (cE (by simp) (by simp))
def fsD : List V := [.fn (.func 117) [] [.ptr 10 0], .fn (.func 124) [] [.ptr 14 0, .ptr 13 0], .fn (.func 65) [] [.ptr 0 0, .ptr 1 0, .ptr 2 0, .ptr 9 0], .fn (.func 124) [] [.ptr 16 0, .ptr 15 0], .fn (.func 67) [] [.ptr 0 0, .ptr 2 0, .ptr 9 0], .fn (.func 124) [] [.ptr 18 0, .ptr 17 0]]
def DHp (n : NetD) (c : CfgD) (m : MoveD) (x y : V) (C : List (List V)) : List B := [.var n.cells, .var c.cells, .var m.cells, .var [.nils, .nils, .nils], .dead, .dead, .row 3 1 0 true (ivs c.st.locs), .row 3 1 0 true (ivs c.st.vars), .row 38 1 0 true C, .var [x, y, .ref 8 1 0 c.clocks.length],
  .var n.cells, .var n.cells, .var c.cells, .var [.int .i64 130], .var [.fn (.func 118) [] [.ptr 11 0, .ptr 12 0]], .var [.int .i64 211], .var [.fn (.func 62) [] [.ptr 0 0, .ptr 2 0, .ptr 1 0]], .var [.int .i64 212], .var [.fn (.func 70) [] [.ptr 0 0, .ptr 9 0]], rowF fsD]
theorem DHp_len {n : NetD} {c : CfgD} {m : MoveD} {x y : V} {C : List (List V)} : (DHp n c m x y C).length = 20 := rfl
theorem DHp_ok {n : NetD} {c : CfgD} {m : MoveD} {x y : V} {C : List (List V)} (hx : x.lt 20 = true) (hy : y.lt 20 = true) : HL (DHp n c m x y C) := by
  intro z hz
  rw [DHp_len]
  simp only [DHp, rowF, fsD, List.mem_cons, List.not_mem_nil, or_false] at hz
  rcases hz with rfl | rfl | rfl | rfl | rfl | rfl | rfl | rfl | rfl | rfl | rfl | rfl | rfl | rfl | rfl | rfl | rfl | rfl | rfl | rfl
  all_goals (simp [NetD.cells, CfgD.cells, MoveD.cells, vl, hx, hy])
def lcV (l : List Int) : V := .vec (ivs l) l.length
set_option maxHeartbeats 4000000 in
theorem g_Do2 (n : NetD) (hn : n.ok) (c : CfgD) (hc : c.ok) (m : MoveD) (hr : rightSE n c.st = true) (x y : V) (C : List (List V)) : GCall Tryz.prog GV 65 [.ptr 0 0, .ptr 1 0, .ptr 2 0, .ptr 9 0] (DHp n c m x y C) (fun v h' => v = .int .i64 (passR n c.st m).1 ∧ h' = DHp n c m (lcV (passR n c.st m).2.locs) (lcV (passR n c.st m).2.vars) C) := by
  have h1 := c_After n hn c.st hc.1 hr m
  have hcells : n.cells = [.vec (n.clocks.map fun x => [.str x]) n.clocks.length, .vec (n.vars.map VarD.cells) n.vars.length, .vec (n.chans.map fun x => [.str x]) n.chans.length, .vec (n.autos.map AutoD.cells) n.autos.length] := rfl
  have ccells : c.cells = [.vec (ivs c.st.locs) c.st.locs.length, .vec (ivs c.st.vars) c.st.vars.length, .vec (c.clocks.map RatD.cells) c.clocks.length] := rfl
  have mcells : m.cells = [.int .i64 m.auto, .int .i64 m.edge, .int .i64 m.wth, .int .i64 m.take] := rfl
  have scells : c.st.cells = [.vec (ivs c.st.locs) c.st.locs.length, .vec (ivs c.st.vars) c.st.vars.length] := rfl
  generalize passR n c.st m = q at *
  obtain ⟨qe, ql, qv⟩ := q
  have hL := DHp_ok (n := n) (c := c) (m := m) (x := lcV ql) (y := lcV qv) (C := C) (by simp [lcV]) (by simp [lcV])
  simp only [hcells, mcells, scells, StateD.cells] at h1
  refine gB1 Tryz.func65 rfl (by decide) Tryz.ntmps65 (by simp) Tryz.results65 ?_
  repeat' (first
 |refine aK fun K hK=>?_|refine Step.by1 ?_|refine sE (by decide) ?_|refine cz rfl ?_|refine Fork.by2 (fun h=>?_) fun h=>?_
 |((first|refine aR ?_|refine aC (f:=66) rfl rfl (h1) rfl rfl rfl ?_);simp [DHp, hcells, ccells, mcells])
 |(refine Split.by2 (fun h=>?_) (fun h=>?_)<;>(simp [h, DHp, hcells, ccells, mcells]))
 |(apply hK;clear hK K)|refine AWh ‹_› ?_)
  exact retg1 (h' := DHp n c m (lcV ql) (lcV qv) C) ⟨rfl, rfl⟩ (by simp) (Go.AM.Leaves.sym (by simp [DHp]) hL)
theorem grd_len {n : NetD} (hn : n.ok) {m : MoveD} {L : List (Int × EdgeD)} (hm : movL n m = some L) : (guardsM L).length ≤ 1099511627776 := by
  have h1 := catP_len (l := L) (f := fun p => p.2.guards) (k := 1048576) fun p hp => (mov_ok hn hm p hp).2.2.1.1
  have h2 := (movL_at hm).1
  have : (guardsM L).length ≤ L.length * 1048576 := h1
  omega
theorem rst_len {n : NetD} (hn : n.ok) {m : MoveD} {L : List (Int × EdgeD)} (hm : movL n m = some L) : (resetsM L).length ≤ 1099511627776 := by
  have h1 := catP_len (l := L) (f := fun p => p.2.sets.filter clkP) (k := 1048576) fun p hp => Nat.le_trans (List.length_filter_le _ _) (mov_ok hn hm p hp).2.2.2.2.2.2.1
  have h2 := (movL_at hm).1
  have : (resetsM L).length ≤ L.length * 1048576 := h1
  omega
theorem pass_mov {n : NetD} {s : StateD} {m : MoveD} (h : (passR n s m).1 ≠ 213) : ∃ L, movL n m = some L := by
  cases hm : movL n m with
  | none => exfalso; apply h; unfold passR; rw [hm]; rfl
  | some L => exact ⟨L, rfl⟩
set_option maxHeartbeats 4000000 in
theorem g_Do1 (h : List B) (n : NetD) (hn : n.ok) (h0 : netE n = 0) (c : CfgD) (hc : c.ok) (hf : confB n c = true) (m : MoveD) (L : List (Int × EdgeD)) (hm : movL n m = some L) (i j k : Nat) (hi : h[i]? = some (.var n.cells)) (hj : h[j]? = some (.var m.cells)) (hk : h[k]? = some (.var c.cells)) : GCall Tryz.prog GV 62 [.ptr i 0, .ptr j 0, .ptr k 0] h (fun v h' => v = .bool (!anyL (notG c.clocks) (guardsM (movG n m))) ∧ h' = h) := by
  obtain ⟨c1, c2, c3⟩ := conf_iff.1 hf
  have hG : movG n m = L := by unfold movG; rw [hm]; rfl
  have h1 := c_Guards n hn (netE_whole h0) m L hm
  have h2 := c_ptHolds c.clocks hc.2 c3 (guardsM L) (grd_len hn hm) (fun g hg => by
    have := net_guardR h0 g (guardsM_sub (n := n) (m := m) g (by rw [hG]; exact hg))
    rw [c2]; exact this)
  rw [hG]
  have hcells : n.cells = [.vec (n.clocks.map fun x => [.str x]) n.clocks.length, .vec (n.vars.map VarD.cells) n.vars.length, .vec (n.chans.map fun x => [.str x]) n.chans.length, .vec (n.autos.map AutoD.cells) n.autos.length] := rfl
  have ccells : c.cells = [.vec (ivs c.st.locs) c.st.locs.length, .vec (ivs c.st.vars) c.st.vars.length, .vec (c.clocks.map RatD.cells) c.clocks.length] := rfl
  have mcells : m.cells = [.int .i64 m.auto, .int .i64 m.edge, .int .i64 m.wth, .int .i64 m.take] := rfl
  rw [hcells] at hi h1
  rw [mcells] at hj h1
  rw [ccells] at hk
  generalize anyL (notG c.clocks) (guardsM L) = b at *
  simp only [vl] at h1 h2
  refine gB1 Tryz.func62 rfl (by decide) Tryz.ntmps62 (by simp) Tryz.results62 ?_
  repeat' (first
 |refine aK fun K hK=>?_|refine Step.by1 ?_|refine sE (by decide) ?_|refine cz rfl ?_|refine Fork.by2 (fun h=>?_) fun h=>?_
 |((first|refine aR ?_|refine aC (f:=63) rfl rfl (h1) rfl rfl rfl ?_|refine aC (f:=64) rfl rfl (h2) rfl rfl rfl ?_);simp [hi, hj, hk])
 |(refine Split.by2 (fun h=>?_) (fun h=>?_)<;>(simp [h, hi, hj, hk]))
 |(apply hK;clear hK K)|refine AWh ‹_› ?_)
  exact retg1 (h' := h) ⟨by simp, rfl⟩ rfl leaves_same
set_option maxHeartbeats 8000000 in
theorem g_Do3 (n : NetD) (hn : n.ok) (h0 : netE n = 0) (c : CfgD) (hc : c.ok) (hl : c.clocks.length = n.clocks.length) (m : MoveD) (L : List (Int × EdgeD)) (hm : movL n m = some L) (x y : V) (hx : x.lt 20 = true) (hy : y.lt 20 = true) : GCall Tryz.prog GV 67 [.ptr 0 0, .ptr 2 0, .ptr 9 0] (DHp n c m x y (c.clocks.map RatD.cells)) (fun v h' => v = .int .i64 0 ∧ h' = DHp n c m x y ((setC (resetsM (movG n m)) c.clocks).map RatD.cells)) := by
  have hG : movG n m = L := by unfold movG; rw [hm]; rfl
  have h1 := c_Resets n hn (netE_whole h0) m L hm
  have hR := resets_R h0 (m := m)
  rw [hG] at hR ⊢
  have hrl := rst_len hn hm
  have hcells : n.cells = [.vec (n.clocks.map fun x => [.str x]) n.clocks.length, .vec (n.vars.map VarD.cells) n.vars.length, .vec (n.chans.map fun x => [.str x]) n.chans.length, .vec (n.autos.map AutoD.cells) n.autos.length] := rfl
  have ccells : c.cells = [.vec (ivs c.st.locs) c.st.locs.length, .vec (ivs c.st.vars) c.st.vars.length, .vec (c.clocks.map RatD.cells) c.clocks.length] := rfl
  have mcells : m.cells = [.int .i64 m.auto, .int .i64 m.edge, .int .i64 m.wth, .int .i64 m.take] := rfl
  have hcl := hc.2.1
  obtain ⟨E, hE⟩ : ∃ E, setC (resetsM L) c.clocks = E := ⟨_, rfl⟩
  rw [hE]
  generalize resetsM L = l at *
  simp only [hcells, mcells, vl] at h1
  have hset : ∀ (l : List RatD) (i : Nat) (v : RatD), (l.map RatD.cells).set i [.int .i64 v.num, .int .i64 v.den] = (l.set i v).map RatD.cells := fun l i v => by rw [List.map_set]; rfl
  refine gB1 Tryz.func67 rfl (by decide) Tryz.ntmps67 (by simp) Tryz.results67 ?_
  repeat' (first
 |refine aK fun K hK=>?_|refine Step.by1 ?_|refine sE (by decide) ?_|refine cz rfl ?_|refine Fork.by2 (fun h=>?_) fun h=>?_
 |((first|refine aR ?_|refine aC (f:=68) rfl rfl (h1) rfl rfl rfl ?_);simp [DHp, hcells, ccells, mcells])
 |(refine Split.by2 (fun h=>?_) (fun h=>?_)<;>(simp [h, DHp, hcells, ccells, mcells]))
 |(apply hK;clear hK K)|refine AWh ‹_› ?_)
  refine AW_range l 16 [2, 14, 15] (fun c : List RatD => []) (fun v => DHp n c m x y (v.map RatD.cells)) (fun i v => v.length = c.clocks.length) setC c.clocks (r := E) hE rfl (Weak.sym (x := []) (by simp [DHp, hcells, ccells, mcells]) (DHp_ok hx hy) (by simp [DHp_len])) (fun _ _ _ => by simp [DHp]) ?_ ?_
  · rintro i v s _ hlt hs hJ hF
    obtain ⟨r1, r2, r3, r4⟩ := hR s (hs ▸ List.getElem_mem hlt)
    obtain ⟨p, hp⟩ := Int.eq_ofNat_of_zero_le (show 0 ≤ s.clock - 1 by omega)
    have hpl : p < v.length := by omega
    have hpl' : (p : Int) < v.length := by omega
    have hpc : (p : Int) < c.clocks.length := by omega
    have hpc0 : p < c.clocks.length := by omega
    have hlt' : (i : Int) < l.length := by omega
    have w1 : IntKind.i64.wrap ((i : Int) + 1) = i + 1 := wI (by omega) (by omega)
    have w2 : IntKind.i64.wrap (s.clock - 1) = p := by rw [hp]; exact wI (by omega) (by omega)
    rw [setC_cons, hp, Int.toNat_natCast] at hF
    have hcc := c_Of s.n
    have hg : (v.map RatD.cells)[p]'(by simpa using hpl) = v[p].cells := by simp
    simp only [RatD.cells] at hcc
    repeat' (first
 |refine aK fun K hK=>?_|refine Step.by1 ?_|refine sE (by decide) ?_|refine cz rfl ?_|refine Fork.by2 (fun h=>?_) fun h=>?_
 |((first|refine aR ?_|refine aX (id:=5) 9 mixed (by decide) ?_|refine aP1 (f:=69) rfl rfl (hcc) rfl rfl rfl ?_);simp [DHp, hcells, ccells, mcells, hlt, hlt', hs, SetD.cells, vl, w1, w2, hpl, hpl', hpc, hpc0, hJ, RatD.cells])
 |(refine Split.by2 (fun h=>?_) (fun h=>?_)<;>(simp [h, DHp, hcells, ccells, mcells, hlt, hlt', hs, SetD.cells, vl, w1, w2, hpl, hpl', hpc, hpc0, hJ, RatD.cells]))
 |(apply hK;clear hK K)|refine AWh ‹_› ?_)
    refine ⟨_, hF, by simp [hJ], ?_⟩
    exact Weak.sym (x := [.var s.cells]) (by simp [DHp, hcells, ccells, mcells, SetD.cells, vl, hset, RatD.cells]) (DHp_ok hx hy) (by simp [DHp_len])
  · intro v hJ hF
    rw [setC_nil] at hF
    subst hF
    repeat' (first
 |refine aK fun K hK=>?_|refine Step.by1 ?_|refine sE (by decide) ?_|refine cz rfl ?_|refine Fork.by2 (fun h=>?_) fun h=>?_
 |(refine aR ?_;simp)
 |(refine Split.by2 (fun h=>?_) (fun h=>?_)<;>(simp [h]))
 |(apply hK;clear hK K)|refine AWh ‹_› ?_)
    exact retg1 ⟨rfl, rfl⟩ rfl (Go.AM.Leaves.sym (by simp [DHp]) (DHp_ok hx hy))
theorem set_mem {l : List SetD} {N : Nat} (hl : ∀ x ∈ l, SetR N x) : ∀ {v : List RatD}, (∀ r ∈ v, r.ok) → ∀ r ∈ setC l v, r.ok := by
  induction l with
  | nil => intro v hv; exact hv
  | cons x r ih =>
    intro v hv
    rw [setC_cons]
    refine ih (fun y hy => hl y (List.mem_cons_of_mem _ hy)) fun y hy => ?_
    rcases List.mem_or_eq_of_mem_set hy with hy | rfl
    · exact hv y hy
    · have := hl x (List.mem_cons_self ..)
      obtain ⟨a, b, c, d⟩ := this
      exact ⟨by show I64 x.n; unfold I64; omega, by show I64 1; unfold I64; omega⟩
theorem pass_ok {n : NetD} {s : StateD} (hs : s.ok) (hr : rightSE n s = true) {m : MoveD} : (passR n s m).2.ok := by
  by_cases h : (passR n s m).1 = 0
  · obtain ⟨r1, r2, _⟩ := right_at (pass_right hr h)
    obtain ⟨q1, q2, _⟩ := right_at hr
    obtain ⟨o1, o2⟩ := hs
    exact ⟨by omega, by omega⟩
  · rw [pass_err h]; exact ⟨by simp [noS], by simp [noS]⟩
/-- The closures of Do, one behind another. -/
theorem do_chain (n : NetD) (hn : n.ok) (c : CfgD) (hc : c.ok) (m : MoveD) : ∃ x y C, (x.lt 20 = true ∧ y.lt 20 = true) ∧ ((doS n c m).1 = 0 → x = lcV (doS n c m).2.st.locs ∧ y = lcV (doS n c m).2.st.vars ∧ C = (doS n c m).2.clocks.map RatD.cells ∧ (doS n c m).2.clocks.length = c.clocks.length) ∧ Chain 19 (rowF fsD) fsD (DHp n c m (.ref 6 1 0 c.st.locs.length) (.ref 7 1 0 c.st.vars.length) (c.clocks.map RatD.cells)) (doS n c m).1 (DHp n c m x y C) := by
  obtain ⟨H0, hH0e⟩ : ∃ H0, DHp n c m (.ref 6 1 0 c.st.locs.length) (.ref 7 1 0 c.st.vars.length) (c.clocks.map RatD.cells) = H0 := ⟨_, rfl⟩
  have hH0 : HL H0 := by rw [← hH0e]; exact DHp_ok (by simp) (by simp)
  have a1 : Callee (.fn (.func 117) [] [.ptr 10 0]) H0 (netE n) H0 := ⟨_, _, rfl, g_right1 _ n hn 10 (by rw [← hH0e]; rfl)⟩
  have a2 : Callee (.fn (.func 124) [] [.ptr 14 0, .ptr 13 0]) H0 (if confB n c = true then 0 else 130) H0 := ⟨_, _, rfl, g_other1 _ 14 13 _ _ 130 (confB n c) (by rw [← hH0e]; rfl) (by rw [← hH0e]; rfl) (g_conf1 _ n hn c hc 11 12 (by rw [← hH0e]; rfl) (by rw [← hH0e]; rfl))⟩
  have hb0 : H0[19]? = some (rowF fsD) := by rw [← hH0e]; rfl
  rw [hH0e]
  unfold doS
  by_cases e1 : netE n = 0
  rotate_left
  · rw [if_pos e1]
    refine ⟨.ref 6 1 0 c.st.locs.length, .ref 7 1 0 c.st.vars.length, c.clocks.map RatD.cells, ⟨by simp, by simp⟩, fun h => absurd h e1, ?_⟩
    rw [hH0e]
    exact .stop a1 e1 rfl hH0
  rw [if_neg (by simp [e1])]
  rw [e1] at a1
  cases e2 : confB n c
  · rw [if_pos rfl]
    rw [e2] at a2
    refine ⟨.ref 6 1 0 c.st.locs.length, .ref 7 1 0 c.st.vars.length, c.clocks.map RatD.cells, ⟨by simp, by simp⟩, fun h => (by cases h), ?_⟩
    rw [hH0e]
    exact .go _ a1 rfl hH0 hb0 (.stop a2 (by simp) rfl hH0)
  rw [if_neg (by simp)]
  rw [e2] at a2
  obtain ⟨c1, c2, c3⟩ := conf_iff.1 e2
  have a3 : Callee (.fn (.func 65) [] [.ptr 0 0, .ptr 1 0, .ptr 2 0, .ptr 9 0]) H0 (passR n c.st m).1 (DHp n c m (lcV (passR n c.st m).2.locs) (lcV (passR n c.st m).2.vars) (c.clocks.map RatD.cells)) := ⟨_, _, rfl, by rw [← hH0e]; exact g_Do2 n hn c hc m c1 _ _ _⟩
  have hpo := pass_ok hc.1 c1 (m := m)
  have hpr := fun h => pass_right (m := m) c1 h
  have hpm := fun h => pass_mov (n := n) (s := c.st) (m := m) h
  have hx : ∀ l : List Int, (lcV l).lt 20 = true := fun l => by simp [lcV]
  by_cases e3 : (passR n c.st m).1 = 0
  rotate_left
  · rw [if_pos e3]
    refine ⟨lcV (passR n c.st m).2.locs, lcV (passR n c.st m).2.vars, c.clocks.map RatD.cells, ⟨hx _, hx _⟩, fun h => absurd h e3, ?_⟩
    exact .go _ a1 rfl hH0 hb0 (.go _ a2 rfl hH0 hb0 (.stop a3 e3 (by rw [← hH0e]; rfl) (DHp_ok (hx _) (hx _))))
  rw [if_neg (by simp [e3])]
  rw [e3] at a3
  obtain ⟨L, hm⟩ := hpm (by rw [e3]; decide)
  have hpr := hpr e3
  generalize (passR n c.st m).2 = s' at *
  have hl1 : (DHp n c m (lcV s'.locs) (lcV s'.vars) (c.clocks.map RatD.cells)).length = H0.length := by rw [← hH0e]; rfl
  have hH1 : HL (DHp n c m (lcV s'.locs) (lcV s'.vars) (c.clocks.map RatD.cells)) := DHp_ok (hx _) (hx _)
  have a4 : Callee (.fn (.func 124) [] [.ptr 16 0, .ptr 15 0]) (DHp n c m (lcV s'.locs) (lcV s'.vars) (c.clocks.map RatD.cells)) (if (!anyL (notG c.clocks) (guardsM (movG n m))) = true then 0 else 211) (DHp n c m (lcV s'.locs) (lcV s'.vars) (c.clocks.map RatD.cells)) := ⟨_, _, rfl, g_other1 _ 16 15 _ _ 211 (!anyL (notG c.clocks) (guardsM (movG n m))) rfl rfl (g_Do1 _ n hn e1 c hc e2 m L hm 0 2 1 rfl rfl rfl)⟩
  cases e4 : anyL (notG c.clocks) (guardsM (movG n m))
  rotate_left
  · rw [if_pos rfl]
    rw [e4] at a4
    refine ⟨lcV s'.locs, lcV s'.vars, c.clocks.map RatD.cells, ⟨hx _, hx _⟩, fun h => (by cases h), ?_⟩
    exact .go _ a1 rfl hH0 hb0 (.go _ a2 rfl hH0 hb0 (.go _ a3 hl1 hH1 rfl (.stop a4 (by simp) rfl hH1)))
  rw [if_neg (by simp)]
  rw [e4] at a4
  have a5 : Callee (.fn (.func 67) [] [.ptr 0 0, .ptr 2 0, .ptr 9 0]) (DHp n c m (lcV s'.locs) (lcV s'.vars) (c.clocks.map RatD.cells)) 0 (DHp n c m (lcV s'.locs) (lcV s'.vars) ((setC (resetsM (movG n m)) c.clocks).map RatD.cells)) := ⟨_, _, rfl, g_Do3 n hn e1 c hc c2 m L hm _ _ (hx _) (hx _)⟩
  have hR := resets_R e1 (m := m)
  have hsl : (setC (resetsM (movG n m)) c.clocks).length = c.clocks.length := setC_len
  have hok : CfgD.ok ⟨s', setC (resetsM (movG n m)) c.clocks⟩ := ⟨hpo, by rw [hsl]; exact hc.2.1, set_mem hR hc.2.2⟩
  have hcf : confB n ⟨s', setC (resetsM (movG n m)) c.clocks⟩ = true := conf_iff.2 ⟨hpr, by rw [hsl]; exact c2, setC_right hR c3⟩
  generalize setC (resetsM (movG n m)) c.clocks = v at *
  have hH2 : HL (DHp n c m (lcV s'.locs) (lcV s'.vars) (v.map RatD.cells)) := DHp_ok (hx _) (hx _)
  have a6 : Callee (.fn (.func 124) [] [.ptr 18 0, .ptr 17 0]) (DHp n c m (lcV s'.locs) (lcV s'.vars) (v.map RatD.cells)) (if keptB n ⟨s', v⟩ = true then 0 else 212) (DHp n c m (lcV s'.locs) (lcV s'.vars) (v.map RatD.cells)) := ⟨_, _, rfl, g_other1 _ 18 17 _ _ 212 (keptB n ⟨s', v⟩) rfl rfl (g_keptD _ n hn e1 ⟨s', v⟩ hok hcf 0 9 _ _ _ rfl rfl (by simp [seenV, DHp, CfgD.cells, lcV, vl, hsl]))⟩
  refine ⟨lcV s'.locs, lcV s'.vars, v.map RatD.cells, ⟨hx _, hx _⟩, fun hz => ?_, ?_⟩
  · cases e5 : keptB n ⟨s', v⟩
    · rw [e5, if_neg (by simp)] at hz; cases hz
    · rw [if_pos rfl]; exact ⟨rfl, rfl, rfl, hsl⟩
  · refine .go _ a1 rfl hH0 hb0 (.go _ a2 rfl hH0 hb0 (.go _ a3 hl1 hH1 rfl (.go _ a4 rfl hH1 rfl (.go _ a5 rfl hH2 rfl ?_))))
    cases e5 : keptB n ⟨s', v⟩
    · rw [e5] at a6
      rw [if_neg (by simp)]
      exact .stop a6 (by simp) rfl hH2
    · rw [e5] at a6
      rw [if_pos rfl]
      exact .go _ a6 rfl hH2 rfl .nil
theorem do_err {n : NetD} {c : CfgD} {m : MoveD} (h : (doS n c m).1 ≠ 0) : (doS n c m).2 = noC := by
  unfold doS at h ⊢
  split
  · rfl
  · rename_i q1
    rw [if_neg q1] at h
    split
    · rfl
    · rename_i q2
      rw [if_neg q2] at h
      split
      · rfl
      · rename_i q3
        rw [if_neg q3] at h
        split
        · rfl
        · rename_i q4
          rw [if_neg q4] at h
          split
          · rename_i q5
            rw [if_pos q5] at h; exact absurd rfl h
          · rfl
set_option maxRecDepth 40000 in
set_option maxHeartbeats 16000000 in
theorem c_Do1 (n : NetD) (hn : n.ok) (c : CfgD) (hc : c.ok) (m : MoveD) : PC 24 [.agg n.cells, .agg c.cells, .agg m.cells] (.tup [stC (doS n c m), .int .i64 (doS n c m).1]) := by
  obtain ⟨x, y, C, ⟨hx, hy⟩, hX2, hch⟩ := do_chain n hn c hc m
  have hcells : n.cells = [.vec (n.clocks.map fun x => [.str x]) n.clocks.length, .vec (n.vars.map VarD.cells) n.vars.length, .vec (n.chans.map fun x => [.str x]) n.chans.length, .vec (n.autos.map AutoD.cells) n.autos.length] := rfl
  have ccells : c.cells = [.vec (ivs c.st.locs) c.st.locs.length, .vec (ivs c.st.vars) c.st.vars.length, .vec (c.clocks.map RatD.cells) c.clocks.length] := rfl
  have mcells : m.cells = [.int .i64 m.auto, .int .i64 m.edge, .int .i64 m.wth, .int .i64 m.take] := rfl
  have hown := g_own (.var n.cells) (.var c.cells) (.var m.cells) (.var [.nils, .nils, .nils]) (by simp [hcells, ccells, mcells]) c hc
  obtain ⟨w, hw⟩ : ∃ w, doS n c m = w := ⟨_, rfl⟩
  rw [hw] at hch hX2 ⊢
  simp only [hcells, ccells, mcells]
  refine pB Tryz.func24 rfl (by decide) Tryz.ntmps24 (by simp) Tryz.results24 ?_
  repeat' (first
 |refine aK fun K hK=>?_|refine Step.by1 ?_|refine sE (by decide) ?_|refine cz rfl ?_|refine Fork.by2 (fun h=>?_) fun h=>?_
 |(refine aR ?_;simp)
 |(refine Split.by2 (fun h=>?_) (fun h=>?_)<;>(simp [h]))
 |(refine aG (f := 52) rfl rfl (hown.imp (by simp [ccells]) (by simp [hcells, ccells, mcells])) rfl (fun v h' hq => ?_); obtain ⟨rfl, rfl⟩ := hq; simp [ownV, rowsR])
 |(apply hK;clear hK K)|refine AWh ‹_› ?_)
  have hrest : ∀ st' : St, st'.n = 32 → st'.h = DHp n c m x y C → lk st'.tm 6 = .ptr 3 0 → lk st'.tm 8 = .ptr 9 0 → lk st'.tm 10 = .int .i64 w.1 → K st' := by
    rintro ⟨sn, tm, H⟩ hsn hH u1 u2 u3
    refine hK _ ?_
    simp only at hsn hH u1 u2 u3
    subst hsn; subst hH
    refine AW.weak (st' := ⟨32, [(6, .ptr 3 0), (8, .ptr 9 0), (10, .int .i64 w.1)], DHp n c m x y C⟩) (Weak.sym (x := []) (by simp) (DHp_ok hx hy) (by simp [u1, u2, u3, DHp_len])) rfl ?_
    clear hK u1 u2 u3 hown hch
    by_cases hw0 : w.1 = 0
    · obtain ⟨rfl, rfl, rfl, hlen⟩ := hX2 hw0
      repeat' (first
 |refine aK fun K hK=>?_|refine Step.by1 ?_|refine sE (by decide) ?_|refine cz rfl ?_|refine Fork.by2 (fun h=>?_) fun h=>?_
 |(refine aR ?_;simp [DHp, hw0])
 |(refine Split.by2 (fun h=>?_) (fun h=>?_)<;>(simp [h, DHp, hw0]))
 |(apply hK;clear hK K)|refine AWh ‹_› ?_)
      refine retq2ct rfl (by simp) (.inl ⟨3, ?_, by simp [stC, hw0, Go.AM.V.plain, Go.AM.V.isOwn]⟩)
      simp [frz, stC, hw0, CfgD.cells, hlen, lcV, vl, Go.AM.V.isF]
    · repeat' (first
 |refine aK fun K hK=>?_|refine Step.by1 ?_|refine sE (by decide) ?_|refine cz rfl ?_|refine Fork.by2 (fun h=>?_) fun h=>?_
 |(refine aR ?_;simp [DHp, hw0])
 |(refine Split.by2 (fun h=>?_) (fun h=>?_)<;>(simp [h, DHp, hw0]))
 |(apply hK;clear hK K)|refine AWh ‹_› ?_)
      exact retq2ct rfl (by simp) (cE (by simp [stC, hw0]) (by simp))
  refine AW_region_chain 13 14 [0, 2, 3, 5, 6, 8, 9] (fun H => H[0]? = some (.var [.vec (n.clocks.map fun x => [.str x]) n.clocks.length, .vec (n.vars.map VarD.cells) n.vars.length, .vec (n.chans.map fun x => [.str x]) n.chans.length, .vec (n.autos.map AutoD.cells) n.autos.length]) ∧ H[1]? = some (.var [.vec (ivs c.st.locs) c.st.locs.length, .vec (ivs c.st.vars) c.st.vars.length, .vec (c.clocks.map RatD.cells) c.clocks.length])) mixed (by decide) (by decide) rfl ⟨rfl, rfl⟩ ?_
  simp only [List.take_succ_cons, List.take_zero]
  refine PX_op (v := .agg n.cells) rfl rfl rfl rfl (fun H hs => by simp [hs.1, hcells]) ?_
  refine PX_skip rfl ?_
  refine PX_op (v := .agg n.cells) rfl rfl rfl rfl (fun H hs => by simp [hs.1, hcells]) ?_
  refine PX_op (v := .agg c.cells) rfl rfl rfl rfl (fun H hs => by simp [hs.2, ccells]) ?_
  refine PX_skip rfl ?_
  refine PX_op (v := .fn (.func 65) [] [.ptr 0 0, .ptr 1 0, .ptr 2 0, .ptr 9 0]) rfl rfl rfl rfl (fun H hs => by simp) ?_
  refine PX_op (v := .fn (.func 62) [] [.ptr 0 0, .ptr 2 0, .ptr 1 0]) rfl rfl rfl rfl (fun H hs => by simp) ?_
  refine PX_skip rfl ?_
  refine PX_op (v := .fn (.func 67) [] [.ptr 0 0, .ptr 2 0, .ptr 9 0]) rfl rfl rfl rfl (fun H hs => by simp) ?_
  refine PX_op (v := .fn (.func 70) [] [.ptr 0 0, .ptr 9 0]) rfl rfl rfl rfl (fun H hs => by simp) ?_
  refine PX_skip rfl ?_
  refine PX_skip rfl ?_
  refine PX_skip rfl ?_
  refine PX_nil ?_
  simp
  refine Ch_1 1 (by decide) (by decide) ?_
  refine ChS_callG (f := 46) rfl rfl rfl rfl (g_right _ (by simp [HL, hcells, ccells, mcells]) n) ?_
  rintro _ _ ⟨rfl, rfl⟩
  refine ⟨⟨rfl, rfl⟩, ?_⟩
  simp
  refine Ch_1 4 (by decide) (by decide) ?_
  refine ChS_callG (f := 47) rfl rfl rfl rfl (g_conf _ (by simp [HL, hcells, ccells, mcells]) n c) ?_
  rintro _ _ ⟨rfl, rfl⟩
  refine ⟨⟨rfl, rfl⟩, ?_⟩
  simp
  refine Ch_1 7 (by decide) (by decide) ?_
  refine ChS_callG (f := 53) rfl rfl rfl rfl (g_otherwise _ (by simp [HL, hcells, ccells, mcells]) 211 62 [.ptr 0 0, .ptr 2 0, .ptr 1 0] (by simp)) ?_
  rintro _ _ ⟨rfl, rfl⟩
  refine ⟨⟨rfl, rfl⟩, ?_⟩
  simp
  refine Ch_1 10 (by decide) (by decide) ?_
  refine ChS_callG (f := 53) rfl rfl rfl rfl (g_otherwise _ (by simp [HL, hcells, ccells, mcells]) 212 70 [.ptr 0 0, .ptr 9 0] (by simp)) ?_
  rintro _ _ ⟨rfl, rfl⟩
  refine ⟨⟨rfl, rfl⟩, ?_⟩
  simp
  refine Ch_1 11 (by decide) (by decide) ?_
  refine ChS_op rfl rfl rfl rfl (by simp) rfl ⟨rfl, rfl⟩ ?_
  simp
  refine Ch_1 12 (by decide) (by decide) ?_
  refine ChS_callG (f := 45) rfl rfl rfl rfl ((g_first 19 fsD _ (DHp n c m x y C) w.1 (DHp_ok (by simp) (by simp)) rfl (by decide) hch).imp rfl (by simp [DHp, fsD, rowF, hcells, ccells, mcells])) ?_
  rintro _ _ ⟨rfl, rfl⟩
  refine ⟨⟨rfl, rfl⟩, ?_⟩
  simp
  refine Ch_end (by decide) ?_
  refine AS_of_AO ?_
  simp
  exact hrest _ rfl rfl rfl rfl rfl
theorem c_Do (n : NetD) (hn : n.ok) (c : CfgD) (hc : c.ok) (m : MoveD) : PC 24 [.agg n.cells, .agg c.cells, .agg m.cells] (.tup [.agg (doS n c m).2.cells, .int .i64 (doS n c m).1]) := by
  have h1 := c_Do1 n hn c hc m
  by_cases h : (doS n c m).1 = 0
  · rw [stC, if_pos h] at h1; exact h1
  · rw [stC, if_neg h] at h1
    rw [do_err h]
    exact h1.dnt (by simp [V.isOwn]) (by simp [V.dns, V.dn, noC, CfgD.cells, ivs, vl]) (by simp [V.isOwn])
end Go.Proofs.YtbgooadmonnjaaaGreatDoor
end
