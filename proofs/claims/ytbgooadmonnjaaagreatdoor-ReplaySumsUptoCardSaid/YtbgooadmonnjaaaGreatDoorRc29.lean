/-
  YtbgooadmonnjaaaGreatDoorRc29: steps of the proof of a law of the program: what these texts prove holds under the hypotheses that their theorems name, and no others.
-/
import Derived.Test.YtbgooadmonnjaaaGreatDoorRc25
import Derived.Test.YtbgooadmonnjaaaGreatDoorRc26
import Derived.Test.YtbgooadmonnjaaaGreatDoorRc28
import Derived.Test.YtbgooadmonnjaaaGreatDoorRc18
section
set_option linter.unusedSimpArgs false
set_option linter.unusedVariables false
namespace Go.Proofs.YtbgooadmonnjaaaGreatDoor
open Go Go.AM Fx
def addA (d : RatD) (l : List RatD) (c : Nat × List RatD) : Int × List RatD := addF d l c.2
theorem addA_nil {d : RatD} {c : Nat × List RatD} : addA d [] c = (0, c.2) := rfl
theorem addA_cons (g : Nat) {d r : RatD} {l : List RatD} {c : Nat × List RatD} : addA d (r :: l) c = if (addQ r d).2 ≠ 0 then ((addQ r d).2, []) else addA d l (g, c.2 ++ [(addQ r d).1]) := rfl
def wtV (E : Int × List RatD) : V := if E.1 = 0 then .own 38 (E.2.map RatD.cells) else .nils
set_option maxHeartbeats 8000000 in
theorem c_ptWaitO (v : List RatD) (hv : v.length ≤ 1048576 ∧ ∀ r ∈ v, r.ok) (d : RatD) (hd : d.ok) (p1 : ptRight v = true) (p2 : rightQ d = true) (p3 : 0 ≤ d.num) : PC 58 [vl RatD.cells v, .agg d.cells] (.tup [wtV (addF d v []), .int .i64 (addF d v []).1]) := by
  have h1 := c_ptRight v hv
  have h2 := c_RightQ d hd
  have hvl := hv.1
  rw [p1] at h1
  rw [p2] at h2
  obtain ⟨E, hE⟩ : ∃ E, addF d v [] = E := ⟨_, rfl⟩
  rw [hE]
  have p3' : ¬ d.num < 0 := by omega
  have hdc : d.cells = [.int .i64 d.num, .int .i64 d.den] := rfl
  simp only [hdc, vl] at h1 h2 ⊢
  refine pB Tryz.func58 rfl (by decide) Tryz.ntmps58 (by simp) Tryz.results58 ?_
  repeat' (first
 |refine AW_nilrow 6 38 rfl (by simp) ?_
 |refine aK fun K hK=>?_|refine Step.by1 ?_|refine sE (by decide) ?_|refine cz rfl ?_|refine Fork.by2 (fun h=>?_) fun h=>?_
 |((first|refine aR ?_|refine aC (f:=120) rfl rfl (h1) rfl rfl rfl ?_|refine aC (f:=125) rfl rfl (h2) rfl rfl rfl ?_);simp [p3, p3'])
 |(refine Split.by2 (fun h=>?_) (fun h=>?_)<;>(simp [h, p3, p3']))
 |(apply hK;clear hK K)|refine AWh ‹_› ?_)
  refine AW_range v 26 [3, 24, 25] (fun c : Nat × List RatD => [(6, .ref 1 c.1 0 c.2.length)]) (fun c => [.var d.cells, .row 38 c.1 0 true (c.2.map RatD.cells)]) (fun i c => c.2.length = i) (addA d) (0, []) (r := E) hE rfl (by apply Weak.mk' <;> simp [hdc]) (fun _ _ _ => rfl) ?_ ?_
  · rintro i ⟨g, out⟩ x _ hlt hx hJ hF
    have hc := c_AddQ x d (hv.2 x (hx ▸ List.getElem_mem hlt)) hd
    rw [addA_cons (g + 1)] at hF
    simp only at hJ hF
    have hlt' : (i : Int) < v.length := by omega
    have w1 : IntKind.i64.wrap ((i : Int) + 1) = i + 1 := wI (by omega) (by omega)
    have hby : (out.length + 1) * 16 ≤ 140737488355328 := by omega
    generalize addQ x d = q at *
    obtain ⟨⟨qn, qd⟩, qe⟩ := q
    simp only [RatD.cells] at hc hF
    by_cases he : qe = 0
    · subst he
      rw [if_neg (by simp)] at hF
      repeat' (first
 |refine aK fun K hK=>?_|refine Step.by1 ?_|refine sE (by decide) ?_|refine cz rfl ?_|refine Fork.by2 (fun h=>?_) fun h=>?_
 |((first|refine aR ?_|refine aC (f:=128) rfl rfl (hc) rfl rfl rfl ?_);simp [hlt, hlt', hx, RatD.cells, w1, hby, hdc])
 |(refine Split.by2 (fun h=>?_) (fun h=>?_)<;>(simp [h, hlt, hlt', hx, RatD.cells, w1, hby, hdc]))
 |(apply hK;clear hK K)|refine AWh ‹_› ?_)
      exact ⟨g + 1, out ++ [⟨qn, qd⟩], hF, by simp; omega, by apply Weak.mk' <;> simp [hdc, RatD.cells]⟩
    · rw [if_pos he] at hF
      subst hF
      repeat' (first
 |refine aK fun K hK=>?_|refine Step.by1 ?_|refine sE (by decide) ?_|refine cz rfl ?_|refine Fork.by2 (fun h=>?_) fun h=>?_
 |((first|refine aR ?_|refine aC (f:=128) rfl rfl (hc) rfl rfl rfl ?_);simp [hlt, hlt', hx, RatD.cells, w1, hby, hdc, he])
 |(refine Split.by2 (fun h=>?_) (fun h=>?_)<;>(simp [h, hlt, hlt', hx, RatD.cells, w1, hby, hdc, he]))
 |(apply hK;clear hK K)|refine AWh ‹_› ?_)
      exact retq2 (cE (by simp [wtV, he]) (by simp [wtV, he]))
  · rintro ⟨g, out⟩ hJ hF
    rw [addA_nil] at hF
    simp only at hF
    subst hF
    repeat' (first
 |refine aK fun K hK=>?_|refine Step.by1 ?_|refine sE (by decide) ?_|refine cz rfl ?_|refine Fork.by2 (fun h=>?_) fun h=>?_
 |(refine aR ?_;simp [hdc])
 |(refine Split.by2 (fun h=>?_) (fun h=>?_)<;>(simp [h, hdc]))
 |(apply hK;clear hK K)|refine AWh ‹_› ?_)
    simp only [wtV, if_true]
    exact retq2 (conv_own2 (b := 1) rfl (by simp) rfl rfl)
/-- The same, frozen. -/
theorem c_ptWait (v : List RatD) (hv : v.length ≤ 1048576 ∧ ∀ r ∈ v, r.ok) (d : RatD) (hd : d.ok) (p1 : ptRight v = true) (p2 : rightQ d = true) (p3 : 0 ≤ d.num) (he : (addF d v []).1 = 0) : PC 58 [vl RatD.cells v, .agg d.cells] (.tup [vl RatD.cells (addF d v []).2, .int .i64 0]) := by
  have h := c_ptWaitO v hv d hd p1 p2 p3
  rw [he] at h
  have h2 := h.freezeT
  simpa [wtV, he, V.unown, vl] using h2
theorem c_ptWaitE (v : List RatD) (hv : v.length ≤ 1048576 ∧ ∀ r ∈ v, r.ok) (d : RatD) (hd : d.ok) (p1 : ptRight v = true) (p2 : rightQ d = true) (p3 : 0 ≤ d.num) (he : (addF d v []).1 ≠ 0) : PC 58 [vl RatD.cells v, .agg d.cells] (.tup [.nils, .int .i64 (addF d v []).1]) := by
  have h := c_ptWaitO v hv d hd p1 p2 p3
  simpa [wtV, he] using h
theorem c_isDelay (d : RatD) (hd : d.ok) : PC 55 [.agg d.cells] (.bool (delayB d)) := by
  have h1 := c_RightQ d hd
  unfold delayB
  generalize rightQ d = x at *
  simp only [RatD.cells] at *
  refine pB Tryz.func55 rfl (by decide) Tryz.ntmps55 (by simp) Tryz.results55 ?_
  cases x
  all_goals
    repeat' (first
 |refine aK fun K hK=>?_|refine Step.by1 ?_|refine sE (by decide) ?_|refine cz rfl ?_|refine Fork.by2 (fun h=>?_) fun h=>?_
 |((first|refine aR ?_|refine aC (f:=125) rfl rfl (h1) rfl rfl rfl ?_);simp)
 |(refine Split.by2 (fun h=>?_) (fun h=>?_)<;>(simp [h]))
 |(apply hK;clear hK K)|refine AWh ‹_› ?_)
    exact r1q (cE (by simp) rfl)
theorem g_Wait1 (h : List B) (n : NetD) (hn : n.ok) (c : CfgD) (hc : c.ok) (d : RatD) (hd : d.ok) (i j k : Nat) (hi : h[i]? = some (.var d.cells)) (hj : h[j]? = some (.var n.cells)) (hk : h[k]? = some (.var c.cells)) : GCall Tryz.prog GV 54 [.ptr i 0, .ptr j 0, .ptr k 0] h (fun v h' => v = .bool (lapsB n c d) ∧ h' = h) := by
  have h1 := c_isDelay d hd
  have h2 := c_StaysX n hn c.st
  have hcells : n.cells = [.vec (n.clocks.map fun x => [.str x]) n.clocks.length, .vec (n.vars.map VarD.cells) n.vars.length, .vec (n.chans.map fun x => [.str x]) n.chans.length, .vec (n.autos.map AutoD.cells) n.autos.length] := rfl
  have ccells : c.cells = [.vec (ivs c.st.locs) c.st.locs.length, .vec (ivs c.st.vars) c.st.vars.length, .vec (c.clocks.map RatD.cells) c.clocks.length] := rfl
  have scells : c.st.cells = [.vec (ivs c.st.locs) c.st.locs.length, .vec (ivs c.st.vars) c.st.vars.length] := rfl
  have dcells : d.cells = [.int .i64 d.num, .int .i64 d.den] := rfl
  rw [hcells] at hj h2
  rw [ccells] at hk
  rw [scells] at h2
  rw [dcells] at hi h1
  have e : lapsB n c d = (delayB d && (decide (d.num = 0) || staysE n c.st)) := rfl
  rw [e]
  generalize delayB d = x at *
  generalize staysE n c.st = y at *
  by_cases h0 : d.num = 0
  · rw [h0] at hi h1
    cases x
    all_goals
      refine gB1 Tryz.func54 rfl (by decide) Tryz.ntmps54 (by simp) Tryz.results54 ?_
      repeat' (first
 |refine aK fun K hK=>?_|refine Step.by1 ?_|refine sE (by decide) ?_|refine cz rfl ?_|refine Fork.by2 (fun h=>?_) fun h=>?_
 |((first|refine aR ?_|refine aC (f:=55) rfl rfl (h1) rfl rfl rfl ?_|refine aC (f:=56) rfl rfl (h2) rfl rfl rfl ?_);simp [hi, hj, hk, h0])
 |(refine Split.by2 (fun h=>?_) (fun h=>?_)<;>(simp [h, hi, hj, hk, h0]))
 |(apply hK;clear hK K)|refine AWh ‹_› ?_)
      exact retg1 (h' := h) ⟨by simp [h0], rfl⟩ rfl leaves_same
  · cases x
    all_goals
      refine gB1 Tryz.func54 rfl (by decide) Tryz.ntmps54 (by simp) Tryz.results54 ?_
      repeat' (first
 |refine aK fun K hK=>?_|refine Step.by1 ?_|refine sE (by decide) ?_|refine cz rfl ?_|refine Fork.by2 (fun h=>?_) fun h=>?_
 |((first|refine aR ?_|refine aC (f:=55) rfl rfl (h1) rfl rfl rfl ?_|refine aC (f:=56) rfl rfl (h2) rfl rfl rfl ?_);simp [hi, hj, hk, h0])
 |(refine Split.by2 (fun h=>?_) (fun h=>?_)<;>(simp [h, hi, hj, hk, h0]))
 |(apply hK;clear hK K)|refine AWh ‹_› ?_)
      exact retg1 (h' := h) ⟨by simp [h0], rfl⟩ rfl leaves_same
def fsW : List V := [.fn (.func 117) [] [.ptr 10 0], .fn (.func 124) [] [.ptr 14 0, .ptr 13 0], .fn (.func 124) [] [.ptr 16 0, .ptr 15 0], .fn (.func 57) [] [.ptr 1 0, .ptr 2 0, .ptr 9 0], .fn (.func 124) [] [.ptr 18 0, .ptr 17 0]]
def WHp (n : NetD) (c : CfgD) (d : RatD) (X : V) : List B := [.var n.cells, .var c.cells, .var d.cells, .var [.nils, .nils, .nils], .dead, .dead, .row 3 1 0 true (ivs c.st.locs), .row 3 1 0 true (ivs c.st.vars), .row 38 1 0 true (c.clocks.map RatD.cells), .var [.ref 6 1 0 c.st.locs.length, .ref 7 1 0 c.st.vars.length, X],
  .var n.cells, .var n.cells, .var c.cells, .var [.int .i64 130], .var [.fn (.func 118) [] [.ptr 11 0, .ptr 12 0]], .var [.int .i64 210], .var [.fn (.func 54) [] [.ptr 2 0, .ptr 0 0, .ptr 1 0]], .var [.int .i64 212], .var [.fn (.func 59) [] [.ptr 0 0, .ptr 9 0]], rowF fsW]
theorem WHp_len {n : NetD} {c : CfgD} {d : RatD} {X : V} : (WHp n c d X).length = 20 := rfl
theorem WHp_ok {n : NetD} {c : CfgD} {d : RatD} {X : V} (hX : X.lt 20 = true) : HL (WHp n c d X) := by
  intro y hy
  rw [WHp_len]
  simp only [WHp, rowF, fsW, List.mem_cons, List.not_mem_nil, or_false] at hy
  rcases hy with rfl | rfl | rfl | rfl | rfl | rfl | rfl | rfl | rfl | rfl | rfl | rfl | rfl | rfl | rfl | rfl | rfl | rfl | rfl | rfl
  all_goals (simp [NetD.cells, CfgD.cells, RatD.cells, vl, hX])
theorem CfgD.add_ok {c : CfgD} (hc : c.ok) {d : RatD} (h1 : ptRight c.clocks = true) (h2 : rightQ d = true) (h3 : (addF d c.clocks []).1 = 0) : CfgD.ok ⟨c.st, (addF d c.clocks []).2⟩ := by
  rw [addF_map h3]
  refine ⟨hc.1, by simpa using hc.2.1, fun r hr => ?_⟩
  obtain ⟨x, hx, rfl⟩ := List.mem_map.1 hr
  exact (addQ_ok ((ptRight_iff.1 h1).2 x hx).1 h2 (addF_iff.1 h3 x hx)).1
set_option maxHeartbeats 4000000 in
theorem g_Wait2 (n : NetD) (c : CfgD) (hc : c.ok) (d : RatD) (hd : d.ok) (p1 : ptRight c.clocks = true) (p2 : rightQ d = true) (p3 : 0 ≤ d.num) (X : V) : GCall Tryz.prog GV 57 [.ptr 1 0, .ptr 2 0, .ptr 9 0] (WHp n c d X) (fun v h' => v = .int .i64 (addF d c.clocks []).1 ∧ h' = WHp n c d (if (addF d c.clocks []).1 = 0 then vl RatD.cells (addF d c.clocks []).2 else .nils)) := by
  have ccells : c.cells = [.vec (ivs c.st.locs) c.st.locs.length, .vec (ivs c.st.vars) c.st.vars.length, .vec (c.clocks.map RatD.cells) c.clocks.length] := rfl
  have dcells : d.cells = [.int .i64 d.num, .int .i64 d.den] := rfl
  have hwt : PC 58 [vl RatD.cells c.clocks, .agg d.cells] (.tup [if (addF d c.clocks []).1 = 0 then vl RatD.cells (addF d c.clocks []).2 else .nils, .int .i64 (addF d c.clocks []).1]) := by
    by_cases h : (addF d c.clocks []).1 = 0
    · have := c_ptWait c.clocks hc.2 d hd p1 p2 p3 h
      rw [if_pos h, h]; exact this
    · have := c_ptWaitE c.clocks hc.2 d hd p1 p2 p3 h
      rw [if_neg h]; exact this
  obtain ⟨Y, hY⟩ : ∃ Y, (if (addF d c.clocks []).1 = 0 then vl RatD.cells (addF d c.clocks []).2 else V.nils) = Y := ⟨_, rfl⟩
  have hYl : ∀ k, Y.lt k = true := fun k => by rw [← hY]; split <;> simp [vl]
  rw [hY] at hwt ⊢
  have hL := WHp_ok (n := n) (c := c) (d := d) (X := Y) (hYl 20)
  by_cases h : (addF d c.clocks []).1 = 0
  · rw [if_pos h] at hY
    subst hY
    generalize addF d c.clocks [] = E at *
    simp only [vl, dcells] at hwt
    refine gB1 Tryz.func57 rfl (by decide) Tryz.ntmps57 (by simp) Tryz.results57 ?_
    repeat' (first
 |refine aK fun K hK=>?_|refine Step.by1 ?_|refine sE (by decide) ?_|refine cz rfl ?_|refine Fork.by2 (fun h=>?_) fun h=>?_
 |((first|refine aR ?_|refine aC (f:=58) rfl rfl (hwt) rfl rfl rfl ?_);simp [WHp, ccells, dcells, vl])
 |(refine Split.by2 (fun h=>?_) (fun h=>?_)<;>(simp [h, WHp, ccells, dcells, vl]))
 |(apply hK;clear hK K)|refine AWh ‹_› ?_)
    exact retg1 (h' := WHp n c d (vl RatD.cells E.2)) ⟨rfl, by simp [vl]⟩ (by simp) (Go.AM.Leaves.sym (by simp [WHp]) hL)
  · rw [if_neg h] at hY
    subst hY
    generalize addF d c.clocks [] = E at *
    simp only [vl, dcells] at hwt
    refine gB1 Tryz.func57 rfl (by decide) Tryz.ntmps57 (by simp) Tryz.results57 ?_
    repeat' (first
 |refine aK fun K hK=>?_|refine Step.by1 ?_|refine sE (by decide) ?_|refine cz rfl ?_|refine Fork.by2 (fun h=>?_) fun h=>?_
 |((first|refine aR ?_|refine aC (f:=58) rfl rfl (hwt) rfl rfl rfl ?_);simp [WHp, ccells, dcells, vl])
 |(refine Split.by2 (fun h=>?_) (fun h=>?_)<;>(simp [h, WHp, ccells, dcells, vl]))
 |(apply hK;clear hK K)|refine AWh ‹_› ?_)
    exact retg1 (h' := WHp n c d .nils) ⟨rfl, by simp [vl]⟩ (by simp) (Go.AM.Leaves.sym (by simp [WHp]) hL)
/-- The closures of Wait, one behind another. -/
theorem wait_chain (n : NetD) (hn : n.ok) (c : CfgD) (hc : c.ok) (d : RatD) (hd : d.ok) : ∃ X, (∀ k, X.lt k = true) ∧ ((waitS n c d).1 = 0 → X = vl RatD.cells (waitS n c d).2.clocks ∧ (waitS n c d).2.st = c.st) ∧ (Chain 19 (rowF fsW) fsW (WHp n c d (.ref 8 1 0 c.clocks.length)) (waitS n c d).1 (WHp n c d X) ∨ ((waitS n c d).1 ≠ 0 ∧ Chain 19 (rowF fsW) fsW (WHp n c d (.ref 8 1 0 c.clocks.length)) (waitS n c d).1 (WHp n c d (.ref 8 1 0 c.clocks.length)))) := by
  have hH0 : HL (WHp n c d (.ref 8 1 0 c.clocks.length)) := WHp_ok (by simp)
  have a1 : Callee (.fn (.func 117) [] [.ptr 10 0]) (WHp n c d (.ref 8 1 0 c.clocks.length)) (netE n) (WHp n c d (.ref 8 1 0 c.clocks.length)) := ⟨_, _, rfl, g_right1 _ n hn 10 rfl⟩
  have a2 : Callee (.fn (.func 124) [] [.ptr 14 0, .ptr 13 0]) (WHp n c d (.ref 8 1 0 c.clocks.length)) (if confB n c = true then 0 else 130) (WHp n c d (.ref 8 1 0 c.clocks.length)) := ⟨_, _, rfl, g_other1 _ 14 13 _ _ 130 (confB n c) rfl rfl (g_conf1 _ n hn c hc 11 12 rfl rfl)⟩
  have a3 : Callee (.fn (.func 124) [] [.ptr 16 0, .ptr 15 0]) (WHp n c d (.ref 8 1 0 c.clocks.length)) (if lapsB n c d = true then 0 else 210) (WHp n c d (.ref 8 1 0 c.clocks.length)) := ⟨_, _, rfl, g_other1 _ 16 15 _ _ 210 (lapsB n c d) rfl rfl (g_Wait1 _ n hn c hc d hd 2 0 1 rfl rfl rfl)⟩
  unfold waitS
  by_cases e1 : netE n = 0
  rotate_left
  · rw [if_pos e1]
    refine ⟨.nils, fun _ => rfl, fun h => absurd h e1, .inr ⟨e1, ?_⟩⟩
    exact .stop a1 e1 rfl hH0
  rw [if_neg (by simp [e1])]
  rw [e1] at a1
  cases e2 : confB n c
  · rw [if_pos rfl]
    rw [e2] at a2
    refine ⟨.nils, fun _ => rfl, fun h => (by cases h), .inr ⟨by simp, ?_⟩⟩
    exact .go _ a1 rfl hH0 rfl (.stop a2 (by simp) rfl hH0)
  rw [if_neg (by simp)]
  rw [e2] at a2
  cases e3 : lapsB n c d
  · rw [if_pos rfl]
    rw [e3] at a3
    refine ⟨.nils, fun _ => rfl, fun h => (by cases h), .inr ⟨by simp, ?_⟩⟩
    exact .go _ a1 rfl hH0 rfl (.go _ a2 rfl hH0 rfl (.stop a3 (by simp) rfl hH0))
  rw [if_neg (by simp)]
  rw [e3] at a3
  obtain ⟨c1, c2, c3⟩ := conf_iff.1 e2
  obtain ⟨d1, d2⟩ := laps_delay e3
  have a4 : Callee (.fn (.func 57) [] [.ptr 1 0, .ptr 2 0, .ptr 9 0]) (WHp n c d (.ref 8 1 0 c.clocks.length)) (addF d c.clocks []).1 (WHp n c d (if (addF d c.clocks []).1 = 0 then vl RatD.cells (addF d c.clocks []).2 else .nils)) := ⟨_, _, rfl, g_Wait2 n c hc d hd c3 d1 d2 _⟩
  by_cases e4 : (addF d c.clocks []).1 = 0
  rotate_left
  · rw [if_pos e4]
    rw [if_neg e4] at a4
    refine ⟨.nils, fun _ => rfl, fun h => absurd h e4, .inl ?_⟩
    exact .go _ a1 rfl hH0 rfl (.go _ a2 rfl hH0 rfl (.go _ a3 rfl hH0 rfl (.stop a4 e4 rfl (WHp_ok rfl))))
  rw [if_neg (by simp [e4])]
  have hok := CfgD.add_ok hc c3 d1 e4
  have hcf : confB n ⟨c.st, (addF d c.clocks []).2⟩ = true := by
    refine conf_iff.2 ⟨c1, ?_, ptRight_iff.2 ?_⟩
    · rw [addF_map e4]; simpa using c2
    · rw [addF_map e4]
      obtain ⟨p1, p2⟩ := ptRight_iff.1 c3
      refine ⟨by simpa using p1, fun r hr => ?_⟩
      obtain ⟨x, hx, rfl⟩ := List.mem_map.1 hr
      exact ⟨(addQ_ok (p2 x hx).1 d1 (addF_iff.1 e4 x hx)).2.1, addQ_pos (p2 x hx).1 d1 (addF_iff.1 e4 x hx) (p2 x hx).2 d2⟩
  rw [e4] at a4
  rw [if_pos rfl] at a4
  generalize (addF d c.clocks []).2 = E at *
  have hX : ∀ k, (vl RatD.cells E).lt k = true := fun k => by simp [vl]
  have hH1 : HL (WHp n c d (vl RatD.cells E)) := WHp_ok (hX 20)
  have a5 : Callee (.fn (.func 124) [] [.ptr 18 0, .ptr 17 0]) (WHp n c d (vl RatD.cells E)) (if keptB n ⟨c.st, E⟩ = true then 0 else 212) (WHp n c d (vl RatD.cells E)) := ⟨_, _, rfl, g_other1 _ 18 17 _ _ 212 (keptB n ⟨c.st, E⟩) rfl rfl (g_keptW _ n hn e1 ⟨c.st, E⟩ hok hcf 0 9 _ _ _ rfl rfl (by simp [seenV, WHp, CfgD.cells, ivs, vl]))⟩
  refine ⟨vl RatD.cells E, hX, fun _ => ?_, .inl ?_⟩
  · cases e5 : keptB n ⟨c.st, E⟩
    · rename_i h
      rw [e5, if_neg (by simp)] at h; cases h
    · rw [if_pos rfl]; exact ⟨rfl, rfl⟩
  · refine .go _ a1 rfl hH0 rfl (.go _ a2 rfl hH0 rfl (.go _ a3 rfl hH0 rfl (.go _ a4 rfl hH1 rfl ?_)))
    cases e5 : keptB n ⟨c.st, E⟩
    · rw [e5] at a5
      rw [if_neg (by simp)]
      exact .stop a5 (by simp) rfl hH1
    · rw [e5] at a5
      rw [if_pos rfl]
      exact .go _ a5 rfl hH1 rfl .nil
theorem wait_err {n : NetD} {c : CfgD} {d : RatD} (h : (waitS n c d).1 ≠ 0) : (waitS n c d).2 = noC := by
  by_cases hw : (waitS n c d).1 = 0
  · exact absurd hw h
  · unfold waitS at h ⊢
    split
    · rfl
    · rename_i q1
      rw [if_neg q1] at h
      split
      · rfl
      · rename_i q2
        rw [if_neg q2] at h
        split
        · rfl
        · rename_i q3
          rw [if_neg q3] at h
          split
          · rfl
          · rename_i q4
            rw [if_neg q4] at h
            split
            · rename_i q5
              rw [if_pos q5] at h; exact absurd rfl h
            · rfl
def stC (w : Int × CfgD) : V := if w.1 = 0 then .agg w.2.cells else .agg [.nils, .nils, .nils]
set_option maxRecDepth 40000 in
set_option maxHeartbeats 16000000 in
theorem c_Wait1 (n : NetD) (hn : n.ok) (c : CfgD) (hc : c.ok) (d : RatD) (hd : d.ok) : PC 21 [.agg n.cells, .agg c.cells, .agg d.cells] (.tup [stC (waitS n c d), .int .i64 (waitS n c d).1]) := by
  have hch : ∃ X, (∀ k, X.lt k = true ∨ X = .ref 8 1 0 c.clocks.length) ∧ ((waitS n c d).1 = 0 → X = vl RatD.cells (waitS n c d).2.clocks ∧ (waitS n c d).2.st = c.st) ∧ Chain 19 (rowF fsW) fsW (WHp n c d (.ref 8 1 0 c.clocks.length)) (waitS n c d).1 (WHp n c d X) := by
    obtain ⟨X, h1, h2, h3 | ⟨h3, h4⟩⟩ := wait_chain n hn c hc d hd
    · exact ⟨X, fun k => .inl (h1 k), h2, h3⟩
    · exact ⟨_, fun k => .inr rfl, fun h => absurd h h3, h4⟩
  obtain ⟨X, hX, hX2, hch⟩ := hch
  have hcells : n.cells = [.vec (n.clocks.map fun x => [.str x]) n.clocks.length, .vec (n.vars.map VarD.cells) n.vars.length, .vec (n.chans.map fun x => [.str x]) n.chans.length, .vec (n.autos.map AutoD.cells) n.autos.length] := rfl
  have ccells : c.cells = [.vec (ivs c.st.locs) c.st.locs.length, .vec (ivs c.st.vars) c.st.vars.length, .vec (c.clocks.map RatD.cells) c.clocks.length] := rfl
  have dcells : d.cells = [.int .i64 d.num, .int .i64 d.den] := rfl
  have hown := g_own (.var n.cells) (.var c.cells) (.var d.cells) (.var [.nils, .nils, .nils]) (by simp [hcells, ccells, dcells]) c hc
  obtain ⟨w, hw⟩ : ∃ w, waitS n c d = w := ⟨_, rfl⟩
  rw [hw] at hch hX2 ⊢
  have hv1 : (ivs c.st.locs).length = c.st.locs.length := by simp [ivs]
  have hv2 : (ivs c.st.vars).length = c.st.vars.length := by simp [ivs]
  simp only [hcells, ccells, dcells]
  refine pB Tryz.func21 rfl (by decide) Tryz.ntmps21 (by simp) Tryz.results21 ?_
  repeat' (first
 |refine aK fun K hK=>?_|refine Step.by1 ?_|refine sE (by decide) ?_|refine cz rfl ?_|refine Fork.by2 (fun h=>?_) fun h=>?_
 |(refine aR ?_;simp)
 |(refine Split.by2 (fun h=>?_) (fun h=>?_)<;>(simp [h]))
 |(refine aG (f := 52) rfl rfl (hown.imp (by simp [ccells]) (by simp [hcells, ccells, dcells])) rfl (fun v h' hq => ?_); obtain ⟨rfl, rfl⟩ := hq; simp [ownV, rowsR])
 |(apply hK;clear hK K)|refine AWh ‹_› ?_)
  have hrest : ∀ st' : St, st'.n = 29 → st'.h = WHp n c d X → lk st'.tm 6 = .ptr 3 0 → lk st'.tm 8 = .ptr 9 0 → lk st'.tm 9 = .int .i64 w.1 → K st' := by
    rintro ⟨sn, tm, H⟩ hsn hH u1 u2 u3
    refine hK _ ?_
    simp only at hsn hH u1 u2 u3
    subst hsn; subst hH
    refine AW.weak (st' := ⟨29, [(6, .ptr 3 0), (8, .ptr 9 0), (9, .int .i64 w.1)], WHp n c d X⟩) ?_ rfl ?_
    · have hXl : X.lt 20 = true := by
        rcases hX 20 with h | h
        · exact h
        · rw [h]; rfl
      exact Weak.sym (x := []) (by simp) (WHp_ok hXl) (by simp [u1, u2, u3, WHp_len])
    clear hK u1 u2 u3 hown hch
    by_cases hw0 : w.1 = 0
    · obtain ⟨rfl, hst⟩ := hX2 hw0
      repeat' (first
 |refine aK fun K hK=>?_|refine Step.by1 ?_|refine sE (by decide) ?_|refine cz rfl ?_|refine Fork.by2 (fun h=>?_) fun h=>?_
 |(refine aR ?_;simp [WHp, hw0])
 |(refine Split.by2 (fun h=>?_) (fun h=>?_)<;>(simp [h, WHp, hw0]))
 |(apply hK;clear hK K)|refine AWh ‹_› ?_)
      refine retq2ct rfl (by simp) (.inl ⟨3, ?_, by simp [stC, hw0, Go.AM.V.plain, Go.AM.V.isOwn]⟩)
      simp [frz, stC, hw0, CfgD.cells, hst, hv1, hv2, vl, Go.AM.V.isF]
    · repeat' (first
 |refine aK fun K hK=>?_|refine Step.by1 ?_|refine sE (by decide) ?_|refine cz rfl ?_|refine Fork.by2 (fun h=>?_) fun h=>?_
 |(refine aR ?_;simp [WHp, hw0])
 |(refine Split.by2 (fun h=>?_) (fun h=>?_)<;>(simp [h, WHp, hw0]))
 |(apply hK;clear hK K)|refine AWh ‹_› ?_)
      exact retq2ct rfl (by simp) (cE (by simp [stC, hw0]) (by simp))
  refine AW_region_chain 12 13 [0, 2, 3, 5, 7, 8] (fun H => H[0]? = some (.var [.vec (n.clocks.map fun x => [.str x]) n.clocks.length, .vec (n.vars.map VarD.cells) n.vars.length, .vec (n.chans.map fun x => [.str x]) n.chans.length, .vec (n.autos.map AutoD.cells) n.autos.length]) ∧ H[1]? = some (.var [.vec (ivs c.st.locs) c.st.locs.length, .vec (ivs c.st.vars) c.st.vars.length, .vec (c.clocks.map RatD.cells) c.clocks.length])) mixed (by decide) (by decide) rfl ⟨rfl, rfl⟩ ?_
  simp only [List.take_succ_cons, List.take_zero]
  refine PX_op (v := .agg n.cells) rfl rfl rfl rfl (fun H hs => by simp [hs.1, hcells]) ?_
  refine PX_skip rfl ?_
  refine PX_op (v := .agg n.cells) rfl rfl rfl rfl (fun H hs => by simp [hs.1, hcells]) ?_
  refine PX_op (v := .agg c.cells) rfl rfl rfl rfl (fun H hs => by simp [hs.2, ccells]) ?_
  refine PX_skip rfl ?_
  refine PX_op (v := .fn (.func 54) [] [.ptr 2 0, .ptr 0 0, .ptr 1 0]) rfl rfl rfl rfl (fun H hs => by simp) ?_
  refine PX_skip rfl ?_
  refine PX_op (v := .fn (.func 57) [] [.ptr 1 0, .ptr 2 0, .ptr 9 0]) rfl rfl rfl rfl (fun H hs => by simp) ?_
  refine PX_op (v := .fn (.func 59) [] [.ptr 0 0, .ptr 9 0]) rfl rfl rfl rfl (fun H hs => by simp) ?_
  refine PX_skip rfl ?_
  refine PX_skip rfl ?_
  refine PX_skip rfl ?_
  refine PX_nil ?_
  simp
  refine Ch_1 1 (by decide) (by decide) ?_
  refine ChS_callG (f := 46) rfl rfl rfl rfl (g_right _ (by simp [HL, hcells, ccells, dcells]) n) ?_
  rintro _ _ ⟨rfl, rfl⟩
  refine ⟨⟨rfl, rfl⟩, ?_⟩
  simp
  refine Ch_1 4 (by decide) (by decide) ?_
  refine ChS_callG (f := 47) rfl rfl rfl rfl (g_conf _ (by simp [HL, hcells, ccells, dcells]) n c) ?_
  rintro _ _ ⟨rfl, rfl⟩
  refine ⟨⟨rfl, rfl⟩, ?_⟩
  simp
  refine Ch_1 6 (by decide) (by decide) ?_
  refine ChS_callG (f := 53) rfl rfl rfl rfl (g_otherwise _ (by simp [HL, hcells, ccells, dcells]) 210 54 [.ptr 2 0, .ptr 0 0, .ptr 1 0] (by simp)) ?_
  rintro _ _ ⟨rfl, rfl⟩
  refine ⟨⟨rfl, rfl⟩, ?_⟩
  simp
  refine Ch_1 9 (by decide) (by decide) ?_
  refine ChS_callG (f := 53) rfl rfl rfl rfl (g_otherwise _ (by simp [HL, hcells, ccells, dcells]) 212 59 [.ptr 0 0, .ptr 9 0] (by simp)) ?_
  rintro _ _ ⟨rfl, rfl⟩
  refine ⟨⟨rfl, rfl⟩, ?_⟩
  simp
  refine Ch_1 10 (by decide) (by decide) ?_
  refine ChS_op rfl rfl rfl rfl (by simp) rfl ⟨rfl, rfl⟩ ?_
  simp
  refine Ch_1 11 (by decide) (by decide) ?_
  refine ChS_callG (f := 45) rfl rfl rfl rfl ((g_first 19 fsW (WHp n c d (.ref 8 1 0 c.clocks.length)) (WHp n c d X) w.1 (WHp_ok (by simp)) rfl (by decide) hch).imp rfl (by simp [WHp, fsW, rowF, hcells, ccells, dcells])) ?_
  rintro _ _ ⟨rfl, rfl⟩
  refine ⟨⟨rfl, rfl⟩, ?_⟩
  simp
  refine Ch_end (by decide) ?_
  refine AS_of_AO ?_
  simp
  exact hrest _ rfl rfl rfl rfl rfl
theorem c_Wait (n : NetD) (hn : n.ok) (c : CfgD) (hc : c.ok) (d : RatD) (hd : d.ok) : PC 21 [.agg n.cells, .agg c.cells, .agg d.cells] (.tup [.agg (waitS n c d).2.cells, .int .i64 (waitS n c d).1]) := by
  have h1 := c_Wait1 n hn c hc d hd
  by_cases h : (waitS n c d).1 = 0
  · rw [stC, if_pos h] at h1; exact h1
  · rw [stC, if_neg h] at h1
    rw [wait_err h]
    exact h1.dnt (by simp [V.isOwn]) (by simp [V.dns, V.dn, noC, CfgD.cells, ivs, vl]) (by simp [V.isOwn])
end Go.Proofs.YtbgooadmonnjaaaGreatDoor
end
