/-
  YtgmlimipejcpgaaGreatDoorCo34: steps of the proof of a law of the program: what these texts prove holds under the hypotheses that their theorems name, and no others.
-/
import Derived.Test.YtgmlimipejcpgaaGreatDoorCo33
section
set_option linter.unusedSimpArgs false
set_option linter.unusedVariables false
namespace Go.Proofs.YtgmlimipejcpgaaGreatDoor
open Go Go.AM Fx
def LocD.hcells (x : LocD) : List V := [.str x.name, .int .u8 x.kind, handV GuardD.cells markGuards x.inv]
def SetD.hcells (x : SetD) : List V := [.int .i64 x.clock, .int .i64 x.n, .int .i64 x.var, handV NodeD.cells markNodes x.expr]
def EdgeD.hcells (x : EdgeD) : List V := [.int .i64 x.frm, .int .i64 x.to, handV GuardD.cells markGuards x.guards, handV NodeD.cells markNodes x.test, .int .i64 x.chan, .bool x.send, vl SetD.hcells x.sets]
def AutoD.hcells (x : AutoD) : List V := [.str x.name, vl LocD.hcells x.locs, vl EdgeD.hcells x.edges]
def NetD.hcells (x : NetD) : List V := [handV (fun s => [V.str s]) markTexts x.clocks, vl VarD.cells x.vars, handV (fun s => [V.str s]) markTexts x.chans, vl AutoD.hcells x.autos]
/-- The beginning of a list, told. -/
def pre {α : Type} (c : α → List V) (l : List α) (i : Nat) : List (List V) := (l.take i).map c
theorem pre_len {α : Type} {c : α → List V} {l : List α} {i : Nat} (h : i ≤ l.length) : (pre c l i).length = i := by simp [pre]; omega
theorem pre_zero {α : Type} {c : α → List V} {l : List α} : pre c l 0 = [] := rfl
theorem pre_succ {α : Type} {c : α → List V} {l : List α} {i : Nat} (h : i < l.length) : pre c l (i + 1) = pre c l i ++ [c l[i]] := by
  unfold pre; rw [List.take_add_one, List.getElem?_eq_getElem h, List.map_append]; rfl
theorem pre_end {α : Type} {c : α → List V} {l : List α} : pre c l l.length = l.map c := by simp [pre]
def hnBase (n : NetD) (i : Nat) : List B := [.var n.cells, .var [.nils, .nils, .nils, .nils], .var [handV (fun s => [V.str s]) markTexts n.clocks, .ref 4 0 0 n.vars.length, handV (fun s => [V.str s]) markTexts n.chans, .ref 3 i 0 i],
  .row 104 i 0 true (pre AutoD.hcells n.autos i), .row 167 0 0 true (n.vars.map VarD.cells)]
def hnAuto (a : AutoD) (k m : Nat) : List B := [.var [.str a.name, .ref 6 k 0 k, .ref 7 m 0 m], .row 108 k 0 true (pre LocD.hcells a.locs k), .row 113 m 0 true (pre EdgeD.hcells a.edges m)]
def hnEdge (y : EdgeD) (q : Nat) : List B := [.var [.int .i64 y.frm, .int .i64 y.to, handV GuardD.cells markGuards y.guards, handV NodeD.cells markNodes y.test, .int .i64 y.chan, .bool y.send, vl SetD.cells y.sets], .row 116 q 0 true (pre SetD.hcells y.sets q)]
set_option maxRecDepth 8000 in
set_option maxHeartbeats 8000000 in
theorem c_HandNet (n : NetD) (hn : n.ok) : PC 11 [.agg n.cells] (.agg n.hcells) := by
  obtain ⟨⟨h1, _⟩, ⟨h2, _⟩, ⟨h3, _⟩, h4, h5⟩ := hn
  have hc1 := c_HandTexts n.clocks (by omega)
  simp only [handV, vl] at hc1
  have hc2 := c_HandTexts n.chans (by omega)
  simp only [handV, vl] at hc2
  have htk : (n.vars.map VarD.cells).take n.vars.length = n.vars.map VarD.cells := List.take_of_length_le (by simp)
  have hb1 : n.vars.length * 40 ≤ 140737488355328 := by omega
  refine pB Tryz.func11 rfl (by decide) Tryz.ntmps11 (by simp) Tryz.results11 ?_
  repeat' (first
 |refine AW_nilcell 2 3 104 rfl rfl (by simp) ?_
 |refine aK fun K hK=>?_|refine Step.by1 ?_|refine sE (by decide) ?_|refine cz rfl ?_|refine Fork.by2 (fun h=>?_) fun h=>?_
 |(refine aR ?_;simp [NetD.cells, vl, handV, htk, hb1])
 |(refine Split.by2 (fun h=>?_) (fun h=>?_)<;>(simp [h, NetD.cells, vl, handV, htk, hb1]))
 | (refine AW_region_APA (id := 1) 8 7 [.nils, .nils, .nils, .nils] mixed (by decide) (by decide) ?_; simp [NetD.cells, vl, handV, htk, hb1])
 | (refine APA_nil ?_; simp [NetD.cells, vl, handV, htk, hb1])
 | (refine APA_alloc (by rfl) rfl ?_; simp [NetD.cells, vl, handV, htk, hb1])
 | (refine APA_still (by decide) rfl rfl (by simp [NetD.cells, vl, handV, htk, hb1]) (by simp [Op.operands, Call.operands, NetD.cells, vl, handV, htk, hb1]) ?_; simp [NetD.cells, vl, handV, htk, hb1])
 | (refine APA_call (f := 55) (by decide) rfl rfl (hc1) rfl rfl rfl (by simp [Op.operands, Call.operands, NetD.cells, vl, handV, htk, hb1]) ?_; simp [NetD.cells, vl, handV, htk, hb1])
 | (refine APA_call (f := 55) (by decide) rfl rfl (hc2) rfl rfl rfl (by simp [Op.operands, Call.operands, NetD.cells, vl, handV, htk, hb1]) ?_; simp [NetD.cells, vl, handV, htk, hb1])
 |(apply hK;clear hK K)|refine AWh ‹_› ?_)
  refine aL [1, 2, 3] (fun i : Nat => [(4, .int .i64 i)]) (hnBase n) (fun i => i ≤ n.autos.length) (fun i => n.autos.length - i) 0 (Nat.zero_le _) (by apply Weak.mk' <;> simp [hnBase, NetD.cells, vl, handV, pre_zero]) (fun _ _ => rfl) ?_
  intro i hi
  by_cases hlt : i < n.autos.length
  · have hps := pre_succ (c := AutoD.hcells) hlt
    have hpl := pre_len (c := AutoD.hcells) hi
    have hok := h5 _ (List.getElem_mem hlt)
    obtain ⟨a, ha⟩ : ∃ a, n.autos[i] = a := ⟨_, rfl⟩
    rw [ha] at hps hok
    obtain ⟨_, ⟨hl1, hl2⟩, he1, he2⟩ := hok
    have hlt' : (i : Int) < n.autos.length := by omega
    repeat' (first
 |refine AW_nilcell 5 1 108 rfl rfl (by simp) ?_
 |refine AW_nilcell 5 2 113 rfl rfl (by simp) ?_
 |refine aK fun K hK=>?_|refine Step.by1 ?_|refine sE (by decide) ?_|refine cz rfl ?_|refine Fork.by2 (fun h=>?_) fun h=>?_
 |(refine aR ?_;simp [hnBase, NetD.cells, AutoD.cells, vl, hlt, hlt', ha])
 |(refine Split.by2 (fun h=>?_) (fun h=>?_)<;>(simp [h, hnBase, NetD.cells, AutoD.cells, vl, hlt, hlt', ha]))
 |(apply hK;clear hK K)|refine AWh ‹_› ?_)
    refine aL [1, 2, 3, 4, 5] (fun k : Nat => [(6, .int .i64 k)]) (fun k => hnBase n i ++ hnAuto a k 0) (fun k => k ≤ a.locs.length) (fun k => a.locs.length - k) 0 (Nat.zero_le _) (by apply Weak.mk' <;> simp [hnBase, hnAuto, NetD.cells, vl, handV, pre_zero]) (fun _ _ => rfl) ?_
    intro k hk
    by_cases hkt : k < a.locs.length
    · have hps1 := pre_succ (c := LocD.hcells) hkt
      have hpl1 := pre_len (c := LocD.hcells) hk
      have hok1 := hl2 _ (List.getElem_mem hkt)
      obtain ⟨x, hx⟩ : ∃ x, a.locs[k] = x := ⟨_, rfl⟩
      rw [hx] at hps1 hok1
      have hcx := c_HandGuards x.inv (by have := hok1.2.2.1; omega)
      simp only [handV, vl] at hcx
      have hkt' : (k : Int) < a.locs.length := by omega
      have hb2 : (k + 1) * 48 ≤ 140737488355328 := by omega
      repeat' (first
 |refine aK fun K hK=>?_|refine Step.by1 ?_|refine sE (by decide) ?_|refine cz rfl ?_|refine Fork.by2 (fun h=>?_) fun h=>?_
 |((first|refine aR ?_|refine aC (f:=56) rfl rfl (hcx) rfl rfl rfl ?_);simp [hnBase, hnAuto, NetD.cells, AutoD.cells, LocD.cells, vl, hlt, hlt', ha, hkt, hkt', hx, hpl1, hb2, wI];try (simp (disch:=omega) only [wI];try simp [hnBase, hnAuto, NetD.cells, AutoD.cells, LocD.cells, vl, hlt, hlt', ha, hkt, hkt', hx, hpl1, hb2, wI]))
 |(refine Split.by2 (fun h=>?_) (fun h=>?_)<;>(simp [h, hnBase, hnAuto, NetD.cells, AutoD.cells, LocD.cells, vl, hlt, hlt', ha, hkt, hkt', hx, hpl1, hb2, wI];try (simp (disch:=omega) only [wI];try simp [hnBase, hnAuto, NetD.cells, AutoD.cells, LocD.cells, vl, hlt, hlt', ha, hkt, hkt', hx, hpl1, hb2, wI])))
 |(apply hK;clear hK K)|refine AWh ‹_› ?_)
      refine ⟨k + 1, by omega, by omega, ?_⟩
      apply Weak.mk' <;> simp [hnBase, hnAuto, NetD.cells, vl, handV, hps1, LocD.hcells]
    · have hke : k = a.locs.length := by omega
      subst hke
      repeat' (first
 |refine aK fun K hK=>?_|refine Step.by1 ?_|refine sE (by decide) ?_|refine cz rfl ?_|refine Fork.by2 (fun h=>?_) fun h=>?_
 |(refine aR ?_;simp [hnBase, hnAuto, NetD.cells, AutoD.cells, vl, hlt, hlt', ha, hkt])
 |(refine Split.by2 (fun h=>?_) (fun h=>?_)<;>(simp [h, hnBase, hnAuto, NetD.cells, AutoD.cells, vl, hlt, hlt', ha, hkt]))
 |(apply hK;clear hK K)|refine AWh ‹_› ?_)
      refine aL [1, 2, 3, 4, 5] (fun m : Nat => [(8, .int .i64 m)]) (fun m => hnBase n i ++ hnAuto a a.locs.length m) (fun m => m ≤ a.edges.length) (fun m => a.edges.length - m) 0 (Nat.zero_le _) (by apply Weak.mk' <;> simp [hnBase, hnAuto, NetD.cells, vl, handV, pre_zero]) (fun _ _ => rfl) ?_
      intro m hm
      by_cases hmt : m < a.edges.length
      · have hps2 := pre_succ (c := EdgeD.hcells) hmt
        have hpl2 := pre_len (c := EdgeD.hcells) hm
        have hok2 := he2 _ (List.getElem_mem hmt)
        obtain ⟨y, hy⟩ : ∃ y, a.edges[m] = y := ⟨_, rfl⟩
        rw [hy] at hps2 hok2
        obtain ⟨_, _, ok3, ok4, _, _, ok7, ok8⟩ := hok2
        have hcg := c_HandGuards y.guards (by have := ok3.1; omega)
        simp only [handV, vl] at hcg
        have hcn := c_HandNodes y.test (by have := ok4.1; omega)
        simp only [handV, vl] at hcn
        have hmt' : (m : Int) < a.edges.length := by omega
        have hb3 : (m + 1) * 104 ≤ 140737488355328 := by omega
        repeat' (first
 |refine AW_nilrow 10 116 rfl (by simp) ?_
 |refine aK fun K hK=>?_|refine Step.by1 ?_|refine sE (by decide) ?_|refine cz rfl ?_|refine Fork.by2 (fun h=>?_) fun h=>?_
 |((first|refine aR ?_|refine aC (f:=56) rfl rfl (hcg) rfl rfl rfl ?_|refine aC (f:=57) rfl rfl (hcn) rfl rfl rfl ?_);simp [hnBase, hnAuto, NetD.cells, AutoD.cells, EdgeD.cells, vl, hlt, hlt', ha, hmt, hmt', hy, hpl2, hb3, wI];try (simp (disch:=omega) only [wI];try simp [hnBase, hnAuto, NetD.cells, AutoD.cells, EdgeD.cells, vl, hlt, hlt', ha, hmt, hmt', hy, hpl2, hb3, wI]))
 |(refine Split.by2 (fun h=>?_) (fun h=>?_)<;>(simp [h, hnBase, hnAuto, NetD.cells, AutoD.cells, EdgeD.cells, vl, hlt, hlt', ha, hmt, hmt', hy, hpl2, hb3, wI];try (simp (disch:=omega) only [wI];try simp [hnBase, hnAuto, NetD.cells, AutoD.cells, EdgeD.cells, vl, hlt, hlt', ha, hmt, hmt', hy, hpl2, hb3, wI])))
 |(apply hK;clear hK K)|refine AWh ‹_› ?_)
        refine aL [1, 2, 3, 4, 5, 8, 9] (fun q : Nat => [(11, .int .i64 q), (10, .ref 9 q 0 q)]) (fun q => hnBase n i ++ hnAuto a a.locs.length m ++ hnEdge y q) (fun q => q ≤ y.sets.length) (fun q => y.sets.length - q) 0 (Nat.zero_le _) (by apply Weak.mk' <;> simp [hnBase, hnAuto, hnEdge, NetD.cells, vl, handV, pre_zero]) (fun _ _ => rfl) ?_
        intro q hq
        by_cases hqt : q < y.sets.length
        · have hps3 := pre_succ (c := SetD.hcells) hqt
          have hpl3 := pre_len (c := SetD.hcells) hq
          have hok3 := ok8 _ (List.getElem_mem hqt)
          obtain ⟨z, hz⟩ : ∃ z, y.sets[q] = z := ⟨_, rfl⟩
          rw [hz] at hps3 hok3
          have hcz := c_HandNodes z.expr (by have := hok3.2.2.2.1; omega)
          simp only [handV, vl] at hcz
          have hqt' : (q : Int) < y.sets.length := by omega
          have hb4 : (q + 1) * 48 ≤ 140737488355328 := by omega
          repeat' (first
 |refine aK fun K hK=>?_|refine Step.by1 ?_|refine sE (by decide) ?_|refine cz rfl ?_|refine Fork.by2 (fun h=>?_) fun h=>?_
 |((first|refine aR ?_|refine aC (f:=57) rfl rfl (hcz) rfl rfl rfl ?_);simp [hnBase, hnAuto, hnEdge, NetD.cells, SetD.cells, vl, handV, hqt, hqt', hz, hpl3, hb4, wI];try (simp (disch:=omega) only [wI];try simp [hnBase, hnAuto, hnEdge, NetD.cells, SetD.cells, vl, handV, hqt, hqt', hz, hpl3, hb4, wI]))
 |(refine Split.by2 (fun h=>?_) (fun h=>?_)<;>(simp [h, hnBase, hnAuto, hnEdge, NetD.cells, SetD.cells, vl, handV, hqt, hqt', hz, hpl3, hb4, wI];try (simp (disch:=omega) only [wI];try simp [hnBase, hnAuto, hnEdge, NetD.cells, SetD.cells, vl, handV, hqt, hqt', hz, hpl3, hb4, wI])))
 |(apply hK;clear hK K)|refine AWh ‹_› ?_)
          refine ⟨q + 1, by omega, by omega, ?_⟩
          apply Weak.mk' <;> simp [hnBase, hnAuto, hnEdge, NetD.cells, vl, handV, hps3, SetD.hcells]
        · have hqe : q = y.sets.length := by omega
          subst hqe
          repeat' (first
 |refine AW_viewcell 8 6 rfl rfl rfl (by simp [pre_end]) ?_
 |refine aK fun K hK=>?_|refine Step.by1 ?_|refine sE (by decide) ?_|refine cz rfl ?_|refine Fork.by2 (fun h=>?_) fun h=>?_
 |(refine aR ?_;simp [hnBase, hnAuto, hnEdge, NetD.cells, vl, handV, hqt, hpl2, hb3, pre_end, wI];try (simp (disch:=omega) only [wI];try simp [hnBase, hnAuto, hnEdge, NetD.cells, vl, handV, hqt, hpl2, hb3, pre_end, wI]))
 |(refine Split.by2 (fun h=>?_) (fun h=>?_)<;>(simp [h, hnBase, hnAuto, hnEdge, NetD.cells, vl, handV, hqt, hpl2, hb3, pre_end, wI];try (simp (disch:=omega) only [wI];try simp [hnBase, hnAuto, hnEdge, NetD.cells, vl, handV, hqt, hpl2, hb3, pre_end, wI])))
 |(apply hK;clear hK K)|refine AWh ‹_› ?_)
          refine ⟨m + 1, by omega, by omega, ?_⟩
          apply Weak.mk' <;> simp [hnBase, hnAuto, NetD.cells, vl, handV, hps2, EdgeD.hcells]
      · have hme : m = a.edges.length := by omega
        subst hme
        have hb5 : (i + 1) * 64 ≤ 140737488355328 := by omega
        repeat' (first
 |refine AW_viewcell 5 1 rfl rfl rfl (by simp [pre_end]) ?_
 |refine AW_viewcell 5 2 rfl rfl rfl (by simp [pre_end]) ?_
 |refine aK fun K hK=>?_|refine Step.by1 ?_|refine sE (by decide) ?_|refine cz rfl ?_|refine Fork.by2 (fun h=>?_) fun h=>?_
 |(refine aR ?_;simp [hnBase, hnAuto, NetD.cells, AutoD.cells, vl, handV, hlt, hlt', ha, hmt, hpl, hb5, pre_end, wI];try (simp (disch:=omega) only [wI];try simp [hnBase, hnAuto, NetD.cells, AutoD.cells, vl, handV, hlt, hlt', ha, hmt, hpl, hb5, pre_end, wI]))
 |(refine Split.by2 (fun h=>?_) (fun h=>?_)<;>(simp [h, hnBase, hnAuto, NetD.cells, AutoD.cells, vl, handV, hlt, hlt', ha, hmt, hpl, hb5, pre_end, wI];try (simp (disch:=omega) only [wI];try simp [hnBase, hnAuto, NetD.cells, AutoD.cells, vl, handV, hlt, hlt', ha, hmt, hpl, hb5, pre_end, wI])))
 |(apply hK;clear hK K)|refine AWh ‹_› ?_)
        refine ⟨i + 1, by omega, by omega, ?_⟩
        apply Weak.mk' <;> simp [hnBase, NetD.cells, vl, handV, hps, AutoD.hcells]
  · have hie : i = n.autos.length := by omega
    subst hie
    repeat' (first
 |refine aK fun K hK=>?_|refine Step.by1 ?_|refine sE (by decide) ?_|refine cz rfl ?_|refine Fork.by2 (fun h=>?_) fun h=>?_
 |(refine aR ?_;simp [hnBase, NetD.cells, vl, handV, hlt, pre_end])
 |(refine Split.by2 (fun h=>?_) (fun h=>?_)<;>(simp [h, hnBase, NetD.cells, vl, handV, hlt, pre_end]))
 |(apply hK;clear hK K)|refine AWh ‹_› ?_)
    refine ⟨.inr rfl, .agg [.vec (n.clocks.map (fun s => [V.str s]) ++ (List.range 9).map markTexts) n.clocks.length, .ref 4 0 0 n.vars.length, .vec (n.chans.map (fun s => [V.str s]) ++ (List.range 9).map markTexts) n.chans.length, .ref 3 n.autos.length 0 n.autos.length], by simp only [RetV, ResOk]; exact ⟨_, 0, rfl, by simp, by simp⟩, .inl ⟨3, ?_, ?_⟩⟩
    · simp [NetD.hcells, handV, vl, pre_end]
    · simp [NetD.hcells, V.plain]
set_option maxRecDepth 40000 in
set_option maxHeartbeats 16000000 in
theorem c_SameNet (a b : NetD) (ha : a.ok) : PC 70 [.agg a.cells, .agg b.cells] (.bool (decide (a = b))) := by
  obtain ⟨⟨ha1, _⟩, ⟨ha2, _⟩, ⟨ha3, _⟩, ha4, ha5⟩ := ha
  have hc1 := c_SameTexts a.clocks b.clocks (by omega)
  have hc2 := c_SameTexts a.chans b.chans (by omega)
  refine pB Tryz.func70 rfl (by decide) Tryz.ntmps70 (by simp) Tryz.results70 ?_
  by_cases h0 : a.clocks = b.clocks ∧ a.chans = b.chans ∧ a.vars.length = b.vars.length ∧ a.autos.length = b.autos.length
  · obtain ⟨e0, e1, e2, e3⟩ := h0
    have e2' : (a.vars.length : Int) = b.vars.length := by omega
    have e3' : (a.autos.length : Int) = b.autos.length := by omega
    rw [decide_eq_true e0] at hc1
    rw [decide_eq_true e1] at hc2
    simp only [vl] at hc1 hc2
    repeat' (first
 |refine aK fun K hK=>?_|refine Step.by1 ?_|refine sE (by decide) ?_|refine cz rfl ?_|refine Fork.by2 (fun h=>?_) fun h=>?_
 |((first|refine aR ?_|refine aC (f:=141) rfl rfl (hc1) rfl rfl rfl ?_|refine aC (f:=141) rfl rfl (hc2) rfl rfl rfl ?_);simp [vl, NetD.cells, e2', e3'])
 |(refine Split.by2 (fun h=>?_) (fun h=>?_)<;>(simp [h, vl, NetD.cells, e2', e3']))
 |(apply hK;clear hK K)|refine AWh ‹_› ?_)
    refine aL [2, 3] (fun i : Nat => [(5, .int .i64 i)]) (fun _ => [.var a.cells, .var b.cells]) (fun i => i ≤ a.vars.length ∧ a.vars.take i = b.vars.take i) (fun i => a.vars.length - i) 0 ⟨Nat.zero_le _, rfl⟩ (by apply Weak.mk' <;> simp [vl, NetD.cells]) (fun _ _ => rfl) ?_
    intro i hi
    by_cases hlt : i < a.vars.length
    · have hlb : i < b.vars.length := by omega
      have hne : a.vars[i] ≠ b.vars[i] → a ≠ b := fun h e => h (by subst e; rfl)
      have hsucc := fun h => take_same hi.2 hlt hlb h
      obtain ⟨x, hx⟩ : ∃ x, a.vars[i] = x := ⟨_, rfl⟩
      obtain ⟨y, hy⟩ : ∃ y, b.vars[i] = y := ⟨_, rfl⟩
      rw [hx, hy] at hne hsucc
      rw [ne_eq, VarD_eq] at hne
      rw [VarD_eq] at hsucc
      repeat' (first
 |refine aK fun K hK=>?_|refine Step.by1 ?_|refine sE (by decide) ?_|refine cz rfl ?_|refine Fork.by2 (fun h=>?_) fun h=>?_
 |((first|refine aR ?_|refine aX (id:=6) 11 mixed (by decide) ?_);simp [vl, NetD.cells, VarD.cells, hlt, hlb, hx, hy, wI];try (simp (disch:=omega) only [wI];try simp [vl, NetD.cells, VarD.cells, hlt, hlb, hx, hy, wI]))
 |(refine Split.by2 (fun h=>?_) (fun h=>?_)<;>(simp [h, vl, NetD.cells, VarD.cells, hlt, hlb, hx, hy, wI];try (simp (disch:=omega) only [wI];try simp [vl, NetD.cells, VarD.cells, hlt, hlb, hx, hy, wI])))
 |(apply hK;clear hK K)|refine AWh ‹_› ?_)
      all_goals first
        | exact r1q (cE (by simp; exact hne (by first | exact h | (simp at h; intro he; simp [he] at h))) rfl)
        | (refine ⟨i + 1, ⟨by omega, hsucc (by first | exact h | (simp at h; simp [h]))⟩, by omega, ?_⟩; apply Weak.mk' <;> simp [vl, NetD.cells])
    · have hie : i = a.vars.length := by omega
      subst hie
      have hev : a.vars = b.vars := take_end hi.2 e2
      repeat' (first
 |refine aK fun K hK=>?_|refine Step.by1 ?_|refine sE (by decide) ?_|refine cz rfl ?_|refine Fork.by2 (fun h=>?_) fun h=>?_
 |(refine aR ?_;simp [vl, NetD.cells, hlt])
 |(refine Split.by2 (fun h=>?_) (fun h=>?_)<;>(simp [h, vl, NetD.cells, hlt]))
 |(apply hK;clear hK K)|refine AWh ‹_› ?_)
      refine aL [2, 3] (fun i : Nat => [(6, .int .i64 i)]) (fun _ => [.var a.cells, .var b.cells]) (fun i => i ≤ a.autos.length ∧ a.autos.take i = b.autos.take i) (fun i => a.autos.length - i) 0 ⟨Nat.zero_le _, rfl⟩ (by apply Weak.mk' <;> simp [vl, NetD.cells]) (fun _ _ => rfl) ?_
      intro i hi
      by_cases hlt : i < a.autos.length
      · have hlb : i < b.autos.length := by omega
        have hne : a.autos[i] ≠ b.autos[i] → a ≠ b := fun h e => h (by subst e; rfl)
        have hsucc := fun h => take_same hi.2 hlt hlb h
        have hok := ha5 a.autos[i] (List.getElem_mem hlt)
        obtain ⟨x, hx⟩ : ∃ x, a.autos[i] = x := ⟨_, rfl⟩
        obtain ⟨y, hy⟩ : ∃ y, b.autos[i] = y := ⟨_, rfl⟩
        rw [hx] at hok
        rw [hx, hy] at hne hsucc
        have hc3 := c_sameAuto x y hok
        simp only [AutoD.cells, vl] at hc3
        repeat' (first
 |refine aK fun K hK=>?_|refine Step.by1 ?_|refine sE (by decide) ?_|refine cz rfl ?_|refine Fork.by2 (fun h=>?_) fun h=>?_
 |((first|refine aR ?_|refine aX (id:=11) 12 mixed (by decide) ?_|refine aP1 (f:=142) rfl rfl (hc3) rfl rfl rfl ?_);simp [vl, NetD.cells, AutoD.cells, hlt, hlb, hx, hy, wI];try (simp (disch:=omega) only [wI];try simp [vl, NetD.cells, AutoD.cells, hlt, hlb, hx, hy, wI]))
 |(refine Split.by2 (fun h=>?_) (fun h=>?_)<;>(simp [h, vl, NetD.cells, AutoD.cells, hlt, hlb, hx, hy, wI];try (simp (disch:=omega) only [wI];try simp [vl, NetD.cells, AutoD.cells, hlt, hlb, hx, hy, wI])))
 |(apply hK;clear hK K)|refine AWh ‹_› ?_)
        all_goals first
          | exact r1q (cE (by simp; exact hne h) rfl)
          | (refine ⟨i + 1, ⟨by omega, hsucc h⟩, by omega, ?_⟩; apply Weak.mk' <;> simp [vl, NetD.cells])
      · have hie : i = a.autos.length := by omega
        subst hie
        have hee : a.autos = b.autos := take_end hi.2 e3
        have he : a = b := (NetD_eq a b).2 ⟨e0, e1, hev, hee⟩
        repeat' (first
 |refine aK fun K hK=>?_|refine Step.by1 ?_|refine sE (by decide) ?_|refine cz rfl ?_|refine Fork.by2 (fun h=>?_) fun h=>?_
 |(refine aR ?_;simp [vl, NetD.cells, hlt])
 |(refine Split.by2 (fun h=>?_) (fun h=>?_)<;>(simp [h, vl, NetD.cells, hlt]))
 |(apply hK;clear hK K)|refine AWh ‹_› ?_)
        exact r1q (cE (by simp [he]) rfl)
  · have he : ¬ a = b := fun h => h0 (by subst h; exact ⟨rfl, rfl, rfl, rfl⟩)
    simp only [vl] at hc1 hc2
    repeat' (first
 |refine aK fun K hK=>?_|refine Step.by1 ?_|refine sE (by decide) ?_|refine cz rfl ?_|refine Fork.by2 (fun h=>?_) fun h=>?_
 |((first|refine aR ?_|refine aC (f:=141) rfl rfl (hc1) rfl rfl rfl ?_|refine aC (f:=141) rfl rfl (hc2) rfl rfl rfl ?_);simp [vl, NetD.cells])
 |(refine Split.by2 (fun h=>?_) (fun h=>?_)<;>(simp [h, vl, NetD.cells]))
 |(apply hK;clear hK K)|refine AWh ‹_› ?_)
    all_goals first
      | exact r1q (cE (by simp [he]) rfl)
      | (exfalso; exact h0 ⟨by assumption, by assumption, by omega, by omega⟩)
theorem trim_vl' {α : Type} {c c' : α → List V} {l : List α} (h : ∀ x ∈ l, V.trims (c x) = c' x) : (vl c l).trim = vl c' l := by
  have := trim_pad (c := c) (c' := c') (l := l) [] h
  rw [List.append_nil] at this; exact this
theorem trims_LocH (x : LocD) : V.trims x.hcells = x.cells := by simp [LocD.hcells, LocD.cells, V.trims, V.trim, trim_handGuards]
theorem trims_Loc (x : LocD) : V.trims x.cells = x.cells := by simp [LocD.cells, V.trims, V.trim, trim_vlGuards]
theorem trims_SetH (x : SetD) : V.trims x.hcells = x.cells := by simp [SetD.hcells, SetD.cells, V.trims, V.trim, trim_handNodes]
theorem trims_Set (x : SetD) : V.trims x.cells = x.cells := by simp [SetD.cells, V.trims, V.trim, trim_vlNodes]
theorem trims_EdgeH (x : EdgeD) : V.trims x.hcells = x.cells := by
  simp [EdgeD.hcells, EdgeD.cells, V.trims, V.trim, trim_handGuards, trim_handNodes, trim_vl' (c := SetD.hcells) (c' := SetD.cells) fun y _ => trims_SetH y]
theorem trims_Edge (x : EdgeD) : V.trims x.cells = x.cells := by
  simp [EdgeD.cells, V.trims, V.trim, trim_vlGuards, trim_vlNodes, trim_vl' (c := SetD.cells) (c' := SetD.cells) fun y _ => trims_Set y]
theorem trims_AutoH (x : AutoD) : V.trims x.hcells = x.cells := by
  simp [AutoD.hcells, AutoD.cells, V.trims, V.trim, trim_vl' (c := LocD.hcells) (c' := LocD.cells) fun y _ => trims_LocH y, trim_vl' (c := EdgeD.hcells) (c' := EdgeD.cells) fun y _ => trims_EdgeH y]
theorem trims_Auto (x : AutoD) : V.trims x.cells = x.cells := by
  simp [AutoD.cells, V.trims, V.trim, trim_vl' (c := LocD.cells) (c' := LocD.cells) fun y _ => trims_Loc y, trim_vl' (c := EdgeD.cells) (c' := EdgeD.cells) fun y _ => trims_Edge y]
theorem trims_Var (x : VarD) : V.trims x.cells = x.cells := by simp [VarD.cells, V.trims, V.trim]
theorem trims_NetH (x : NetD) : V.trims x.hcells = x.cells := by
  simp [NetD.hcells, NetD.cells, V.trims, V.trim, trim_handTexts, trim_vl' (c := VarD.cells) (c' := VarD.cells) fun y _ => trims_Var y, trim_vl' (c := AutoD.hcells) (c' := AutoD.cells) fun y _ => trims_AutoH y]
theorem trims_Net (x : NetD) : V.trims x.cells = x.cells := by
  simp [NetD.cells, V.trims, V.trim, trim_vlTexts, trim_vl' (c := VarD.cells) (c' := VarD.cells) fun y _ => trims_Var y, trim_vl' (c := AutoD.cells) (c' := AutoD.cells) fun y _ => trims_Auto y]
theorem trims_netArg (x : NetD) (r : List V) : V.trims (.agg x.hcells :: r) = .agg x.cells :: V.trims r := by simp [V.trims, V.trim, trims_NetH]
set_option maxRecDepth 40000 in
set_option maxHeartbeats 16000000 in
theorem c_KeptNet (n : NetD) (hn : n.ok) : PC 17 [.agg n.hcells, .agg n.cells] (.bool true) := by
  have hs := (c_SameNet n n hn).trim (args := [.agg n.hcells, .agg n.cells]) (by simp only [V.trims, V.trim, trims_NetH, trims_Net])
  simp only [decide_true] at hs
  obtain ⟨⟨ha1, _⟩, ⟨ha2, _⟩, ⟨ha3, _⟩, ha4, ha5⟩ := hn
  have hc1 := c_KeptTexts n.clocks (by omega)
  have hc2 := c_KeptTexts n.chans (by omega)
  refine pB Tryz.func17 rfl (by decide) Tryz.ntmps17 (by simp) Tryz.results17 ?_
  repeat' (first
 |refine aK fun K hK=>?_|refine Step.by1 ?_|refine sE (by decide) ?_|refine cz rfl ?_|refine Fork.by2 (fun h=>?_) fun h=>?_
 |((first|refine aR ?_|refine aC (f:=70) rfl rfl (hs) rfl rfl rfl ?_|refine aC (f:=71) rfl rfl (hc1) rfl rfl rfl ?_|refine aC (f:=71) rfl rfl (hc2) rfl rfl rfl ?_);simp [NetD.hcells, NetD.cells])
 |(refine Split.by2 (fun h=>?_) (fun h=>?_)<;>(simp [h, NetD.hcells, NetD.cells]))
 |(apply hK;clear hK K)|refine AWh ‹_› ?_)
  refine aL [2, 3] (fun i : Nat => [(5, .int .i64 i)]) (fun _ => [.var n.hcells, .var n.cells]) (fun i => i ≤ n.autos.length) (fun i => n.autos.length - i) 0 (Nat.zero_le _) (by apply Weak.mk' <;> simp [vl, NetD.cells, NetD.hcells, handV]) (fun _ _ => rfl) ?_
  intro i hi
  by_cases hlt : i < n.autos.length
  · have hoa := ha5 _ (List.getElem_mem hlt)
    obtain ⟨a, ha⟩ : ∃ a, n.autos[i] = a := ⟨_, rfl⟩
    rw [ha] at hoa
    obtain ⟨_, ⟨hl1, hl2⟩, he1, he2⟩ := hoa
    repeat' (first
 |refine aK fun K hK=>?_|refine Step.by1 ?_|refine sE (by decide) ?_|refine cz rfl ?_|refine Fork.by2 (fun h=>?_) fun h=>?_
 |(refine aR ?_;simp [vl, NetD.cells, NetD.hcells, AutoD.cells, AutoD.hcells, hlt, ha, wI];try (simp (disch:=omega) only [wI];try simp [vl, NetD.cells, NetD.hcells, AutoD.cells, AutoD.hcells, hlt, ha, wI]))
 |(refine Split.by2 (fun h=>?_) (fun h=>?_)<;>(simp [h, vl, NetD.cells, NetD.hcells, AutoD.cells, AutoD.hcells, hlt, ha, wI];try (simp (disch:=omega) only [wI];try simp [vl, NetD.cells, NetD.hcells, AutoD.cells, AutoD.hcells, hlt, ha, wI])))
 |(apply hK;clear hK K)|refine AWh ‹_› ?_)
    refine aL [2, 3, 5] (fun i : Nat => [(6, .int .i64 i)]) (fun _ => [.var n.hcells, .var n.cells]) (fun k => k ≤ a.locs.length) (fun k => a.locs.length - k) 0 (Nat.zero_le _) (by apply Weak.mk' <;> simp [vl, NetD.cells, NetD.hcells, handV]) (fun _ _ => rfl) ?_
    intro k hk
    by_cases hkt : k < a.locs.length
    · have hox := hl2 _ (List.getElem_mem hkt)
      obtain ⟨x, hx⟩ : ∃ x, a.locs[k] = x := ⟨_, rfl⟩
      rw [hx] at hox
      have hcg := c_KeptGuards x.inv (by have := hox.2.2.1; omega)
      simp only [vl, handV] at hcg
      repeat' (first
 |refine aK fun K hK=>?_|refine Step.by1 ?_|refine sE (by decide) ?_|refine cz rfl ?_|refine Fork.by2 (fun h=>?_) fun h=>?_
 |((first|refine aR ?_|refine aX (id:=9) 22 mixed (by decide) ?_|refine aP1 (f:=72) rfl rfl (hcg) rfl rfl rfl ?_|refine aC (f:=72) rfl rfl (hcg) rfl rfl rfl ?_);simp [vl, handV, NetD.cells, NetD.hcells, AutoD.cells, AutoD.hcells, LocD.cells, LocD.hcells, hlt, ha, hkt, hx, wI];try (simp (disch:=omega) only [wI];try simp [vl, handV, NetD.cells, NetD.hcells, AutoD.cells, AutoD.hcells, LocD.cells, LocD.hcells, hlt, ha, hkt, hx, wI]))
 |(refine Split.by2 (fun h=>?_) (fun h=>?_)<;>(simp [h, vl, handV, NetD.cells, NetD.hcells, AutoD.cells, AutoD.hcells, LocD.cells, LocD.hcells, hlt, ha, hkt, hx, wI];try (simp (disch:=omega) only [wI];try simp [vl, handV, NetD.cells, NetD.hcells, AutoD.cells, AutoD.hcells, LocD.cells, LocD.hcells, hlt, ha, hkt, hx, wI])))
 |(apply hK;clear hK K)|refine AWh ‹_› ?_)
      refine ⟨k + 1, by omega, by omega, ?_⟩
      apply Weak.mk' <;> simp [vl, handV, NetD.cells, NetD.hcells]
    · have hke : k = a.locs.length := by omega
      subst hke
      repeat' (first
 |refine aK fun K hK=>?_|refine Step.by1 ?_|refine sE (by decide) ?_|refine cz rfl ?_|refine Fork.by2 (fun h=>?_) fun h=>?_
 |(refine aR ?_;simp [vl, NetD.cells, NetD.hcells, AutoD.cells, AutoD.hcells, hlt, ha, hkt, wI];try (simp (disch:=omega) only [wI];try simp [vl, NetD.cells, NetD.hcells, AutoD.cells, AutoD.hcells, hlt, ha, hkt, wI]))
 |(refine Split.by2 (fun h=>?_) (fun h=>?_)<;>(simp [h, vl, NetD.cells, NetD.hcells, AutoD.cells, AutoD.hcells, hlt, ha, hkt, wI];try (simp (disch:=omega) only [wI];try simp [vl, NetD.cells, NetD.hcells, AutoD.cells, AutoD.hcells, hlt, ha, hkt, wI])))
 |(apply hK;clear hK K)|refine AWh ‹_› ?_)
      refine aL [2, 3, 5] (fun i : Nat => [(7, .int .i64 i)]) (fun _ => [.var n.hcells, .var n.cells]) (fun k => k ≤ a.edges.length) (fun k => a.edges.length - k) 0 (Nat.zero_le _) (by apply Weak.mk' <;> simp [vl, NetD.cells, NetD.hcells, handV]) (fun _ _ => rfl) ?_
      intro m hm
      by_cases hmt : m < a.edges.length
      · have hoy := he2 _ (List.getElem_mem hmt)
        obtain ⟨y, hy⟩ : ∃ y, a.edges[m] = y := ⟨_, rfl⟩
        rw [hy] at hoy
        obtain ⟨_, _, ok3, ok4, _, _, ok7, ok8⟩ := hoy
        have hcg := c_KeptGuards y.guards (by have := ok3.1; omega)
        have hcn := c_KeptNodes y.test (by have := ok4.1; omega)
        simp only [vl, handV] at hcg hcn
        repeat' (first
 |refine aK fun K hK=>?_|refine Step.by1 ?_|refine sE (by decide) ?_|refine cz rfl ?_|refine Fork.by2 (fun h=>?_) fun h=>?_
 |((first|refine aR ?_|refine aC (f:=72) rfl rfl (hcg) rfl rfl rfl ?_|refine aC (f:=73) rfl rfl (hcn) rfl rfl rfl ?_);simp [vl, handV, NetD.cells, NetD.hcells, AutoD.cells, AutoD.hcells, EdgeD.cells, EdgeD.hcells, hlt, ha, hmt, hy, wI];try (simp (disch:=omega) only [wI];try simp [vl, handV, NetD.cells, NetD.hcells, AutoD.cells, AutoD.hcells, EdgeD.cells, EdgeD.hcells, hlt, ha, hmt, hy, wI]))
 |(refine Split.by2 (fun h=>?_) (fun h=>?_)<;>(simp [h, vl, handV, NetD.cells, NetD.hcells, AutoD.cells, AutoD.hcells, EdgeD.cells, EdgeD.hcells, hlt, ha, hmt, hy, wI];try (simp (disch:=omega) only [wI];try simp [vl, handV, NetD.cells, NetD.hcells, AutoD.cells, AutoD.hcells, EdgeD.cells, EdgeD.hcells, hlt, ha, hmt, hy, wI])))
 |(apply hK;clear hK K)|refine AWh ‹_› ?_)
        refine aL [2, 3, 5, 7, 8, 9] (fun i : Nat => [(10, .int .i64 i)]) (fun _ => [.var n.hcells, .var n.cells, .var y.hcells, .var y.cells]) (fun k => k ≤ y.sets.length) (fun k => y.sets.length - k) 0 (Nat.zero_le _) (by apply Weak.mk' <;> simp [vl, NetD.cells, NetD.hcells, handV, EdgeD.cells, EdgeD.hcells]) (fun _ _ => rfl) ?_
        intro q hq
        by_cases hqt : q < y.sets.length
        · have hoz := ok8 _ (List.getElem_mem hqt)
          obtain ⟨z, hz⟩ : ∃ z, y.sets[q] = z := ⟨_, rfl⟩
          rw [hz] at hoz
          have hcz := c_KeptNodes z.expr (by have := hoz.2.2.2.1; omega)
          simp only [vl, handV] at hcz
          repeat' (first
 |refine aK fun K hK=>?_|refine Step.by1 ?_|refine sE (by decide) ?_|refine cz rfl ?_|refine Fork.by2 (fun h=>?_) fun h=>?_
 |((first|refine aR ?_|refine aX (id:=21) 14 mixed (by decide) ?_|refine aP1 (f:=73) rfl rfl (hcz) rfl rfl rfl ?_|refine aC (f:=73) rfl rfl (hcz) rfl rfl rfl ?_);simp [vl, handV, EdgeD.cells, EdgeD.hcells, SetD.cells, SetD.hcells, hqt, hz, wI];try (simp (disch:=omega) only [wI];try simp [vl, handV, EdgeD.cells, EdgeD.hcells, SetD.cells, SetD.hcells, hqt, hz, wI]))
 |(refine Split.by2 (fun h=>?_) (fun h=>?_)<;>(simp [h, vl, handV, EdgeD.cells, EdgeD.hcells, SetD.cells, SetD.hcells, hqt, hz, wI];try (simp (disch:=omega) only [wI];try simp [vl, handV, EdgeD.cells, EdgeD.hcells, SetD.cells, SetD.hcells, hqt, hz, wI])))
 |(apply hK;clear hK K)|refine AWh ‹_› ?_)
          refine ⟨q + 1, by omega, by omega, ?_⟩
          apply Weak.mk' <;> simp [vl, handV, NetD.cells, NetD.hcells, EdgeD.cells, EdgeD.hcells]
        · repeat' (first
 |refine aK fun K hK=>?_|refine Step.by1 ?_|refine sE (by decide) ?_|refine cz rfl ?_|refine Fork.by2 (fun h=>?_) fun h=>?_
 |(refine aR ?_;simp [vl, handV, EdgeD.cells, EdgeD.hcells, hqt, wI];try (simp (disch:=omega) only [wI];try simp [vl, handV, EdgeD.cells, EdgeD.hcells, hqt, wI]))
 |(refine Split.by2 (fun h=>?_) (fun h=>?_)<;>(simp [h, vl, handV, EdgeD.cells, EdgeD.hcells, hqt, wI];try (simp (disch:=omega) only [wI];try simp [vl, handV, EdgeD.cells, EdgeD.hcells, hqt, wI])))
 |(apply hK;clear hK K)|refine AWh ‹_› ?_)
          refine ⟨m + 1, by omega, by omega, ?_⟩
          apply Weak.mk' <;> simp [vl, handV, NetD.cells, NetD.hcells]
      · have hme : m = a.edges.length := by omega
        subst hme
        repeat' (first
 |refine aK fun K hK=>?_|refine Step.by1 ?_|refine sE (by decide) ?_|refine cz rfl ?_|refine Fork.by2 (fun h=>?_) fun h=>?_
 |(refine aR ?_;simp [vl, NetD.cells, NetD.hcells, AutoD.cells, AutoD.hcells, hlt, ha, hmt, wI];try (simp (disch:=omega) only [wI];try simp [vl, NetD.cells, NetD.hcells, AutoD.cells, AutoD.hcells, hlt, ha, hmt, wI]))
 |(refine Split.by2 (fun h=>?_) (fun h=>?_)<;>(simp [h, vl, NetD.cells, NetD.hcells, AutoD.cells, AutoD.hcells, hlt, ha, hmt, wI];try (simp (disch:=omega) only [wI];try simp [vl, NetD.cells, NetD.hcells, AutoD.cells, AutoD.hcells, hlt, ha, hmt, wI])))
 |(apply hK;clear hK K)|refine AWh ‹_› ?_)
        refine ⟨i + 1, by omega, by omega, ?_⟩
        apply Weak.mk' <;> simp [vl, handV, NetD.cells, NetD.hcells]
  · have hie : i = n.autos.length := by omega
    subst hie
    repeat' (first
 |refine aK fun K hK=>?_|refine Step.by1 ?_|refine sE (by decide) ?_|refine cz rfl ?_|refine Fork.by2 (fun h=>?_) fun h=>?_
 |(refine aR ?_;simp [vl, NetD.cells, NetD.hcells, hlt])
 |(refine Split.by2 (fun h=>?_) (fun h=>?_)<;>(simp [h, vl, NetD.cells, NetD.hcells, hlt]))
 |(apply hK;clear hK K)|refine AWh ‹_› ?_)
    exact r1q (cE rfl rfl)
def PartD.hcells (p : PartD) : List V := [handV AtD.cells markAts p.locs, handV GuardD.cells markGuards p.guards, handV NodeD.cells markNodes p.test]
theorem trims_Part (x : PartD) : V.trims x.cells = x.cells := by simp [PartD.cells, V.trims, V.trim, trim_vlAts, trim_vlGuards, trim_vlNodes]
theorem trims_goal' (g : List PartD) : (vl PartD.cells g).trim = vl PartD.cells g := trim_vl' fun y _ => trims_Part y
end Go.Proofs.YtgmlimipejcpgaaGreatDoor
end
