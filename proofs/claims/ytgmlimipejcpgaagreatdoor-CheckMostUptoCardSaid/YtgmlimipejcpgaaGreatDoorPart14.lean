/-
  YtgmlimipejcpgaaGreatDoorPart14: steps of the proof of a law of the program: what these texts prove holds under the hypotheses that their theorems name, and no others.
-/
import Derived.Test.YtgmlimipejcpgaaGreatDoorPart13
import Derived.Test.YtgmlimipejcpgaaGreatDoorPart06
import Derived.Test.YtgmlimipejcpgaaGreatDoorPart12
import Derived.Test.YtgmlimipejcpgaaGreatDoorPart11
section
set_option linter.unusedVariables false
set_option linter.unusedSimpArgs false
namespace Go.Proofs.YtgmlimipejcpgaaGreatDoor
open Go Go.AM Fx
/-! A copy of a network with marked room. -/
def strC (s : ByteArray) : List V := [.str s]
def LocD.hcells (x : LocD) : List V := [.str x.name, .int .u8 x.kind, handV GuardD.cells markGuards x.inv]
def SetD.hcells (x : SetD) : List V := [.int .i64 x.clock, .int .i64 x.n, .int .i64 x.var, handV NodeD.cells markNodes x.expr]
def EdgeD.hcells (x : EdgeD) : List V := [.int .i64 x.frm, .int .i64 x.to, handV GuardD.cells markGuards x.guards, handV NodeD.cells markNodes x.test, .int .i64 x.chan, .bool x.send, vl SetD.hcells x.sets]
def AutoD.hcells (x : AutoD) : List V := [.str x.name, vl LocD.hcells x.locs, vl EdgeD.hcells x.edges]
def NetD.hcells (x : NetD) : List V := [handV (fun s => [V.str s]) markTexts x.clocks, vl VarD.cells x.vars, handV (fun s => [V.str s]) markTexts x.chans, vl AutoD.hcells x.autos]
/-- The beginning of a list, told. -/
def pre {α : Type} (c : α → List V) (l : List α) (i : Nat) : List (List V) := (l.take i).map c
theorem pre_len {α : Type} {c : α → List V} {l : List α} {i : Nat} (h : i ≤ l.length) : (pre c l i).length = i := by simp [pre]; omega
theorem pre_zero {α : Type} {c : α → List V} {l : List α} : pre c l 0 = [] := rfl
theorem pre_succ {α : Type} {c : α → List V} {l : List α} {i : Nat} (h : i < l.length) : pre c l (i + 1) = pre c l i ++ [c l[i]] := by
  unfold pre; rw [List.take_add_one, List.getElem?_eq_getElem h, List.map_append]; rfl
theorem pre_end {α : Type} {c : α → List V} {l : List α} : pre c l l.length = l.map c := by simp [pre]
def hnBase (n : NetD) (i : Nat) : List B := [.var n.cells, .var [.nils, .nils, .nils, .nils], .var [handV (fun s => [V.str s]) markTexts n.clocks, .ref 4 0 0 n.vars.length, handV (fun s => [V.str s]) markTexts n.chans, .ref 3 i 0 i],
  .row 104 i 0 true (pre AutoD.hcells n.autos i), .row 167 0 0 true (n.vars.map VarD.cells)]
def hnAuto (a : AutoD) (k m : Nat) : List B := [.var [.str a.name, .ref 6 k 0 k, .ref 7 m 0 m], .row 108 k 0 true (pre LocD.hcells a.locs k), .row 113 m 0 true (pre EdgeD.hcells a.edges m)]
def hnEdge (y : EdgeD) (q : Nat) : List B := [.var [.int .i64 y.frm, .int .i64 y.to, handV GuardD.cells markGuards y.guards, handV NodeD.cells markNodes y.test, .int .i64 y.chan, .bool y.send, vl SetD.cells y.sets], .row 116 q 0 true (pre SetD.hcells y.sets q)]
theorem hand_len {α : Type} {c : α → List V} {mark : Nat → List V} {l : List α} : (V.cellsOf (handV c mark l)).length = 1 := rfl

set_option maxRecDepth 8000 in
set_option maxHeartbeats 8000000 in
theorem c_HandNet (n : NetD) (hn : n.ok) : PC 11 [.agg n.cells] (.agg n.hcells) := by
  obtain ⟨⟨h1, _⟩, ⟨h2, _⟩, ⟨h3, _⟩, h4, h5⟩ := hn
  have hc1 := c_HandTexts n.clocks (by omega)
  simp only [handV, vl] at hc1
  have hc2 := c_HandTexts n.chans (by omega)
  simp only [handV, vl] at hc2
  have htk : (n.vars.map VarD.cells).take n.vars.length = n.vars.map VarD.cells := List.take_of_length_le (by simp)
  have hb1 : n.vars.length * 40 ≤ 140737488355328 := by omega
  refine PCall_body Tryz.func11 rfl (by decide) Tryz.ntmps11 (by simp) Tryz.results11 ?_
  repeat' (first
    |refine AW_nilcell 2 3 104 rfl rfl (by simp) ?_
    |refine AW_seq_k fun K hK=>?_|refine Step.by1 ?_|refine SBlock_exit_ne (by decide) ?_
    |((first|refine AW_region_AO ?_);simp [NetD.cells, vl, handV, htk, hb1])
    |(refine Split.by2 (fun h=>?_) (fun h=>?_)<;>(simp [h, NetD.cells, vl, handV, htk, hb1]))
    |refine ct rfl ?_|refine cf rfl ?_|refine cnd rfl (fun h=>?_) (fun h=>?_)|refine cd rfl (fun h=>?_) (fun h=>?_)|refine cn rfl (fun h=>?_) (fun h=>?_)|refine cc rfl (fun h=>?_) (fun h=>?_)
    | (refine AW_region_APA (id := 1) 8 7 [.nils, .nils, .nils, .nils] mixed (by decide) (by decide) ?_; simp [NetD.cells, vl, handV, htk, hb1])
    | (refine APA_nil ?_; simp [NetD.cells, vl, handV, htk, hb1])
    | (refine APA_alloc (by rfl) rfl ?_; simp [NetD.cells, vl, handV, htk, hb1])
    | (refine APA_still (by decide) rfl rfl (by simp [NetD.cells, vl, handV, htk, hb1]) (by simp [Op.operands, Call.operands, NetD.cells, vl, handV, htk, hb1]) ?_; simp [NetD.cells, vl, handV, htk, hb1])
    | (refine APA_call (f := 55) (by decide) rfl rfl (hc1) rfl rfl rfl (by simp [Op.operands, Call.operands, NetD.cells, vl, handV, htk, hb1]) ?_; simp [NetD.cells, vl, handV, htk, hb1])
    | (refine APA_call (f := 55) (by decide) rfl rfl (hc2) rfl rfl rfl (by simp [Op.operands, Call.operands, NetD.cells, vl, handV, htk, hb1]) ?_; simp [NetD.cells, vl, handV, htk, hb1])
    |(apply hK;clear hK K)|(refine AWh (by assumption) ?_))
  refine AW_loopL [1, 2, 3] (fun i : Nat => [(4, .int .i64 i)]) (hnBase n) (fun i => i ≤ n.autos.length) (fun i => n.autos.length - i) 0 (Nat.zero_le _) (by apply Weak.mk' <;> simp [hnBase, NetD.cells, vl, handV, pre_zero]) (fun _ _ => rfl) ?_
  intro i hi
  by_cases hlt : i < n.autos.length
  · have hps := pre_succ (c := AutoD.hcells) hlt
    have hpl := pre_len (c := AutoD.hcells) hi
    have hok := h5 _ (List.getElem_mem hlt)
    obtain ⟨a, ha⟩ : ∃ a, n.autos[i] = a := ⟨_, rfl⟩
    rw [ha] at hps hok
    obtain ⟨_, ⟨hl1, hl2⟩, he1, he2⟩ := hok
    have hlt' : (i : Int) < n.autos.length := by omega
    repeat' (first
    |refine AW_nilcell 5 1 108 rfl rfl (by simp) ?_
    |refine AW_nilcell 5 2 113 rfl rfl (by simp) ?_
    |refine AW_seq_k fun K hK=>?_|refine Step.by1 ?_|refine SBlock_exit_ne (by decide) ?_
    |((first|refine AW_region_AO ?_);simp [hnBase, NetD.cells, AutoD.cells, vl, hlt, hlt', ha])
    |(refine Split.by2 (fun h=>?_) (fun h=>?_)<;>(simp [h, hnBase, NetD.cells, AutoD.cells, vl, hlt, hlt', ha]))
    |refine ct rfl ?_|refine cf rfl ?_|refine cnd rfl (fun h=>?_) (fun h=>?_)|refine cd rfl (fun h=>?_) (fun h=>?_)|refine cn rfl (fun h=>?_) (fun h=>?_)|refine cc rfl (fun h=>?_) (fun h=>?_)
    |(apply hK;clear hK K)|(refine AWh (by assumption) ?_))
    refine AW_loopL [1, 2, 3, 4, 5] (fun k : Nat => [(6, .int .i64 k)]) (fun k => hnBase n i ++ hnAuto a k 0) (fun k => k ≤ a.locs.length) (fun k => a.locs.length - k) 0 (Nat.zero_le _) (by apply Weak.mk' <;> simp [hnBase, hnAuto, NetD.cells, vl, handV, pre_zero]) (fun _ _ => rfl) ?_
    intro k hk
    by_cases hkt : k < a.locs.length
    · have hps1 := pre_succ (c := LocD.hcells) hkt
      have hpl1 := pre_len (c := LocD.hcells) hk
      have hok1 := hl2 _ (List.getElem_mem hkt)
      obtain ⟨x, hx⟩ : ∃ x, a.locs[k] = x := ⟨_, rfl⟩
      rw [hx] at hps1 hok1
      have hcx := c_HandGuards x.inv (by have := hok1.2.2.1; omega)
      simp only [handV, vl] at hcx
      have hkt' : (k : Int) < a.locs.length := by omega
      have hb2 : (k + 1) * 48 ≤ 140737488355328 := by omega
      repeat' (first
    |refine AW_seq_k fun K hK=>?_|refine Step.by1 ?_|refine SBlock_exit_ne (by decide) ?_
    |((first|refine AW_region_AO ?_|refine AS_call1 (f:=56) rfl rfl (hcx) rfl rfl rfl ?_);simp [hnBase, hnAuto, NetD.cells, AutoD.cells, LocD.cells, vl, hlt, hlt', ha, hkt, hkt', hx, hpl1, hb2, wrap_i64];try (simp (disch:=omega) only [wrap_i64];try simp [hnBase, hnAuto, NetD.cells, AutoD.cells, LocD.cells, vl, hlt, hlt', ha, hkt, hkt', hx, hpl1, hb2, wrap_i64]))
    |(refine Split.by2 (fun h=>?_) (fun h=>?_)<;>(simp [h, hnBase, hnAuto, NetD.cells, AutoD.cells, LocD.cells, vl, hlt, hlt', ha, hkt, hkt', hx, hpl1, hb2, wrap_i64];try (simp (disch:=omega) only [wrap_i64];try simp [hnBase, hnAuto, NetD.cells, AutoD.cells, LocD.cells, vl, hlt, hlt', ha, hkt, hkt', hx, hpl1, hb2, wrap_i64])))
    |refine ct rfl ?_|refine cf rfl ?_|refine cnd rfl (fun h=>?_) (fun h=>?_)|refine cd rfl (fun h=>?_) (fun h=>?_)|refine cn rfl (fun h=>?_) (fun h=>?_)|refine cc rfl (fun h=>?_) (fun h=>?_)
    |(apply hK;clear hK K)|(refine AWh (by assumption) ?_))
      refine ⟨k + 1, by omega, by omega, ?_⟩
      apply Weak.mk' <;> simp [hnBase, hnAuto, NetD.cells, vl, handV, hps1, LocD.hcells]
    · have hke : k = a.locs.length := by omega
      subst hke
      repeat' (first
    |refine AW_seq_k fun K hK=>?_|refine Step.by1 ?_|refine SBlock_exit_ne (by decide) ?_
    |((first|refine AW_region_AO ?_);simp [hnBase, hnAuto, NetD.cells, AutoD.cells, vl, hlt, hlt', ha, hkt])
    |(refine Split.by2 (fun h=>?_) (fun h=>?_)<;>(simp [h, hnBase, hnAuto, NetD.cells, AutoD.cells, vl, hlt, hlt', ha, hkt]))
    |refine ct rfl ?_|refine cf rfl ?_|refine cnd rfl (fun h=>?_) (fun h=>?_)|refine cd rfl (fun h=>?_) (fun h=>?_)|refine cn rfl (fun h=>?_) (fun h=>?_)|refine cc rfl (fun h=>?_) (fun h=>?_)
    |(apply hK;clear hK K)|(refine AWh (by assumption) ?_))
      refine AW_loopL [1, 2, 3, 4, 5] (fun m : Nat => [(8, .int .i64 m)]) (fun m => hnBase n i ++ hnAuto a a.locs.length m) (fun m => m ≤ a.edges.length) (fun m => a.edges.length - m) 0 (Nat.zero_le _) (by apply Weak.mk' <;> simp [hnBase, hnAuto, NetD.cells, vl, handV, pre_zero]) (fun _ _ => rfl) ?_
      intro m hm
      by_cases hmt : m < a.edges.length
      · have hps2 := pre_succ (c := EdgeD.hcells) hmt
        have hpl2 := pre_len (c := EdgeD.hcells) hm
        have hok2 := he2 _ (List.getElem_mem hmt)
        obtain ⟨y, hy⟩ : ∃ y, a.edges[m] = y := ⟨_, rfl⟩
        rw [hy] at hps2 hok2
        obtain ⟨_, _, ok3, ok4, _, _, ok7, ok8⟩ := hok2
        have hcg := c_HandGuards y.guards (by have := ok3.1; omega)
        simp only [handV, vl] at hcg
        have hcn := c_HandNodes y.test (by have := ok4.1; omega)
        simp only [handV, vl] at hcn
        have hmt' : (m : Int) < a.edges.length := by omega
        have hb3 : (m + 1) * 104 ≤ 140737488355328 := by omega
        repeat' (first
    |refine AW_nilrow 10 116 rfl (by simp) ?_
    |refine AW_seq_k fun K hK=>?_|refine Step.by1 ?_|refine SBlock_exit_ne (by decide) ?_
    |((first|refine AW_region_AO ?_|refine AS_call1 (f:=56) rfl rfl (hcg) rfl rfl rfl ?_|refine AS_call1 (f:=57) rfl rfl (hcn) rfl rfl rfl ?_);simp [hnBase, hnAuto, NetD.cells, AutoD.cells, EdgeD.cells, vl, hlt, hlt', ha, hmt, hmt', hy, hpl2, hb3, wrap_i64];try (simp (disch:=omega) only [wrap_i64];try simp [hnBase, hnAuto, NetD.cells, AutoD.cells, EdgeD.cells, vl, hlt, hlt', ha, hmt, hmt', hy, hpl2, hb3, wrap_i64]))
    |(refine Split.by2 (fun h=>?_) (fun h=>?_)<;>(simp [h, hnBase, hnAuto, NetD.cells, AutoD.cells, EdgeD.cells, vl, hlt, hlt', ha, hmt, hmt', hy, hpl2, hb3, wrap_i64];try (simp (disch:=omega) only [wrap_i64];try simp [hnBase, hnAuto, NetD.cells, AutoD.cells, EdgeD.cells, vl, hlt, hlt', ha, hmt, hmt', hy, hpl2, hb3, wrap_i64])))
    |refine ct rfl ?_|refine cf rfl ?_|refine cnd rfl (fun h=>?_) (fun h=>?_)|refine cd rfl (fun h=>?_) (fun h=>?_)|refine cn rfl (fun h=>?_) (fun h=>?_)|refine cc rfl (fun h=>?_) (fun h=>?_)
    |(apply hK;clear hK K)|(refine AWh (by assumption) ?_))
        refine AW_loopL [1, 2, 3, 4, 5, 8, 9] (fun q : Nat => [(11, .int .i64 q), (10, .ref 9 q 0 q)]) (fun q => hnBase n i ++ hnAuto a a.locs.length m ++ hnEdge y q) (fun q => q ≤ y.sets.length) (fun q => y.sets.length - q) 0 (Nat.zero_le _) (by apply Weak.mk' <;> simp [hnBase, hnAuto, hnEdge, NetD.cells, vl, handV, pre_zero]) (fun _ _ => rfl) ?_
        intro q hq
        by_cases hqt : q < y.sets.length
        · have hps3 := pre_succ (c := SetD.hcells) hqt
          have hpl3 := pre_len (c := SetD.hcells) hq
          have hok3 := ok8 _ (List.getElem_mem hqt)
          obtain ⟨z, hz⟩ : ∃ z, y.sets[q] = z := ⟨_, rfl⟩
          rw [hz] at hps3 hok3
          have hcz := c_HandNodes z.expr (by have := hok3.2.2.2.1; omega)
          simp only [handV, vl] at hcz
          have hqt' : (q : Int) < y.sets.length := by omega
          have hb4 : (q + 1) * 48 ≤ 140737488355328 := by omega
          repeat' (first
    |refine AW_seq_k fun K hK=>?_|refine Step.by1 ?_|refine SBlock_exit_ne (by decide) ?_
    |((first|refine AW_region_AO ?_|refine AS_call1 (f:=57) rfl rfl (hcz) rfl rfl rfl ?_);simp [hnBase, hnAuto, hnEdge, NetD.cells, SetD.cells, vl, handV, hqt, hqt', hz, hpl3, hb4, wrap_i64];try (simp (disch:=omega) only [wrap_i64];try simp [hnBase, hnAuto, hnEdge, NetD.cells, SetD.cells, vl, handV, hqt, hqt', hz, hpl3, hb4, wrap_i64]))
    |(refine Split.by2 (fun h=>?_) (fun h=>?_)<;>(simp [h, hnBase, hnAuto, hnEdge, NetD.cells, SetD.cells, vl, handV, hqt, hqt', hz, hpl3, hb4, wrap_i64];try (simp (disch:=omega) only [wrap_i64];try simp [hnBase, hnAuto, hnEdge, NetD.cells, SetD.cells, vl, handV, hqt, hqt', hz, hpl3, hb4, wrap_i64])))
    |refine ct rfl ?_|refine cf rfl ?_|refine cnd rfl (fun h=>?_) (fun h=>?_)|refine cd rfl (fun h=>?_) (fun h=>?_)|refine cn rfl (fun h=>?_) (fun h=>?_)|refine cc rfl (fun h=>?_) (fun h=>?_)
    |(apply hK;clear hK K)|(refine AWh (by assumption) ?_))
          refine ⟨q + 1, by omega, by omega, ?_⟩
          apply Weak.mk' <;> simp [hnBase, hnAuto, hnEdge, NetD.cells, vl, handV, hps3, SetD.hcells]
        · have hqe : q = y.sets.length := by omega
          subst hqe
          repeat' (first
    |refine AW_viewcell 8 6 rfl rfl rfl (by simp [pre_end]) ?_
    |refine AW_seq_k fun K hK=>?_|refine Step.by1 ?_|refine SBlock_exit_ne (by decide) ?_
    |((first|refine AW_region_AO ?_);simp [hnBase, hnAuto, hnEdge, NetD.cells, vl, handV, hqt, hpl2, hb3, pre_end, wrap_i64];try (simp (disch:=omega) only [wrap_i64];try simp [hnBase, hnAuto, hnEdge, NetD.cells, vl, handV, hqt, hpl2, hb3, pre_end, wrap_i64]))
    |(refine Split.by2 (fun h=>?_) (fun h=>?_)<;>(simp [h, hnBase, hnAuto, hnEdge, NetD.cells, vl, handV, hqt, hpl2, hb3, pre_end, wrap_i64];try (simp (disch:=omega) only [wrap_i64];try simp [hnBase, hnAuto, hnEdge, NetD.cells, vl, handV, hqt, hpl2, hb3, pre_end, wrap_i64])))
    |refine ct rfl ?_|refine cf rfl ?_|refine cnd rfl (fun h=>?_) (fun h=>?_)|refine cd rfl (fun h=>?_) (fun h=>?_)|refine cn rfl (fun h=>?_) (fun h=>?_)|refine cc rfl (fun h=>?_) (fun h=>?_)
    |(apply hK;clear hK K)|(refine AWh (by assumption) ?_))
          refine ⟨m + 1, by omega, by omega, ?_⟩
          apply Weak.mk' <;> simp [hnBase, hnAuto, NetD.cells, vl, handV, hps2, EdgeD.hcells]
      · have hme : m = a.edges.length := by omega
        subst hme
        have hb5 : (i + 1) * 64 ≤ 140737488355328 := by omega
        repeat' (first
    |refine AW_viewcell 5 1 rfl rfl rfl (by simp [pre_end]) ?_
    |refine AW_viewcell 5 2 rfl rfl rfl (by simp [pre_end]) ?_
    |refine AW_seq_k fun K hK=>?_|refine Step.by1 ?_|refine SBlock_exit_ne (by decide) ?_
    |((first|refine AW_region_AO ?_);simp [hnBase, hnAuto, NetD.cells, AutoD.cells, vl, handV, hlt, hlt', ha, hmt, hpl, hb5, pre_end, wrap_i64];try (simp (disch:=omega) only [wrap_i64];try simp [hnBase, hnAuto, NetD.cells, AutoD.cells, vl, handV, hlt, hlt', ha, hmt, hpl, hb5, pre_end, wrap_i64]))
    |(refine Split.by2 (fun h=>?_) (fun h=>?_)<;>(simp [h, hnBase, hnAuto, NetD.cells, AutoD.cells, vl, handV, hlt, hlt', ha, hmt, hpl, hb5, pre_end, wrap_i64];try (simp (disch:=omega) only [wrap_i64];try simp [hnBase, hnAuto, NetD.cells, AutoD.cells, vl, handV, hlt, hlt', ha, hmt, hpl, hb5, pre_end, wrap_i64])))
    |refine ct rfl ?_|refine cf rfl ?_|refine cnd rfl (fun h=>?_) (fun h=>?_)|refine cd rfl (fun h=>?_) (fun h=>?_)|refine cn rfl (fun h=>?_) (fun h=>?_)|refine cc rfl (fun h=>?_) (fun h=>?_)
    |(apply hK;clear hK K)|(refine AWh (by assumption) ?_))
        refine ⟨i + 1, by omega, by omega, ?_⟩
        apply Weak.mk' <;> simp [hnBase, NetD.cells, vl, handV, hps, AutoD.hcells]
  · have hie : i = n.autos.length := by omega
    subst hie
    repeat' (first
    |refine AW_seq_k fun K hK=>?_|refine Step.by1 ?_|refine SBlock_exit_ne (by decide) ?_
    |((first|refine AW_region_AO ?_);simp [hnBase, NetD.cells, vl, handV, hlt, pre_end])
    |(refine Split.by2 (fun h=>?_) (fun h=>?_)<;>(simp [h, hnBase, NetD.cells, vl, handV, hlt, pre_end]))
    |refine ct rfl ?_|refine cf rfl ?_|refine cnd rfl (fun h=>?_) (fun h=>?_)|refine cd rfl (fun h=>?_) (fun h=>?_)|refine cn rfl (fun h=>?_) (fun h=>?_)|refine cc rfl (fun h=>?_) (fun h=>?_)
    |(apply hK;clear hK K)|(refine AWh (by assumption) ?_))
    refine ⟨.inr rfl, .agg [.vec (n.clocks.map (fun s => [V.str s]) ++ (List.range 9).map markTexts) n.clocks.length, .ref 4 0 0 n.vars.length, .vec (n.chans.map (fun s => [V.str s]) ++ (List.range 9).map markTexts) n.chans.length, .ref 3 n.autos.length 0 n.autos.length], by simp only [RetV, ResOk]; exact ⟨_, 0, rfl, by simp, by simp⟩, .inl ⟨3, ?_, ?_⟩⟩
    · simp [NetD.hcells, handV, vl, pre_end]
    · simp [NetD.hcells, V.plain]
end Go.Proofs.YtgmlimipejcpgaaGreatDoor
end

section
set_option linter.unusedVariables false
set_option linter.unusedSimpArgs false
namespace Go.Proofs.YtgmlimipejcpgaaGreatDoor
open Go Go.AM Fx
set_option maxRecDepth 40000 in
set_option maxHeartbeats 16000000 in
theorem c_SameNet (a b : NetD) (ha : a.ok) : PC 70 [.agg a.cells, .agg b.cells] (.bool (decide (a = b))) := by
  obtain ⟨⟨ha1, _⟩, ⟨ha2, _⟩, ⟨ha3, _⟩, ha4, ha5⟩ := ha
  have hc1 := c_SameTexts a.clocks b.clocks (by omega)
  have hc2 := c_SameTexts a.chans b.chans (by omega)
  refine PCall_body Tryz.func70 rfl (by decide) Tryz.ntmps70 (by simp) Tryz.results70 ?_
  by_cases h0 : a.clocks = b.clocks ∧ a.chans = b.chans ∧ a.vars.length = b.vars.length ∧ a.autos.length = b.autos.length
  · obtain ⟨e0, e1, e2, e3⟩ := h0
    have e2' : (a.vars.length : Int) = b.vars.length := by omega
    have e3' : (a.autos.length : Int) = b.autos.length := by omega
    rw [decide_eq_true e0] at hc1
    rw [decide_eq_true e1] at hc2
    simp only [vl] at hc1 hc2
    repeat' (first
    |refine AW_seq_k fun K hK=>?_|refine Step.by1 ?_|refine SBlock_exit_ne (by decide) ?_
    |((first|refine AW_region_AO ?_|refine AS_call1 (f:=141) rfl rfl (hc1) rfl rfl rfl ?_|refine AS_call1 (f:=141) rfl rfl (hc2) rfl rfl rfl ?_);simp [vl, NetD.cells, e2', e3'])
    |(refine Split.by2 (fun h=>?_) (fun h=>?_)<;>(simp [h, vl, NetD.cells, e2', e3']))
    |refine ct rfl ?_|refine cf rfl ?_|refine cnd rfl (fun h=>?_) (fun h=>?_)|refine cd rfl (fun h=>?_) (fun h=>?_)|refine cn rfl (fun h=>?_) (fun h=>?_)|refine cc rfl (fun h=>?_) (fun h=>?_)
    |(apply hK;clear hK K)|(refine AWh (by assumption) ?_))
    refine AW_loopL [2, 3] (fun i : Nat => [(5, .int .i64 i)]) (fun _ => [.var a.cells, .var b.cells]) (fun i => i ≤ a.vars.length ∧ a.vars.take i = b.vars.take i) (fun i => a.vars.length - i) 0 ⟨Nat.zero_le _, rfl⟩ (by apply Weak.mk' <;> simp [vl, NetD.cells]) (fun _ _ => rfl) ?_
    intro i hi
    by_cases hlt : i < a.vars.length
    · have hlb : i < b.vars.length := by omega
      have hne : a.vars[i] ≠ b.vars[i] → a ≠ b := fun h e => h (by subst e; rfl)
      have hsucc := fun h => take_same hi.2 hlt hlb h
      obtain ⟨x, hx⟩ : ∃ x, a.vars[i] = x := ⟨_, rfl⟩
      obtain ⟨y, hy⟩ : ∃ y, b.vars[i] = y := ⟨_, rfl⟩
      rw [hx, hy] at hne hsucc
      rw [ne_eq, VarD_eq] at hne
      rw [VarD_eq] at hsucc
      repeat' (first
    |refine AW_seq_k fun K hK=>?_|refine Step.by1 ?_|refine SBlock_exit_ne (by decide) ?_
    |((first|refine AW_region_AO ?_|refine AW_region_APx (id:=6) 11 mixed (by decide) ?_);simp [vl, NetD.cells, VarD.cells, hlt, hlb, hx, hy, wrap_i64];try (simp (disch:=omega) only [wrap_i64];try simp [vl, NetD.cells, VarD.cells, hlt, hlb, hx, hy, wrap_i64]))
    |(refine Split.by2 (fun h=>?_) (fun h=>?_)<;>(simp [h, vl, NetD.cells, VarD.cells, hlt, hlb, hx, hy, wrap_i64];try (simp (disch:=omega) only [wrap_i64];try simp [vl, NetD.cells, VarD.cells, hlt, hlb, hx, hy, wrap_i64])))
    |refine ct rfl ?_|refine cf rfl ?_|refine cnd rfl (fun h=>?_) (fun h=>?_)|refine cd rfl (fun h=>?_) (fun h=>?_)|refine cn rfl (fun h=>?_) (fun h=>?_)|refine cc rfl (fun h=>?_) (fun h=>?_)
    |(apply hK;clear hK K)|(refine AWh (by assumption) ?_))
      all_goals first
        | exact retq1 (conv_eq (by simp; exact hne (by first | exact h | (simp at h; intro he; simp [he] at h))) rfl)
        | (refine ⟨i + 1, ⟨by omega, hsucc (by first | exact h | (simp at h; simp [h]))⟩, by omega, ?_⟩; apply Weak.mk' <;> simp [vl, NetD.cells])
        | trace_state
    · have hie : i = a.vars.length := by omega
      subst hie
      have hev : a.vars = b.vars := take_end hi.2 e2
      repeat' (first
    |refine AW_seq_k fun K hK=>?_|refine Step.by1 ?_|refine SBlock_exit_ne (by decide) ?_
    |((first|refine AW_region_AO ?_);simp [vl, NetD.cells, hlt])
    |(refine Split.by2 (fun h=>?_) (fun h=>?_)<;>(simp [h, vl, NetD.cells, hlt]))
    |refine ct rfl ?_|refine cf rfl ?_|refine cnd rfl (fun h=>?_) (fun h=>?_)|refine cd rfl (fun h=>?_) (fun h=>?_)|refine cn rfl (fun h=>?_) (fun h=>?_)|refine cc rfl (fun h=>?_) (fun h=>?_)
    |(apply hK;clear hK K)|(refine AWh (by assumption) ?_))
      refine AW_loopL [2, 3] (fun i : Nat => [(6, .int .i64 i)]) (fun _ => [.var a.cells, .var b.cells]) (fun i => i ≤ a.autos.length ∧ a.autos.take i = b.autos.take i) (fun i => a.autos.length - i) 0 ⟨Nat.zero_le _, rfl⟩ (by apply Weak.mk' <;> simp [vl, NetD.cells]) (fun _ _ => rfl) ?_
      intro i hi
      by_cases hlt : i < a.autos.length
      · have hlb : i < b.autos.length := by omega
        have hne : a.autos[i] ≠ b.autos[i] → a ≠ b := fun h e => h (by subst e; rfl)
        have hsucc := fun h => take_same hi.2 hlt hlb h
        have hok := ha5 a.autos[i] (List.getElem_mem hlt)
        obtain ⟨x, hx⟩ : ∃ x, a.autos[i] = x := ⟨_, rfl⟩
        obtain ⟨y, hy⟩ : ∃ y, b.autos[i] = y := ⟨_, rfl⟩
        rw [hx] at hok
        rw [hx, hy] at hne hsucc
        have hc3 := c_sameAuto x y hok
        simp only [AutoD.cells, vl] at hc3
        repeat' (first
    |refine AW_seq_k fun K hK=>?_|refine Step.by1 ?_|refine SBlock_exit_ne (by decide) ?_
    |((first|refine AW_region_AO ?_|refine AW_region_APx (id:=11) 12 mixed (by decide) ?_|refine AP_call1 (f:=142) rfl rfl (hc3) rfl rfl rfl ?_);simp [vl, NetD.cells, AutoD.cells, hlt, hlb, hx, hy, wrap_i64];try (simp (disch:=omega) only [wrap_i64];try simp [vl, NetD.cells, AutoD.cells, hlt, hlb, hx, hy, wrap_i64]))
    |(refine Split.by2 (fun h=>?_) (fun h=>?_)<;>(simp [h, vl, NetD.cells, AutoD.cells, hlt, hlb, hx, hy, wrap_i64];try (simp (disch:=omega) only [wrap_i64];try simp [vl, NetD.cells, AutoD.cells, hlt, hlb, hx, hy, wrap_i64])))
    |refine ct rfl ?_|refine cf rfl ?_|refine cnd rfl (fun h=>?_) (fun h=>?_)|refine cd rfl (fun h=>?_) (fun h=>?_)|refine cn rfl (fun h=>?_) (fun h=>?_)|refine cc rfl (fun h=>?_) (fun h=>?_)
    |(apply hK;clear hK K)|(refine AWh (by assumption) ?_))
        all_goals first
          | exact retq1 (conv_eq (by simp; exact hne h) rfl)
          | (refine ⟨i + 1, ⟨by omega, hsucc h⟩, by omega, ?_⟩; apply Weak.mk' <;> simp [vl, NetD.cells])
          | trace_state
      · have hie : i = a.autos.length := by omega
        subst hie
        have hee : a.autos = b.autos := take_end hi.2 e3
        have he : a = b := (NetD_eq a b).2 ⟨e0, e1, hev, hee⟩
        repeat' (first
    |refine AW_seq_k fun K hK=>?_|refine Step.by1 ?_|refine SBlock_exit_ne (by decide) ?_
    |((first|refine AW_region_AO ?_);simp [vl, NetD.cells, hlt])
    |(refine Split.by2 (fun h=>?_) (fun h=>?_)<;>(simp [h, vl, NetD.cells, hlt]))
    |refine ct rfl ?_|refine cf rfl ?_|refine cnd rfl (fun h=>?_) (fun h=>?_)|refine cd rfl (fun h=>?_) (fun h=>?_)|refine cn rfl (fun h=>?_) (fun h=>?_)|refine cc rfl (fun h=>?_) (fun h=>?_)
    |(apply hK;clear hK K)|(refine AWh (by assumption) ?_))
        exact retq1 (conv_eq (by simp [he]) rfl)
  · have he : ¬ a = b := fun h => h0 (by subst h; exact ⟨rfl, rfl, rfl, rfl⟩)
    simp only [vl] at hc1 hc2
    repeat' (first
    |refine AW_seq_k fun K hK=>?_|refine Step.by1 ?_|refine SBlock_exit_ne (by decide) ?_
    |((first|refine AW_region_AO ?_|refine AS_call1 (f:=141) rfl rfl (hc1) rfl rfl rfl ?_|refine AS_call1 (f:=141) rfl rfl (hc2) rfl rfl rfl ?_);simp [vl, NetD.cells])
    |(refine Split.by2 (fun h=>?_) (fun h=>?_)<;>(simp [h, vl, NetD.cells]))
    |refine ct rfl ?_|refine cf rfl ?_|refine cnd rfl (fun h=>?_) (fun h=>?_)|refine cd rfl (fun h=>?_) (fun h=>?_)|refine cn rfl (fun h=>?_) (fun h=>?_)|refine cc rfl (fun h=>?_) (fun h=>?_)
    |(apply hK;clear hK K)|(refine AWh (by assumption) ?_))
    all_goals first
      | exact retq1 (conv_eq (by simp [he]) rfl)
      | (exfalso; exact h0 ⟨by assumption, by assumption, by omega, by omega⟩)
      | trace_state
end Go.Proofs.YtgmlimipejcpgaaGreatDoor
end

section
set_option linter.unusedVariables false
set_option linter.unusedSimpArgs false
namespace Go.Proofs.YtgmlimipejcpgaaGreatDoor
open Go Go.AM Fx
/-! What is seen of a copy with marked room. -/
theorem trim_vl' {α : Type} {c c' : α → List V} {l : List α} (h : ∀ x ∈ l, V.trims (c x) = c' x) : (vl c l).trim = vl c' l := by
  have := trim_pad (c := c) (c' := c') (l := l) [] h
  rw [List.append_nil] at this; exact this
theorem trims_LocH (x : LocD) : V.trims x.hcells = x.cells := by simp [LocD.hcells, LocD.cells, V.trims, V.trim, trim_handGuards]
theorem trims_Loc (x : LocD) : V.trims x.cells = x.cells := by simp [LocD.cells, V.trims, V.trim, trim_vlGuards]
theorem trims_SetH (x : SetD) : V.trims x.hcells = x.cells := by simp [SetD.hcells, SetD.cells, V.trims, V.trim, trim_handNodes]
theorem trims_Set (x : SetD) : V.trims x.cells = x.cells := by simp [SetD.cells, V.trims, V.trim, trim_vlNodes]
theorem trims_EdgeH (x : EdgeD) : V.trims x.hcells = x.cells := by
  simp [EdgeD.hcells, EdgeD.cells, V.trims, V.trim, trim_handGuards, trim_handNodes, trim_vl' (c := SetD.hcells) (c' := SetD.cells) fun y _ => trims_SetH y]
theorem trims_Edge (x : EdgeD) : V.trims x.cells = x.cells := by
  simp [EdgeD.cells, V.trims, V.trim, trim_vlGuards, trim_vlNodes, trim_vl' (c := SetD.cells) (c' := SetD.cells) fun y _ => trims_Set y]
theorem trims_AutoH (x : AutoD) : V.trims x.hcells = x.cells := by
  simp [AutoD.hcells, AutoD.cells, V.trims, V.trim, trim_vl' (c := LocD.hcells) (c' := LocD.cells) fun y _ => trims_LocH y, trim_vl' (c := EdgeD.hcells) (c' := EdgeD.cells) fun y _ => trims_EdgeH y]
theorem trims_Auto (x : AutoD) : V.trims x.cells = x.cells := by
  simp [AutoD.cells, V.trims, V.trim, trim_vl' (c := LocD.cells) (c' := LocD.cells) fun y _ => trims_Loc y, trim_vl' (c := EdgeD.cells) (c' := EdgeD.cells) fun y _ => trims_Edge y]
theorem trims_Var (x : VarD) : V.trims x.cells = x.cells := by simp [VarD.cells, V.trims, V.trim]
theorem trims_NetH (x : NetD) : V.trims x.hcells = x.cells := by
  simp [NetD.hcells, NetD.cells, V.trims, V.trim, trim_handTexts, trim_vl' (c := VarD.cells) (c' := VarD.cells) fun y _ => trims_Var y, trim_vl' (c := AutoD.hcells) (c' := AutoD.cells) fun y _ => trims_AutoH y]
theorem trims_Net (x : NetD) : V.trims x.cells = x.cells := by
  simp [NetD.cells, V.trims, V.trim, trim_vlTexts, trim_vl' (c := VarD.cells) (c' := VarD.cells) fun y _ => trims_Var y, trim_vl' (c := AutoD.cells) (c' := AutoD.cells) fun y _ => trims_Auto y]
theorem trims_netArg (x : NetD) (r : List V) : V.trims (.agg x.hcells :: r) = .agg x.cells :: V.trims r := by simp [V.trims, V.trim, trims_NetH]
end Go.Proofs.YtgmlimipejcpgaaGreatDoor
end

section
set_option linter.unusedVariables false
set_option linter.unusedSimpArgs false
namespace Go.Proofs.YtgmlimipejcpgaaGreatDoor
open Go Go.AM Fx
set_option maxRecDepth 40000 in
set_option maxHeartbeats 16000000 in
theorem c_KeptNet (n : NetD) (hn : n.ok) : PC 17 [.agg n.hcells, .agg n.cells] (.bool true) := by
  have hs := (c_SameNet n n hn).trim (args := [.agg n.hcells, .agg n.cells]) (by simp only [V.trims, V.trim, trims_NetH, trims_Net])
  simp only [decide_true] at hs
  obtain ⟨⟨ha1, _⟩, ⟨ha2, _⟩, ⟨ha3, _⟩, ha4, ha5⟩ := hn
  have hc1 := c_KeptTexts n.clocks (by omega)
  have hc2 := c_KeptTexts n.chans (by omega)
  refine PCall_body Tryz.func17 rfl (by decide) Tryz.ntmps17 (by simp) Tryz.results17 ?_
  repeat' (first
    |refine AW_seq_k fun K hK=>?_|refine Step.by1 ?_|refine SBlock_exit_ne (by decide) ?_
    |((first|refine AW_region_AO ?_|refine AS_call1 (f:=70) rfl rfl (hs) rfl rfl rfl ?_|refine AS_call1 (f:=71) rfl rfl (hc1) rfl rfl rfl ?_|refine AS_call1 (f:=71) rfl rfl (hc2) rfl rfl rfl ?_);simp [NetD.hcells, NetD.cells])
    |(refine Split.by2 (fun h=>?_) (fun h=>?_)<;>(simp [h, NetD.hcells, NetD.cells]))
    |refine ct rfl ?_|refine cf rfl ?_|refine cnd rfl (fun h=>?_) (fun h=>?_)|refine cd rfl (fun h=>?_) (fun h=>?_)|refine cn rfl (fun h=>?_) (fun h=>?_)|refine cc rfl (fun h=>?_) (fun h=>?_)
    |(apply hK;clear hK K)|(refine AWh (by assumption) ?_))
  refine AW_loopL [2, 3] (fun i : Nat => [(5, .int .i64 i)]) (fun _ => [.var n.hcells, .var n.cells]) (fun i => i ≤ n.autos.length) (fun i => n.autos.length - i) 0 (Nat.zero_le _) (by apply Weak.mk' <;> simp [vl, NetD.cells, NetD.hcells, handV]) (fun _ _ => rfl) ?_
  intro i hi
  by_cases hlt : i < n.autos.length
  · have hoa := ha5 _ (List.getElem_mem hlt)
    obtain ⟨a, ha⟩ : ∃ a, n.autos[i] = a := ⟨_, rfl⟩
    rw [ha] at hoa
    obtain ⟨_, ⟨hl1, hl2⟩, he1, he2⟩ := hoa
    repeat' (first
    |refine AW_seq_k fun K hK=>?_|refine Step.by1 ?_|refine SBlock_exit_ne (by decide) ?_
    |((first|refine AW_region_AO ?_);simp [vl, NetD.cells, NetD.hcells, AutoD.cells, AutoD.hcells, hlt, ha, wrap_i64];try (simp (disch:=omega) only [wrap_i64];try simp [vl, NetD.cells, NetD.hcells, AutoD.cells, AutoD.hcells, hlt, ha, wrap_i64]))
    |(refine Split.by2 (fun h=>?_) (fun h=>?_)<;>(simp [h, vl, NetD.cells, NetD.hcells, AutoD.cells, AutoD.hcells, hlt, ha, wrap_i64];try (simp (disch:=omega) only [wrap_i64];try simp [vl, NetD.cells, NetD.hcells, AutoD.cells, AutoD.hcells, hlt, ha, wrap_i64])))
    |refine ct rfl ?_|refine cf rfl ?_|refine cnd rfl (fun h=>?_) (fun h=>?_)|refine cd rfl (fun h=>?_) (fun h=>?_)|refine cn rfl (fun h=>?_) (fun h=>?_)|refine cc rfl (fun h=>?_) (fun h=>?_)
    |(apply hK;clear hK K)|(refine AWh (by assumption) ?_))
    refine AW_loopL [2, 3, 5] (fun i : Nat => [(6, .int .i64 i)]) (fun _ => [.var n.hcells, .var n.cells]) (fun k => k ≤ a.locs.length) (fun k => a.locs.length - k) 0 (Nat.zero_le _) (by apply Weak.mk' <;> simp [vl, NetD.cells, NetD.hcells, handV]) (fun _ _ => rfl) ?_
    intro k hk
    by_cases hkt : k < a.locs.length
    · have hox := hl2 _ (List.getElem_mem hkt)
      obtain ⟨x, hx⟩ : ∃ x, a.locs[k] = x := ⟨_, rfl⟩
      rw [hx] at hox
      have hcg := c_KeptGuards x.inv (by have := hox.2.2.1; omega)
      simp only [vl, handV] at hcg
      repeat' (first
    |refine AW_seq_k fun K hK=>?_|refine Step.by1 ?_|refine SBlock_exit_ne (by decide) ?_
    |((first|refine AW_region_AO ?_|refine AW_region_APx (id:=9) 22 mixed (by decide) ?_|refine AP_call1 (f:=72) rfl rfl (hcg) rfl rfl rfl ?_|refine AS_call1 (f:=72) rfl rfl (hcg) rfl rfl rfl ?_);simp [vl, handV, NetD.cells, NetD.hcells, AutoD.cells, AutoD.hcells, LocD.cells, LocD.hcells, hlt, ha, hkt, hx, wrap_i64];try (simp (disch:=omega) only [wrap_i64];try simp [vl, handV, NetD.cells, NetD.hcells, AutoD.cells, AutoD.hcells, LocD.cells, LocD.hcells, hlt, ha, hkt, hx, wrap_i64]))
    |(refine Split.by2 (fun h=>?_) (fun h=>?_)<;>(simp [h, vl, handV, NetD.cells, NetD.hcells, AutoD.cells, AutoD.hcells, LocD.cells, LocD.hcells, hlt, ha, hkt, hx, wrap_i64];try (simp (disch:=omega) only [wrap_i64];try simp [vl, handV, NetD.cells, NetD.hcells, AutoD.cells, AutoD.hcells, LocD.cells, LocD.hcells, hlt, ha, hkt, hx, wrap_i64])))
    |refine ct rfl ?_|refine cf rfl ?_|refine cnd rfl (fun h=>?_) (fun h=>?_)|refine cd rfl (fun h=>?_) (fun h=>?_)|refine cn rfl (fun h=>?_) (fun h=>?_)|refine cc rfl (fun h=>?_) (fun h=>?_)
    |(apply hK;clear hK K)|(refine AWh (by assumption) ?_))
      refine ⟨k + 1, by omega, by omega, ?_⟩
      apply Weak.mk' <;> simp [vl, handV, NetD.cells, NetD.hcells]
    · have hke : k = a.locs.length := by omega
      subst hke
      repeat' (first
    |refine AW_seq_k fun K hK=>?_|refine Step.by1 ?_|refine SBlock_exit_ne (by decide) ?_
    |((first|refine AW_region_AO ?_);simp [vl, NetD.cells, NetD.hcells, AutoD.cells, AutoD.hcells, hlt, ha, hkt, wrap_i64];try (simp (disch:=omega) only [wrap_i64];try simp [vl, NetD.cells, NetD.hcells, AutoD.cells, AutoD.hcells, hlt, ha, hkt, wrap_i64]))
    |(refine Split.by2 (fun h=>?_) (fun h=>?_)<;>(simp [h, vl, NetD.cells, NetD.hcells, AutoD.cells, AutoD.hcells, hlt, ha, hkt, wrap_i64];try (simp (disch:=omega) only [wrap_i64];try simp [vl, NetD.cells, NetD.hcells, AutoD.cells, AutoD.hcells, hlt, ha, hkt, wrap_i64])))
    |refine ct rfl ?_|refine cf rfl ?_|refine cnd rfl (fun h=>?_) (fun h=>?_)|refine cd rfl (fun h=>?_) (fun h=>?_)|refine cn rfl (fun h=>?_) (fun h=>?_)|refine cc rfl (fun h=>?_) (fun h=>?_)
    |(apply hK;clear hK K)|(refine AWh (by assumption) ?_))
      refine AW_loopL [2, 3, 5] (fun i : Nat => [(7, .int .i64 i)]) (fun _ => [.var n.hcells, .var n.cells]) (fun k => k ≤ a.edges.length) (fun k => a.edges.length - k) 0 (Nat.zero_le _) (by apply Weak.mk' <;> simp [vl, NetD.cells, NetD.hcells, handV]) (fun _ _ => rfl) ?_
      intro m hm
      by_cases hmt : m < a.edges.length
      · have hoy := he2 _ (List.getElem_mem hmt)
        obtain ⟨y, hy⟩ : ∃ y, a.edges[m] = y := ⟨_, rfl⟩
        rw [hy] at hoy
        obtain ⟨_, _, ok3, ok4, _, _, ok7, ok8⟩ := hoy
        have hcg := c_KeptGuards y.guards (by have := ok3.1; omega)
        have hcn := c_KeptNodes y.test (by have := ok4.1; omega)
        simp only [vl, handV] at hcg hcn
        repeat' (first
    |refine AW_seq_k fun K hK=>?_|refine Step.by1 ?_|refine SBlock_exit_ne (by decide) ?_
    |((first|refine AW_region_AO ?_|refine AS_call1 (f:=72) rfl rfl (hcg) rfl rfl rfl ?_|refine AS_call1 (f:=73) rfl rfl (hcn) rfl rfl rfl ?_);simp [vl, handV, NetD.cells, NetD.hcells, AutoD.cells, AutoD.hcells, EdgeD.cells, EdgeD.hcells, hlt, ha, hmt, hy, wrap_i64];try (simp (disch:=omega) only [wrap_i64];try simp [vl, handV, NetD.cells, NetD.hcells, AutoD.cells, AutoD.hcells, EdgeD.cells, EdgeD.hcells, hlt, ha, hmt, hy, wrap_i64]))
    |(refine Split.by2 (fun h=>?_) (fun h=>?_)<;>(simp [h, vl, handV, NetD.cells, NetD.hcells, AutoD.cells, AutoD.hcells, EdgeD.cells, EdgeD.hcells, hlt, ha, hmt, hy, wrap_i64];try (simp (disch:=omega) only [wrap_i64];try simp [vl, handV, NetD.cells, NetD.hcells, AutoD.cells, AutoD.hcells, EdgeD.cells, EdgeD.hcells, hlt, ha, hmt, hy, wrap_i64])))
    |refine ct rfl ?_|refine cf rfl ?_|refine cnd rfl (fun h=>?_) (fun h=>?_)|refine cd rfl (fun h=>?_) (fun h=>?_)|refine cn rfl (fun h=>?_) (fun h=>?_)|refine cc rfl (fun h=>?_) (fun h=>?_)
    |(apply hK;clear hK K)|(refine AWh (by assumption) ?_))
        refine AW_loopL [2, 3, 5, 7, 8, 9] (fun i : Nat => [(10, .int .i64 i)]) (fun _ => [.var n.hcells, .var n.cells, .var y.hcells, .var y.cells]) (fun k => k ≤ y.sets.length) (fun k => y.sets.length - k) 0 (Nat.zero_le _) (by apply Weak.mk' <;> simp [vl, NetD.cells, NetD.hcells, handV, EdgeD.cells, EdgeD.hcells]) (fun _ _ => rfl) ?_
        intro q hq
        by_cases hqt : q < y.sets.length
        · have hoz := ok8 _ (List.getElem_mem hqt)
          obtain ⟨z, hz⟩ : ∃ z, y.sets[q] = z := ⟨_, rfl⟩
          rw [hz] at hoz
          have hcz := c_KeptNodes z.expr (by have := hoz.2.2.2.1; omega)
          simp only [vl, handV] at hcz
          repeat' (first
    |refine AW_seq_k fun K hK=>?_|refine Step.by1 ?_|refine SBlock_exit_ne (by decide) ?_
    |((first|refine AW_region_AO ?_|refine AW_region_APx (id:=21) 14 mixed (by decide) ?_|refine AP_call1 (f:=73) rfl rfl (hcz) rfl rfl rfl ?_|refine AS_call1 (f:=73) rfl rfl (hcz) rfl rfl rfl ?_);simp [vl, handV, EdgeD.cells, EdgeD.hcells, SetD.cells, SetD.hcells, hqt, hz, wrap_i64];try (simp (disch:=omega) only [wrap_i64];try simp [vl, handV, EdgeD.cells, EdgeD.hcells, SetD.cells, SetD.hcells, hqt, hz, wrap_i64]))
    |(refine Split.by2 (fun h=>?_) (fun h=>?_)<;>(simp [h, vl, handV, EdgeD.cells, EdgeD.hcells, SetD.cells, SetD.hcells, hqt, hz, wrap_i64];try (simp (disch:=omega) only [wrap_i64];try simp [vl, handV, EdgeD.cells, EdgeD.hcells, SetD.cells, SetD.hcells, hqt, hz, wrap_i64])))
    |refine ct rfl ?_|refine cf rfl ?_|refine cnd rfl (fun h=>?_) (fun h=>?_)|refine cd rfl (fun h=>?_) (fun h=>?_)|refine cn rfl (fun h=>?_) (fun h=>?_)|refine cc rfl (fun h=>?_) (fun h=>?_)
    |(apply hK;clear hK K)|(refine AWh (by assumption) ?_))
          refine ⟨q + 1, by omega, by omega, ?_⟩
          apply Weak.mk' <;> simp [vl, handV, NetD.cells, NetD.hcells, EdgeD.cells, EdgeD.hcells]
        · repeat' (first
    |refine AW_seq_k fun K hK=>?_|refine Step.by1 ?_|refine SBlock_exit_ne (by decide) ?_
    |((first|refine AW_region_AO ?_);simp [vl, handV, EdgeD.cells, EdgeD.hcells, hqt, wrap_i64];try (simp (disch:=omega) only [wrap_i64];try simp [vl, handV, EdgeD.cells, EdgeD.hcells, hqt, wrap_i64]))
    |(refine Split.by2 (fun h=>?_) (fun h=>?_)<;>(simp [h, vl, handV, EdgeD.cells, EdgeD.hcells, hqt, wrap_i64];try (simp (disch:=omega) only [wrap_i64];try simp [vl, handV, EdgeD.cells, EdgeD.hcells, hqt, wrap_i64])))
    |refine ct rfl ?_|refine cf rfl ?_|refine cnd rfl (fun h=>?_) (fun h=>?_)|refine cd rfl (fun h=>?_) (fun h=>?_)|refine cn rfl (fun h=>?_) (fun h=>?_)|refine cc rfl (fun h=>?_) (fun h=>?_)
    |(apply hK;clear hK K)|(refine AWh (by assumption) ?_))
          refine ⟨m + 1, by omega, by omega, ?_⟩
          apply Weak.mk' <;> simp [vl, handV, NetD.cells, NetD.hcells]
      · have hme : m = a.edges.length := by omega
        subst hme
        repeat' (first
    |refine AW_seq_k fun K hK=>?_|refine Step.by1 ?_|refine SBlock_exit_ne (by decide) ?_
    |((first|refine AW_region_AO ?_);simp [vl, NetD.cells, NetD.hcells, AutoD.cells, AutoD.hcells, hlt, ha, hmt, wrap_i64];try (simp (disch:=omega) only [wrap_i64];try simp [vl, NetD.cells, NetD.hcells, AutoD.cells, AutoD.hcells, hlt, ha, hmt, wrap_i64]))
    |(refine Split.by2 (fun h=>?_) (fun h=>?_)<;>(simp [h, vl, NetD.cells, NetD.hcells, AutoD.cells, AutoD.hcells, hlt, ha, hmt, wrap_i64];try (simp (disch:=omega) only [wrap_i64];try simp [vl, NetD.cells, NetD.hcells, AutoD.cells, AutoD.hcells, hlt, ha, hmt, wrap_i64])))
    |refine ct rfl ?_|refine cf rfl ?_|refine cnd rfl (fun h=>?_) (fun h=>?_)|refine cd rfl (fun h=>?_) (fun h=>?_)|refine cn rfl (fun h=>?_) (fun h=>?_)|refine cc rfl (fun h=>?_) (fun h=>?_)
    |(apply hK;clear hK K)|(refine AWh (by assumption) ?_))
        refine ⟨i + 1, by omega, by omega, ?_⟩
        apply Weak.mk' <;> simp [vl, handV, NetD.cells, NetD.hcells]
  · have hie : i = n.autos.length := by omega
    subst hie
    repeat' (first
    |refine AW_seq_k fun K hK=>?_|refine Step.by1 ?_|refine SBlock_exit_ne (by decide) ?_
    |((first|refine AW_region_AO ?_);simp [vl, NetD.cells, NetD.hcells, hlt])
    |(refine Split.by2 (fun h=>?_) (fun h=>?_)<;>(simp [h, vl, NetD.cells, NetD.hcells, hlt]))
    |refine ct rfl ?_|refine cf rfl ?_|refine cnd rfl (fun h=>?_) (fun h=>?_)|refine cd rfl (fun h=>?_) (fun h=>?_)|refine cn rfl (fun h=>?_) (fun h=>?_)|refine cc rfl (fun h=>?_) (fun h=>?_)
    |(apply hK;clear hK K)|(refine AWh (by assumption) ?_))
    exact retq1 (conv_eq rfl rfl)
end Go.Proofs.YtgmlimipejcpgaaGreatDoor
end

section
set_option linter.unusedVariables false
set_option linter.unusedSimpArgs false
namespace Go.Proofs.YtgmlimipejcpgaaGreatDoor
open Go Go.AM Fx
/-! Goals that are copied with marked room, and held against what they were. -/
def PartD.hcells (p : PartD) : List V := [handV AtD.cells markAts p.locs, handV GuardD.cells markGuards p.guards, handV NodeD.cells markNodes p.test]
theorem trims_PartH (x : PartD) : V.trims x.hcells = x.cells := by simp [PartD.hcells, PartD.cells, V.trims, V.trim, trim_handAts, trim_handGuards, trim_handNodes]
theorem trims_Part (x : PartD) : V.trims x.cells = x.cells := by simp [PartD.cells, V.trims, V.trim, trim_vlAts, trim_vlGuards, trim_vlNodes]
theorem trims_goal (g : List PartD) : (vl PartD.hcells g).trim = vl PartD.cells g := trim_vl' fun y _ => trims_PartH y
theorem trims_goal' (g : List PartD) : (vl PartD.cells g).trim = vl PartD.cells g := trim_vl' fun y _ => trims_Part y
set_option maxRecDepth 20000 in
set_option maxHeartbeats 8000000 in
theorem c_HandGoal (g : List PartD) (hg : okGoal g) : PC 18 [vl PartD.cells g] (vl PartD.hcells g) := by
  obtain ⟨hg1, hg2⟩ := hg
  have hgoal : PC 18 [vl PartD.cells g] (.own 130 (g.map PartD.hcells)) := by
    refine PCall_body Tryz.func18 rfl (by decide) Tryz.ntmps18 (by simp) Tryz.results18 ?_
    repeat' (first
    |refine AW_nilrow 3 130 rfl (by simp) ?_
    |refine AW_seq_k fun K hK=>?_|refine Step.by1 ?_|refine SBlock_exit_ne (by decide) ?_
    |((first|refine AW_region_AO ?_);simp [vl])
    |(refine Split.by2 (fun h=>?_) (fun h=>?_)<;>(simp [h, vl]))
    |refine ct rfl ?_|refine cf rfl ?_|refine cnd rfl (fun h=>?_) (fun h=>?_)|refine cd rfl (fun h=>?_) (fun h=>?_)|refine cn rfl (fun h=>?_) (fun h=>?_)|refine cc rfl (fun h=>?_) (fun h=>?_)
    |(apply hK;clear hK K)|(refine AWh (by assumption) ?_))
    refine AW_loopL [0] (fun i : Nat => [(4, .int .i64 i), (3, .ref 0 i 0 i)]) (fun i => [.row 130 i 0 true (pre PartD.hcells g i)]) (fun i => i ≤ g.length) (fun i => g.length - i) 0 (Nat.zero_le _) (by apply Weak.mk' <;> simp [vl, pre_zero]) (fun _ _ => rfl) ?_
    intro i hi
    by_cases hlt : i < g.length
    · have hps := pre_succ (c := PartD.hcells) hlt
      have hpl := pre_len (c := PartD.hcells) hi
      have hok := hg2 _ (List.getElem_mem hlt)
      obtain ⟨p, hp⟩ : ∃ p, g[i] = p := ⟨_, rfl⟩
      rw [hp] at hps hok
      have hc1 := c_HandAts p.locs (by have := hok.1.1; omega)
      have hc2 := c_HandGuards p.guards (by have := hok.2.1.1; omega)
      have hc3 := c_HandNodes p.test (by have := hok.2.2.1; omega)
      have hlt' : (i : Int) < g.length := by omega
      have hby : (i + 1) * 72 ≤ 140737488355328 := by omega
      have w1 : IntKind.i64.wrap ((i : Int) + 1) = i + 1 := wrap_i64 (by omega) (by omega)
      simp only [handV, vl] at hc1 hc2 hc3
      repeat' (first
    |refine AW_seq_k fun K hK=>?_|refine Step.by1 ?_|refine SBlock_exit_ne (by decide) ?_
    |((first|refine AW_region_AO ?_|refine AW_region_APx (id:=5) 21 mixed (by decide) ?_|refine AP_call1 (f:=74) rfl rfl (hc1) rfl rfl rfl ?_|refine AP_call1 (f:=56) rfl rfl (hc2) rfl rfl rfl ?_|refine AP_call1 (f:=57) rfl rfl (hc3) rfl rfl rfl ?_);simp [vl, handV, PartD.cells, hlt, hlt', hp, hpl, hby, w1])
    |(refine Split.by2 (fun h=>?_) (fun h=>?_)<;>(simp [h, vl, handV, PartD.cells, hlt, hlt', hp, hpl, hby, w1]))
    |refine ct rfl ?_|refine cf rfl ?_|refine cnd rfl (fun h=>?_) (fun h=>?_)|refine cd rfl (fun h=>?_) (fun h=>?_)|refine cn rfl (fun h=>?_) (fun h=>?_)|refine cc rfl (fun h=>?_) (fun h=>?_)
    |(refine AP_lit rfl (by simp [vl, handV, PartD.cells, hlt, hlt', hp, hpl, hby, w1]) ?_;simp [vl, handV, PartD.cells, hlt, hlt', hp, hpl, hby, w1])
    |(apply hK;clear hK K)|(refine AWh (by assumption) ?_))
      refine ⟨i + 1, by omega, by omega, ?_⟩
      apply Weak.mk' <;> simp [vl, handV, hps, PartD.hcells]
    · have hie : i = g.length := by omega
      subst hie
      repeat' (first
    |refine AW_seq_k fun K hK=>?_|refine Step.by1 ?_|refine SBlock_exit_ne (by decide) ?_
    |((first|refine AW_region_AO ?_);simp [vl, hlt, pre_end])
    |(refine Split.by2 (fun h=>?_) (fun h=>?_)<;>(simp [h, vl, hlt, pre_end]))
    |refine ct rfl ?_|refine cf rfl ?_|refine cnd rfl (fun h=>?_) (fun h=>?_)|refine cd rfl (fun h=>?_) (fun h=>?_)|refine cn rfl (fun h=>?_) (fun h=>?_)|refine cc rfl (fun h=>?_) (fun h=>?_)
    |(apply hK;clear hK K)|(refine AWh (by assumption) ?_))
      exact retq1 (.inr (.inl (conv1_own rfl (by simp))))
  have := hgoal.freeze
  simpa [vl] using this
set_option maxRecDepth 20000 in
set_option maxHeartbeats 8000000 in
theorem c_KeptGoal (g : List PartD) (hg : okGoal g) : PC 21 [vl PartD.hcells g, vl PartD.cells g] (.bool true) := by
  obtain ⟨hg1, hg2⟩ := hg
  refine PCall_body Tryz.func21 rfl (by decide) Tryz.ntmps21 (by simp) Tryz.results21 ?_
  repeat' (first
    |refine AW_seq_k fun K hK=>?_|refine Step.by1 ?_|refine SBlock_exit_ne (by decide) ?_
    |((first|refine AW_region_AO ?_);simp [vl])
    |(refine Split.by2 (fun h=>?_) (fun h=>?_)<;>(simp [h, vl]))
    |refine ct rfl ?_|refine cf rfl ?_|refine cnd rfl (fun h=>?_) (fun h=>?_)|refine cd rfl (fun h=>?_) (fun h=>?_)|refine cn rfl (fun h=>?_) (fun h=>?_)|refine cc rfl (fun h=>?_) (fun h=>?_)
    |(apply hK;clear hK K)|(refine AWh (by assumption) ?_))
  refine AW_loopL [0, 1] (fun i : Nat => [(5, .int .i64 i)]) (fun _ => []) (fun i => i ≤ g.length) (fun i => g.length - i) 0 (Nat.zero_le _) (by apply Weak.mk' <;> simp [vl]) (fun _ _ => rfl) ?_
  intro i hi
  by_cases hlt : i < g.length
  · have hok := hg2 _ (List.getElem_mem hlt)
    obtain ⟨p, hp⟩ : ∃ p, g[i] = p := ⟨_, rfl⟩
    rw [hp] at hok
    have hc1 := c_KeptAts p.locs (by have := hok.1.1; omega)
    have hc2 := c_KeptGuards p.guards (by have := hok.2.1.1; omega)
    have hc3 := c_KeptNodes p.test (by have := hok.2.2.1; omega)
    have hlt' : (i : Int) < g.length := by omega
    have w1 : IntKind.i64.wrap ((i : Int) + 1) = i + 1 := wrap_i64 (by omega) (by omega)
    simp only [handV, vl] at hc1 hc2 hc3
    repeat' (first
    |refine AW_seq_k fun K hK=>?_|refine Step.by1 ?_|refine SBlock_exit_ne (by decide) ?_
    |((first|refine AW_region_AO ?_|refine AW_region_APx (id:=6) 40 mixed (by decide) ?_|refine AP_call1 (f:=78) rfl rfl (hc1) rfl rfl rfl ?_|refine AP_call1 (f:=72) rfl rfl (hc2) rfl rfl rfl ?_|refine AP_call1 (f:=73) rfl rfl (hc3) rfl rfl rfl ?_);simp [vl, handV, PartD.cells, PartD.hcells, hlt, hlt', hp, w1])
    |(refine Split.by2 (fun h=>?_) (fun h=>?_)<;>(simp [h, vl, handV, PartD.cells, PartD.hcells, hlt, hlt', hp, w1]))
    |refine ct rfl ?_|refine cf rfl ?_|refine cnd rfl (fun h=>?_) (fun h=>?_)|refine cd rfl (fun h=>?_) (fun h=>?_)|refine cn rfl (fun h=>?_) (fun h=>?_)|refine cc rfl (fun h=>?_) (fun h=>?_)
    |(apply hK;clear hK K)|(refine AWh (by assumption) ?_))
    refine ⟨i + 1, by omega, by omega, ?_⟩
    apply Weak.mk' <;> simp [vl]
  · have hie : i = g.length := by omega
    subst hie
    repeat' (first
    |refine AW_seq_k fun K hK=>?_|refine Step.by1 ?_|refine SBlock_exit_ne (by decide) ?_
    |((first|refine AW_region_AO ?_);simp [vl, hlt])
    |(refine Split.by2 (fun h=>?_) (fun h=>?_)<;>(simp [h, vl, hlt]))
    |refine ct rfl ?_|refine cf rfl ?_|refine cnd rfl (fun h=>?_) (fun h=>?_)|refine cd rfl (fun h=>?_) (fun h=>?_)|refine cn rfl (fun h=>?_) (fun h=>?_)|refine cc rfl (fun h=>?_) (fun h=>?_)
    |(apply hK;clear hK K)|(refine AWh (by assumption) ?_))
    exact retq1 (conv_eq rfl rfl)
end Go.Proofs.YtgmlimipejcpgaaGreatDoor
end

section
set_option linter.unusedVariables false
set_option linter.unusedSimpArgs false
namespace Go.Proofs.YtgmlimipejcpgaaGreatDoor
open Go Go.AM Fx
/-! What is wrong with a goal, by the reference. -/
def goX (f : PartD → Int) (X : Int) : List PartD → Int
  | [] => X
  | p :: r => if f p ≠ 0 then f p else goX f X r
theorem goX_nil {f : PartD → Int} {X : Int} : goX f X [] = X := rfl
theorem goX_cons {f : PartD → Int} {X : Int} {p : PartD} {r : List PartD} : goX f X (p :: r) = if f p ≠ 0 then f p else goX f X r := rfl
theorem goX_eq {f : PartD → Int} {rest : List Int} : ∀ {g : List PartD}, firstE (goF f g :: rest) = goX f (firstE rest) g
  | [] => by rw [goF_nil, firstE_cons, if_neg (by simp), goX_nil]
  | p :: r => by
    rw [goF_cons, goX_cons]
    by_cases h : f p = 0
    · rw [if_neg (by simp [h]), if_neg (by simp [h]), goX_eq]
    · rw [if_pos h, if_pos h, firstE_cons, if_pos h]
theorem clkE_eq (n : NetD) (l : List GuardD) : clkE n l = if anyL (wayG n 12) l = true then 12 else 0 := by
  have h1 : wayG n 12 = clkG n := funext fun g => by simp [wayG]
  rw [h1]; rfl
theorem cmpE_eq (n : NetD) (l : List GuardD) : cmpE l = if anyL (wayG n 7) l = true then 7 else 0 := by
  have h1 : wayG n 7 = cmpG := funext fun g => by simp [wayG]
  rw [h1]; rfl
set_option maxRecDepth 20000 in
set_option maxHeartbeats 16000000 in
theorem r_WholeGoal (n : NetD) (hn : n.ok) (g : List PartD) (hg : okGoal g) : PC 76 [.agg n.cells, vl PartD.cells g] (.int .i64 (wholeGoalE n g)) := by
  have h0 := r_Whole n hn
  obtain ⟨hg1, hg2⟩ := hg
  have hnl := hn.2.2.2.1
  obtain ⟨r, hr⟩ : ∃ r, wholeGoalE n g = r := ⟨_, rfl⟩
  rw [hr]
  unfold wholeGoalE at hr
  rw [firstE_cons, firstE_cons, goX_eq, goX_eq, goX_eq, goX_eq, goX_eq, firstE_nil] at hr
  generalize wholeE n = e0 at *
  simp only [vl, NetD.cells] at h0
  refine PCall_body Tryz.func76 rfl (by decide) Tryz.ntmps76 (by simp) Tryz.results76 ?_
  by_cases hz : e0 = 0
  · rw [if_neg (by simp [hz])] at hr
    rw [hz] at h0
    by_cases hlong : 16 < g.length
    · rw [if_pos hlong, if_pos (by decide)] at hr
      have hl' : (16 : Int) < g.length := by omega
      repeat' (first
    |refine AW_seq_k fun K hK=>?_|refine Step.by1 ?_|refine SBlock_exit_ne (by decide) ?_
    |((first|refine AW_region_AO ?_|refine AS_call1 (f:=67) rfl rfl (h0) rfl rfl rfl ?_);simp [vl, NetD.cells, hlong, hl'])
    |(refine Split.by2 (fun h=>?_) (fun h=>?_)<;>(simp [h, vl, NetD.cells, hlong, hl']))
    |refine ct rfl ?_|refine cf rfl ?_|refine cnd rfl (fun h=>?_) (fun h=>?_)|refine cd rfl (fun h=>?_) (fun h=>?_)|refine cn rfl (fun h=>?_) (fun h=>?_)|refine cc rfl (fun h=>?_) (fun h=>?_)
    |(apply hK;clear hK K)|(refine AWh (by assumption) ?_))
      exact retq1 (conv_eq (by rw [← hr]; rfl) rfl)
    · rw [if_neg hlong, if_neg (by decide)] at hr
      have hl' : ¬ (16 : Int) < g.length := by omega
      obtain ⟨x5, hx5⟩ : ∃ x, goX (fun p => truthE n p.test) 0 g = x := ⟨_, rfl⟩
      rw [hx5] at hr
      obtain ⟨x4, hx4⟩ : ∃ x, goX (fun p => cmpE p.guards) x5 g = x := ⟨_, rfl⟩
      rw [hx4] at hr
      obtain ⟨x3, hx3⟩ : ∃ x, goX (fun p => clkE n p.guards) x4 g = x := ⟨_, rfl⟩
      rw [hx3] at hr
      obtain ⟨x2, hx2⟩ : ∃ x, goX (g2E n) x3 g = x := ⟨_, rfl⟩
      rw [hx2] at hr
      repeat' (first
    |refine AW_seq_k fun K hK=>?_|refine Step.by1 ?_|refine SBlock_exit_ne (by decide) ?_
    |((first|refine AW_region_AO ?_|refine AS_call1 (f:=67) rfl rfl (h0) rfl rfl rfl ?_);simp [vl, NetD.cells, hlong, hl'])
    |(refine Split.by2 (fun h=>?_) (fun h=>?_)<;>(simp [h, vl, NetD.cells, hlong, hl']))
    |refine ct rfl ?_|refine cf rfl ?_|refine cnd rfl (fun h=>?_) (fun h=>?_)|refine cd rfl (fun h=>?_) (fun h=>?_)|refine cn rfl (fun h=>?_) (fun h=>?_)|refine cc rfl (fun h=>?_) (fun h=>?_)
    |(apply hK;clear hK K)|(refine AWh (by assumption) ?_))
      -- sizes
      refine AW_scan (r := r) g 6 [1, 2] (goX g1E x2) hr (by apply Weak.mk' <;> simp [vl, NetD.cells]) ?_ ?_
      · intro i p _ hlt hp hF
        rw [goX_cons] at hF
        have hlt' : (i : Int) < g.length := by omega
        have w1 : IntKind.i64.wrap ((i : Int) + 1) = i + 1 := wrap_i64 (by omega) (by omega)
        have hg1E : g1E p = if 16 < p.locs.length ∨ 16 < p.guards.length ∨ 64 < p.test.length then 6 else 0 := by simp [g1E, longP]
        by_cases hq : 16 < p.locs.length ∨ 16 < p.guards.length ∨ 64 < p.test.length
        · rw [hg1E, if_pos hq, if_pos (by decide)] at hF
          repeat' (first
    |refine AW_seq_k fun K hK=>?_|refine Step.by1 ?_|refine SBlock_exit_ne (by decide) ?_
    |((first|refine AW_region_AO ?_);simp [vl, NetD.cells, PartD.cells, hlt, hlt', hp, w1])
    |(refine Split.by2 (fun h=>?_) (fun h=>?_)<;>(simp [h, vl, NetD.cells, PartD.cells, hlt, hlt', hp, w1]))
    |refine ct rfl ?_|refine cf rfl ?_|refine cnd rfl (fun h=>?_) (fun h=>?_)|refine cd rfl (fun h=>?_) (fun h=>?_)|refine cn rfl (fun h=>?_) (fun h=>?_)|refine cc rfl (fun h=>?_) (fun h=>?_)
    |(apply hK;clear hK K)|(refine AWh (by assumption) ?_))
          all_goals first
            | exact retq1 (conv_eq (by rw [← hF]; rfl) rfl)
            | (exfalso; omega)
            | trace_state
        · rw [hg1E, if_neg hq, if_neg (by decide)] at hF
          have q1 : ¬ (16 : Int) < p.locs.length := by omega
          have q2 : ¬ (16 : Int) < p.guards.length := by omega
          have q3 : ¬ (64 : Int) < p.test.length := by omega
          repeat' (first
    |refine AW_seq_k fun K hK=>?_|refine Step.by1 ?_|refine SBlock_exit_ne (by decide) ?_
    |((first|refine AW_region_AO ?_);simp [vl, NetD.cells, PartD.cells, hlt, hlt', hp, w1, q1, q2, q3])
    |(refine Split.by2 (fun h=>?_) (fun h=>?_)<;>(simp [h, vl, NetD.cells, PartD.cells, hlt, hlt', hp, w1, q1, q2, q3]))
    |refine ct rfl ?_|refine cf rfl ?_|refine cnd rfl (fun h=>?_) (fun h=>?_)|refine cd rfl (fun h=>?_) (fun h=>?_)|refine cn rfl (fun h=>?_) (fun h=>?_)|refine cc rfl (fun h=>?_) (fun h=>?_)
    |(apply hK;clear hK K)|(refine AWh (by assumption) ?_))
          refine ⟨hF, ?_⟩; apply Weak.mk' <;> simp [vl, NetD.cells]
      · intro hF
        rw [goX_nil] at hF
        subst hF
        clear hr
        repeat' (first
    |refine AW_seq_k fun K hK=>?_|refine Step.by1 ?_|refine SBlock_exit_ne (by decide) ?_
    |((first|refine AW_region_AO ?_);simp [vl, NetD.cells])
    |(refine Split.by2 (fun h=>?_) (fun h=>?_)<;>(simp [h, vl, NetD.cells]))
    |refine ct rfl ?_|refine cf rfl ?_|refine cnd rfl (fun h=>?_) (fun h=>?_)|refine cd rfl (fun h=>?_) (fun h=>?_)|refine cn rfl (fun h=>?_) (fun h=>?_)|refine cc rfl (fun h=>?_) (fun h=>?_)
    |(apply hK;clear hK K)|(refine AWh (by assumption) ?_))
        -- locations
        refine AW_scan (r := x2) g 7 [1, 2] (goX (g2E n) x3) hx2 (by apply Weak.mk' <;> simp [vl, NetD.cells]) ?_ ?_
        · intro i p _ hlt hp hF
          rw [goX_cons] at hF
          have hpo := hg2 p (hp ▸ List.getElem_mem hlt)
          have hpl := hpo.1.1
          have hlt' : (i : Int) < g.length := by omega
          have w0 : IntKind.i64.wrap ((i : Int) + 1) = i + 1 := wrap_i64 (by omega) (by omega)
          obtain ⟨E, hE⟩ : ∃ E : List AtD → Int, E = fun l => if anyL (atB n) l = true then 122 else goX (g2E n) x3 (g.drop (i + 1)) := ⟨_, rfl⟩
          have hEc : ∀ a l, E (a :: l) = if atB n a = true then 122 else E l := fun a l => by subst hE; by_cases h : atB n a = true <;> simp [anyL_cons, h]
          have hEn : E p.locs = x2 := by
            have hg2e : g2E n p = if anyL (atB n) p.locs = true then 122 else 0 := rfl
            rw [hg2e] at hF
            subst hE; rw [← hF]
            show (if anyL (atB n) p.locs = true then 122 else goX (g2E n) x3 (g.drop (i + 1))) = _
            cases anyL (atB n) p.locs <;> simp
          have hE0 : E [] = goX (g2E n) x3 (g.drop (i + 1)) := by subst hE; rfl
          clear hF hE
          repeat' (first
    |refine AW_seq_k fun K hK=>?_|refine Step.by1 ?_|refine SBlock_exit_ne (by decide) ?_
    |((first|refine AW_region_AO ?_);simp [vl, NetD.cells, PartD.cells, hlt, hlt', hp])
    |(refine Split.by2 (fun h=>?_) (fun h=>?_)<;>(simp [h, vl, NetD.cells, PartD.cells, hlt, hlt', hp]))
    |refine ct rfl ?_|refine cf rfl ?_|refine cnd rfl (fun h=>?_) (fun h=>?_)|refine cd rfl (fun h=>?_) (fun h=>?_)|refine cn rfl (fun h=>?_) (fun h=>?_)|refine cc rfl (fun h=>?_) (fun h=>?_)
    |(apply hK;clear hK K)|(refine AWh (by assumption) ?_))
          refine AW_scan (r := x2) p.locs 8 [1, 2, 7] E hEn (by apply Weak.mk' <;> simp [vl, NetD.cells]) ?_ ?_
          · intro k x _ hkt hx hG
            rw [hEc] at hG
            have hkt' : (k : Int) < p.locs.length := by omega
            have w1 : IntKind.i64.wrap ((k : Int) + 1) = k + 1 := wrap_i64 (by omega) (by omega)
            have ha : atB n x = decide (x.auto < 0 ∨ (n.autos.length : Int) ≤ x.auto ∨ x.loc < 0 ∨ ((n.autos.getD x.auto.toNat default).locs.length : Int) ≤ x.loc) := rfl
            by_cases q : 0 ≤ x.auto ∧ x.auto < n.autos.length
            · obtain ⟨k2, hk⟩ := Int.eq_ofNat_of_zero_le q.1
              have hkl : k2 < n.autos.length := by omega
              have hkl' : (k2 : Int) < n.autos.length := by omega
              obtain ⟨a, haa⟩ : ∃ a, n.autos[k2] = a := ⟨_, rfl⟩
              have hgg : n.autos.getD x.auto.toNat default = a := by rw [hk]; simp [List.getD, hkl, haa]
              rw [hgg] at ha
              have hk0 : ¬ (k2 : Int) < 0 := by omega
              have hk1 : ¬ (n.autos.length : Int) ≤ k2 := by omega
              rw [hk] at ha
              repeat' (first
    |refine AW_seq_k fun K hK=>?_|refine Step.by1 ?_|refine SBlock_exit_ne (by decide) ?_
    |((first|refine AW_region_AO ?_|refine AW_region_APx (id:=18) 29 mixed (by decide) ?_);simp [vl, PartD.cells, NetD.cells, AtD.cells, AutoD.cells, hlt, hlt', hp, hkt, hkt', hx, w1, hk, hkl, hkl', haa, hk0, hk1])
    |(refine Split.by2 (fun h=>?_) (fun h=>?_)<;>(simp [h, vl, PartD.cells, NetD.cells, AtD.cells, AutoD.cells, hlt, hlt', hp, hkt, hkt', hx, w1, hk, hkl, hkl', haa, hk0, hk1]))
    |refine ct rfl ?_|refine cf rfl ?_|refine cnd rfl (fun h=>?_) (fun h=>?_)|refine cd rfl (fun h=>?_) (fun h=>?_)|refine cn rfl (fun h=>?_) (fun h=>?_)|refine cc rfl (fun h=>?_) (fun h=>?_)
    |(apply hK;clear hK K)|(refine AWh (by assumption) ?_))
              all_goals first
                | (rw [if_pos (by rw [ha]; simp; omega)] at hG
                   exact retq1 (conv_eq (by rw [← hG]; rfl) rfl))
                | (rw [if_neg (by rw [ha]; simp; omega)] at hG
                   refine ⟨hG, ?_⟩; apply Weak.mk' <;> simp [vl, NetD.cells])
                | trace_state
            · rw [if_pos (by rw [ha]; simp; omega)] at hG
              repeat' (first
    |refine AW_seq_k fun K hK=>?_|refine Step.by1 ?_|refine SBlock_exit_ne (by decide) ?_
    |((first|refine AW_region_AO ?_|refine AW_region_APx (id:=18) 29 mixed (by decide) ?_);simp [vl, PartD.cells, NetD.cells, AtD.cells, hlt, hlt', hp, hkt, hkt', hx, w1])
    |(refine Split.by2 (fun h=>?_) (fun h=>?_)<;>(simp [h, vl, PartD.cells, NetD.cells, AtD.cells, hlt, hlt', hp, hkt, hkt', hx, w1]))
    |refine ct rfl ?_|refine cf rfl ?_|refine cnd rfl (fun h=>?_) (fun h=>?_)|refine cd rfl (fun h=>?_) (fun h=>?_)|refine cn rfl (fun h=>?_) (fun h=>?_)|refine cc rfl (fun h=>?_) (fun h=>?_)
    |(apply hK;clear hK K)|(refine AWh (by assumption) ?_))
              all_goals first
                | (exfalso; omega)
                | exact retq1 (conv_eq (by rw [← hG]; rfl) rfl)
                | trace_state
          · intro hG
            rw [hE0] at hG
            repeat' (first
    |refine AW_seq_k fun K hK=>?_|refine Step.by1 ?_|refine SBlock_exit_ne (by decide) ?_
    |((first|refine AW_region_AO ?_);simp [vl, PartD.cells, NetD.cells, hlt, hlt', hp, w0])
    |(refine Split.by2 (fun h=>?_) (fun h=>?_)<;>(simp [h, vl, PartD.cells, NetD.cells, hlt, hlt', hp, w0]))
    |refine ct rfl ?_|refine cf rfl ?_|refine cnd rfl (fun h=>?_) (fun h=>?_)|refine cd rfl (fun h=>?_) (fun h=>?_)|refine cn rfl (fun h=>?_) (fun h=>?_)|refine cc rfl (fun h=>?_) (fun h=>?_)
    |(apply hK;clear hK K)|(refine AWh (by assumption) ?_))
            refine ⟨hG, ?_⟩; apply Weak.mk' <;> simp [vl, NetD.cells]
        · intro hF
          rw [goX_nil] at hF
          subst hF
          clear hx2
          repeat' (first
    |refine AW_seq_k fun K hK=>?_|refine Step.by1 ?_|refine SBlock_exit_ne (by decide) ?_
    |((first|refine AW_region_AO ?_);simp [vl, NetD.cells])
    |(refine Split.by2 (fun h=>?_) (fun h=>?_)<;>(simp [h, vl, NetD.cells]))
    |refine ct rfl ?_|refine cf rfl ?_|refine cnd rfl (fun h=>?_) (fun h=>?_)|refine cd rfl (fun h=>?_) (fun h=>?_)|refine cn rfl (fun h=>?_) (fun h=>?_)|refine cc rfl (fun h=>?_) (fun h=>?_)
    |(apply hK;clear hK K)|(refine AWh (by assumption) ?_))
          -- guards, in two ways
          refine AW_loopL [1, 2, 10] (fun i : Nat => [(11, .int .i64 i)]) (fun _ => [.var n.cells, .row 30 0 0 true [[.int .i64 12], [.int .i64 7]]]) (fun i => i ≤ 2 ∧ ([x3, x4, x5] : List Int)[i]? = some x3) (fun i => 2 - i) 0 ⟨Nat.zero_le _, rfl⟩ (by apply Weak.mk' <;> simp [vl, NetD.cells]) (fun _ _ => rfl) ?_
          rintro i ⟨hi, hv⟩
          rcases i with _ | _ | _ | i
          · skip
            repeat' (first
    |refine AW_seq_k fun K hK=>?_|refine Step.by1 ?_|refine SBlock_exit_ne (by decide) ?_
    |((first|refine AW_region_AO ?_);simp [vl, NetD.cells, wrap_i64];try (simp (disch:=omega) only [wrap_i64];try simp [vl, NetD.cells, wrap_i64]))
    |(refine Split.by2 (fun h=>?_) (fun h=>?_)<;>(simp [h, vl, NetD.cells, wrap_i64];try (simp (disch:=omega) only [wrap_i64];try simp [vl, NetD.cells, wrap_i64])))
    |refine ct rfl ?_|refine cf rfl ?_|refine cnd rfl (fun h=>?_) (fun h=>?_)|refine cd rfl (fun h=>?_) (fun h=>?_)|refine cn rfl (fun h=>?_) (fun h=>?_)|refine cc rfl (fun h=>?_) (fun h=>?_)
    |(apply hK;clear hK K)|(refine AWh (by assumption) ?_))
            refine AW_scan (r := x3) g 12 [1, 2, 10, 11] (goX (fun p => clkE n p.guards) x4) hx3 (by apply Weak.mk' <;> simp [vl, NetD.cells]) ?_ ?_
            · intro m p _ hlt hp hG
              rw [goX_cons] at hG
              have hpo := hg2 p (hp ▸ List.getElem_mem hlt)
              have hc := r_guards n p.guards 12 (by have := hpo.2.1.1; omega)
              have heq := clkE_eq n p.guards
              have hlt' : (m : Int) < g.length := by omega
              have w1 : IntKind.i64.wrap ((m : Int) + 1) = m + 1 := wrap_i64 (by omega) (by omega)
              simp only [NetD.cells, vl] at hc
              simp only [heq] at hG
              clear heq
              generalize anyL (wayG n 12) p.guards = kb at *
              cases kb
              · rw [if_neg (by simp)] at hG
                repeat' (first
    |refine AW_seq_k fun K hK=>?_|refine Step.by1 ?_|refine SBlock_exit_ne (by decide) ?_
    |((first|refine AW_region_AO ?_|refine AW_region_APx (id:=27) 11 mixed (by decide) ?_|refine AP_call1 (f:=153) rfl rfl (hc) rfl rfl rfl ?_);simp [vl, NetD.cells, PartD.cells, hlt, hlt', hp, w1])
    |(refine Split.by2 (fun h=>?_) (fun h=>?_)<;>(simp [h, vl, NetD.cells, PartD.cells, hlt, hlt', hp, w1]))
    |refine ct rfl ?_|refine cf rfl ?_|refine cnd rfl (fun h=>?_) (fun h=>?_)|refine cd rfl (fun h=>?_) (fun h=>?_)|refine cn rfl (fun h=>?_) (fun h=>?_)|refine cc rfl (fun h=>?_) (fun h=>?_)
    |(apply hK;clear hK K)|(refine AWh (by assumption) ?_))
                refine ⟨hG, ?_⟩; apply Weak.mk' <;> simp [vl, NetD.cells]
              · rw [if_pos (by simp)] at hG
                repeat' (first
    |refine AW_seq_k fun K hK=>?_|refine Step.by1 ?_|refine SBlock_exit_ne (by decide) ?_
    |((first|refine AW_region_AO ?_|refine AW_region_APx (id:=27) 11 mixed (by decide) ?_|refine AP_call1 (f:=153) rfl rfl (hc) rfl rfl rfl ?_);simp [vl, NetD.cells, PartD.cells, hlt, hlt', hp, w1])
    |(refine Split.by2 (fun h=>?_) (fun h=>?_)<;>(simp [h, vl, NetD.cells, PartD.cells, hlt, hlt', hp, w1]))
    |refine ct rfl ?_|refine cf rfl ?_|refine cnd rfl (fun h=>?_) (fun h=>?_)|refine cd rfl (fun h=>?_) (fun h=>?_)|refine cn rfl (fun h=>?_) (fun h=>?_)|refine cc rfl (fun h=>?_) (fun h=>?_)
    |(apply hK;clear hK K)|(refine AWh (by assumption) ?_))
                exact retq1 (conv_eq (by rw [← hG]; rfl) rfl)
            · intro hG
              rw [goX_nil] at hG
              repeat' (first
    |refine AW_seq_k fun K hK=>?_|refine Step.by1 ?_|refine SBlock_exit_ne (by decide) ?_
    |((first|refine AW_region_AO ?_);simp [vl, NetD.cells, wrap_i64];try (simp (disch:=omega) only [wrap_i64];try simp [vl, NetD.cells, wrap_i64]))
    |(refine Split.by2 (fun h=>?_) (fun h=>?_)<;>(simp [h, vl, NetD.cells, wrap_i64];try (simp (disch:=omega) only [wrap_i64];try simp [vl, NetD.cells, wrap_i64])))
    |refine ct rfl ?_|refine cf rfl ?_|refine cnd rfl (fun h=>?_) (fun h=>?_)|refine cd rfl (fun h=>?_) (fun h=>?_)|refine cn rfl (fun h=>?_) (fun h=>?_)|refine cc rfl (fun h=>?_) (fun h=>?_)
    |(apply hK;clear hK K)|(refine AWh (by assumption) ?_))
              refine ⟨1, ⟨by omega, by rw [← hG]; rfl⟩, by omega, ?_⟩; apply Weak.mk' <;> simp [vl, NetD.cells]
          · have hv4 : x4 = x3 := by simpa using hv
            repeat' (first
    |refine AW_seq_k fun K hK=>?_|refine Step.by1 ?_|refine SBlock_exit_ne (by decide) ?_
    |((first|refine AW_region_AO ?_);simp [vl, NetD.cells, wrap_i64];try (simp (disch:=omega) only [wrap_i64];try simp [vl, NetD.cells, wrap_i64]))
    |(refine Split.by2 (fun h=>?_) (fun h=>?_)<;>(simp [h, vl, NetD.cells, wrap_i64];try (simp (disch:=omega) only [wrap_i64];try simp [vl, NetD.cells, wrap_i64])))
    |refine ct rfl ?_|refine cf rfl ?_|refine cnd rfl (fun h=>?_) (fun h=>?_)|refine cd rfl (fun h=>?_) (fun h=>?_)|refine cn rfl (fun h=>?_) (fun h=>?_)|refine cc rfl (fun h=>?_) (fun h=>?_)
    |(apply hK;clear hK K)|(refine AWh (by assumption) ?_))
            refine AW_scan (r := x3) g 12 [1, 2, 10, 11] (goX (fun p => cmpE p.guards) x5) (by rw [hx4]; exact hv4) (by apply Weak.mk' <;> simp [vl, NetD.cells]) ?_ ?_
            · intro m p _ hlt hp hG
              rw [goX_cons] at hG
              have hpo := hg2 p (hp ▸ List.getElem_mem hlt)
              have hc := r_guards n p.guards 7 (by have := hpo.2.1.1; omega)
              have heq := cmpE_eq n p.guards
              have hlt' : (m : Int) < g.length := by omega
              have w1 : IntKind.i64.wrap ((m : Int) + 1) = m + 1 := wrap_i64 (by omega) (by omega)
              simp only [NetD.cells, vl] at hc
              simp only [heq] at hG
              clear heq
              generalize anyL (wayG n 7) p.guards = kb at *
              cases kb
              · rw [if_neg (by simp)] at hG
                repeat' (first
    |refine AW_seq_k fun K hK=>?_|refine Step.by1 ?_|refine SBlock_exit_ne (by decide) ?_
    |((first|refine AW_region_AO ?_|refine AW_region_APx (id:=27) 11 mixed (by decide) ?_|refine AP_call1 (f:=153) rfl rfl (hc) rfl rfl rfl ?_);simp [vl, NetD.cells, PartD.cells, hlt, hlt', hp, w1])
    |(refine Split.by2 (fun h=>?_) (fun h=>?_)<;>(simp [h, vl, NetD.cells, PartD.cells, hlt, hlt', hp, w1]))
    |refine ct rfl ?_|refine cf rfl ?_|refine cnd rfl (fun h=>?_) (fun h=>?_)|refine cd rfl (fun h=>?_) (fun h=>?_)|refine cn rfl (fun h=>?_) (fun h=>?_)|refine cc rfl (fun h=>?_) (fun h=>?_)
    |(apply hK;clear hK K)|(refine AWh (by assumption) ?_))
                refine ⟨hG, ?_⟩; apply Weak.mk' <;> simp [vl, NetD.cells]
              · rw [if_pos (by simp)] at hG
                repeat' (first
    |refine AW_seq_k fun K hK=>?_|refine Step.by1 ?_|refine SBlock_exit_ne (by decide) ?_
    |((first|refine AW_region_AO ?_|refine AW_region_APx (id:=27) 11 mixed (by decide) ?_|refine AP_call1 (f:=153) rfl rfl (hc) rfl rfl rfl ?_);simp [vl, NetD.cells, PartD.cells, hlt, hlt', hp, w1])
    |(refine Split.by2 (fun h=>?_) (fun h=>?_)<;>(simp [h, vl, NetD.cells, PartD.cells, hlt, hlt', hp, w1]))
    |refine ct rfl ?_|refine cf rfl ?_|refine cnd rfl (fun h=>?_) (fun h=>?_)|refine cd rfl (fun h=>?_) (fun h=>?_)|refine cn rfl (fun h=>?_) (fun h=>?_)|refine cc rfl (fun h=>?_) (fun h=>?_)
    |(apply hK;clear hK K)|(refine AWh (by assumption) ?_))
                exact retq1 (conv_eq (by rw [← hG]; rfl) rfl)
            · intro hG
              rw [goX_nil] at hG
              repeat' (first
    |refine AW_seq_k fun K hK=>?_|refine Step.by1 ?_|refine SBlock_exit_ne (by decide) ?_
    |((first|refine AW_region_AO ?_);simp [vl, NetD.cells, wrap_i64];try (simp (disch:=omega) only [wrap_i64];try simp [vl, NetD.cells, wrap_i64]))
    |(refine Split.by2 (fun h=>?_) (fun h=>?_)<;>(simp [h, vl, NetD.cells, wrap_i64];try (simp (disch:=omega) only [wrap_i64];try simp [vl, NetD.cells, wrap_i64])))
    |refine ct rfl ?_|refine cf rfl ?_|refine cnd rfl (fun h=>?_) (fun h=>?_)|refine cd rfl (fun h=>?_) (fun h=>?_)|refine cn rfl (fun h=>?_) (fun h=>?_)|refine cc rfl (fun h=>?_) (fun h=>?_)
    |(apply hK;clear hK K)|(refine AWh (by assumption) ?_))
              refine ⟨2, ⟨by omega, by rw [← hG]; rfl⟩, by omega, ?_⟩; apply Weak.mk' <;> simp [vl, NetD.cells]
          · have hv5 : x5 = x3 := by simpa using hv
            repeat' (first
    |refine AW_seq_k fun K hK=>?_|refine Step.by1 ?_|refine SBlock_exit_ne (by decide) ?_
    |((first|refine AW_region_AO ?_);simp [vl, NetD.cells])
    |(refine Split.by2 (fun h=>?_) (fun h=>?_)<;>(simp [h, vl, NetD.cells]))
    |refine ct rfl ?_|refine cf rfl ?_|refine cnd rfl (fun h=>?_) (fun h=>?_)|refine cd rfl (fun h=>?_) (fun h=>?_)|refine cn rfl (fun h=>?_) (fun h=>?_)|refine cc rfl (fun h=>?_) (fun h=>?_)
    |(apply hK;clear hK K)|(refine AWh (by assumption) ?_))
            refine AW_scan (r := x3) g 13 [1, 2] (goX (fun p => truthE n p.test) 0) (by rw [hx5]; exact hv5) (by apply Weak.mk' <;> simp [vl, NetD.cells]) ?_ ?_
            · intro m p _ hlt hp hG
              rw [goX_cons] at hG
              have hpo := hg2 p (hp ▸ List.getElem_mem hlt)
              have hc := r_testless n p.test hpo.2.2.1
              have heq : truthE n p.test = if truthBad n p.test = true then 121 else 0 := rfl
              have hlt' : (m : Int) < g.length := by omega
              have w1 : IntKind.i64.wrap ((m : Int) + 1) = m + 1 := wrap_i64 (by omega) (by omega)
              simp only [NetD.cells, vl] at hc
              simp only [heq] at hG
              clear heq
              generalize truthBad n p.test = kb at *
              cases kb
              · rw [if_neg (by simp)] at hG
                repeat' (first
    |refine AW_seq_k fun K hK=>?_|refine Step.by1 ?_|refine SBlock_exit_ne (by decide) ?_
    |((first|refine AW_region_AO ?_|refine AW_region_APx (id:=32) 7 mixed (by decide) ?_|refine AP_call1 (f:=154) rfl rfl (hc) rfl rfl rfl ?_);simp [vl, NetD.cells, PartD.cells, hlt, hlt', hp, w1])
    |(refine Split.by2 (fun h=>?_) (fun h=>?_)<;>(simp [h, vl, NetD.cells, PartD.cells, hlt, hlt', hp, w1]))
    |refine ct rfl ?_|refine cf rfl ?_|refine cnd rfl (fun h=>?_) (fun h=>?_)|refine cd rfl (fun h=>?_) (fun h=>?_)|refine cn rfl (fun h=>?_) (fun h=>?_)|refine cc rfl (fun h=>?_) (fun h=>?_)
    |(apply hK;clear hK K)|(refine AWh (by assumption) ?_))
                refine ⟨hG, ?_⟩; apply Weak.mk' <;> simp [vl, NetD.cells]
              · rw [if_pos (by simp)] at hG
                repeat' (first
    |refine AW_seq_k fun K hK=>?_|refine Step.by1 ?_|refine SBlock_exit_ne (by decide) ?_
    |((first|refine AW_region_AO ?_|refine AW_region_APx (id:=32) 7 mixed (by decide) ?_|refine AP_call1 (f:=154) rfl rfl (hc) rfl rfl rfl ?_);simp [vl, NetD.cells, PartD.cells, hlt, hlt', hp, w1])
    |(refine Split.by2 (fun h=>?_) (fun h=>?_)<;>(simp [h, vl, NetD.cells, PartD.cells, hlt, hlt', hp, w1]))
    |refine ct rfl ?_|refine cf rfl ?_|refine cnd rfl (fun h=>?_) (fun h=>?_)|refine cd rfl (fun h=>?_) (fun h=>?_)|refine cn rfl (fun h=>?_) (fun h=>?_)|refine cc rfl (fun h=>?_) (fun h=>?_)
    |(apply hK;clear hK K)|(refine AWh (by assumption) ?_))
                exact retq1 (conv_eq (by rw [← hG]; rfl) rfl)
            · intro hG
              rw [goX_nil] at hG
              repeat' (first
    |refine AW_seq_k fun K hK=>?_|refine Step.by1 ?_|refine SBlock_exit_ne (by decide) ?_
    |((first|refine AW_region_AO ?_);simp [vl, NetD.cells])
    |(refine Split.by2 (fun h=>?_) (fun h=>?_)<;>(simp [h, vl, NetD.cells]))
    |refine ct rfl ?_|refine cf rfl ?_|refine cnd rfl (fun h=>?_) (fun h=>?_)|refine cd rfl (fun h=>?_) (fun h=>?_)|refine cn rfl (fun h=>?_) (fun h=>?_)|refine cc rfl (fun h=>?_) (fun h=>?_)
    |(apply hK;clear hK K)|(refine AWh (by assumption) ?_))
              exact retq1 (conv_eq (by rw [← hG]; rfl) rfl)
          · omega
  · rw [if_pos hz] at hr
    subst hr
    repeat' (first
    |refine AW_seq_k fun K hK=>?_|refine Step.by1 ?_|refine SBlock_exit_ne (by decide) ?_
    |((first|refine AW_region_AO ?_|refine AS_call1 (f:=67) rfl rfl (h0) rfl rfl rfl ?_);simp [vl, NetD.cells, hz])
    |(refine Split.by2 (fun h=>?_) (fun h=>?_)<;>(simp [h, vl, NetD.cells, hz]))
    |refine ct rfl ?_|refine cf rfl ?_|refine cnd rfl (fun h=>?_) (fun h=>?_)|refine cd rfl (fun h=>?_) (fun h=>?_)|refine cn rfl (fun h=>?_) (fun h=>?_)|refine cc rfl (fun h=>?_) (fun h=>?_)
    |(apply hK;clear hK K)|(refine AWh (by assumption) ?_))
    exact retq1 (conv_eq rfl rfl)
theorem diagE_eq (l : List GuardD) : diagE l = if anyL (badG 120) l = true then 120 else 0 := by
  have : badG 120 = diagG := funext fun g => by simp [badG]
  rw [this]; rfl
theorem greatE_eq (l : List GuardD) : greatE l = if anyL (badG 13) l = true then 13 else 0 := by
  have : badG 13 = greatG := funext fun g => by simp [badG]
  rw [this]; rfl
set_option maxRecDepth 20000 in
set_option maxHeartbeats 16000000 in
theorem r_Goal (n : NetD) (hn : n.ok) (g : List PartD) (hg : okGoal g) : PC 20 [.agg n.cells, vl PartD.cells g] (.int .i64 (goalE n g)) := by
  have h0 := r_Net n hn
  have h1 := r_WholeGoal n hn g hg
  obtain ⟨hg1, hg2⟩ := hg
  obtain ⟨r, hr⟩ : ∃ r, goalE n g = r := ⟨_, rfl⟩
  rw [hr]
  unfold goalE at hr
  rw [firstE_cons, firstE_cons, goX_eq, goX_eq, firstE_nil] at hr
  generalize netE n = e0 at *
  generalize wholeGoalE n g = e9 at *
  simp only [vl, NetD.cells] at h0 h1
  refine PCall_body Tryz.func20 rfl (by decide) Tryz.ntmps20 (by simp) Tryz.results20 ?_
  by_cases hz : e0 = 0
  · rw [if_neg (by simp [hz])] at hr
    rw [hz] at h0
    by_cases hz9 : e9 = 0
    · rw [if_neg (by simp [hz9])] at hr
      rw [hz9] at h1
      obtain ⟨x4, hx4⟩ : ∃ x, goX (fun p => greatE p.guards) 0 g = x := ⟨_, rfl⟩
      rw [hx4] at hr
      repeat' (first
    |refine AW_seq_k fun K hK=>?_|refine Step.by1 ?_|refine SBlock_exit_ne (by decide) ?_
    |((first|refine AW_region_AO ?_|refine AS_call1 (f:=16) rfl rfl (h0) rfl rfl rfl ?_|refine AS_call1 (f:=76) rfl rfl (h1) rfl rfl rfl ?_);simp [vl, NetD.cells])
    |(refine Split.by2 (fun h=>?_) (fun h=>?_)<;>(simp [h, vl, NetD.cells]))
    |refine ct rfl ?_|refine cf rfl ?_|refine cnd rfl (fun h=>?_) (fun h=>?_)|refine cd rfl (fun h=>?_) (fun h=>?_)|refine cn rfl (fun h=>?_) (fun h=>?_)|refine cc rfl (fun h=>?_) (fun h=>?_)
    |(apply hK;clear hK K)|(refine AWh (by assumption) ?_))
      refine AW_loopL [1, 6] (fun i : Nat => [(7, .int .i64 i)]) (fun _ => [.var n.cells, .row 30 0 0 true [[.int .i64 120], [.int .i64 13]]]) (fun i => i ≤ 2 ∧ ([r, x4, 0] : List Int)[i]? = some r) (fun i => 2 - i) 0 ⟨Nat.zero_le _, rfl⟩ (by apply Weak.mk' <;> simp [vl, NetD.cells]) (fun _ _ => rfl) ?_
      rintro i ⟨hi, hv⟩
      rcases i with _ | _ | _ | i
      · skip
        repeat' (first
    |refine AW_seq_k fun K hK=>?_|refine Step.by1 ?_|refine SBlock_exit_ne (by decide) ?_
    |((first|refine AW_region_AO ?_);simp [vl, NetD.cells, wrap_i64];try (simp (disch:=omega) only [wrap_i64];try simp [vl, NetD.cells, wrap_i64]))
    |(refine Split.by2 (fun h=>?_) (fun h=>?_)<;>(simp [h, vl, NetD.cells, wrap_i64];try (simp (disch:=omega) only [wrap_i64];try simp [vl, NetD.cells, wrap_i64])))
    |refine ct rfl ?_|refine cf rfl ?_|refine cnd rfl (fun h=>?_) (fun h=>?_)|refine cd rfl (fun h=>?_) (fun h=>?_)|refine cn rfl (fun h=>?_) (fun h=>?_)|refine cc rfl (fun h=>?_) (fun h=>?_)
    |(apply hK;clear hK K)|(refine AWh (by assumption) ?_))
        refine AW_scan (r := r) g 8 [1, 6, 7] (goX (fun p => diagE p.guards) x4) hr (by apply Weak.mk' <;> simp [vl, NetD.cells]) ?_ ?_
        · intro m p _ hlt hp hG
          rw [goX_cons] at hG
          have hpo := hg2 p (hp ▸ List.getElem_mem hlt)
          have hc0 := r_bad p.guards [] 120 (by have := hpo.2.1.1; omega) (by simp)
          have hc := PCall.denil (args := [vl GuardD.cells p.guards, .nils, .int .i64 120]) hc0 rfl
          rw [show (anyL (badG 120) p.guards || anyL (badS 120) []) = anyL (badG 120) p.guards by rw [anyL_nil, Bool.or_false]] at hc
          clear hc0
          have heq := diagE_eq p.guards
          have hlt' : (m : Int) < g.length := by omega
          have w1 : IntKind.i64.wrap ((m : Int) + 1) = m + 1 := wrap_i64 (by omega) (by omega)
          simp only [vl] at hc
          simp only [heq] at hG
          clear heq
          generalize anyL (badG 120) p.guards = kb at *
          cases kb
          · rw [if_neg (by simp)] at hG
            repeat' (first
    |refine AW_seq_k fun K hK=>?_|refine Step.by1 ?_|refine SBlock_exit_ne (by decide) ?_
    |((first|refine AW_region_AO ?_|refine AW_region_APx (id:=13) 10 mixed (by decide) ?_|refine AP_call1 (f:=77) rfl rfl (hc) rfl rfl rfl ?_);simp [vl, NetD.cells, PartD.cells, hlt, hlt', hp, w1])
    |(refine Split.by2 (fun h=>?_) (fun h=>?_)<;>(simp [h, vl, NetD.cells, PartD.cells, hlt, hlt', hp, w1]))
    |refine ct rfl ?_|refine cf rfl ?_|refine cnd rfl (fun h=>?_) (fun h=>?_)|refine cd rfl (fun h=>?_) (fun h=>?_)|refine cn rfl (fun h=>?_) (fun h=>?_)|refine cc rfl (fun h=>?_) (fun h=>?_)
    |(apply hK;clear hK K)|(refine AWh (by assumption) ?_))
            refine ⟨hG, ?_⟩; apply Weak.mk' <;> simp [vl, NetD.cells]
          · rw [if_pos (by simp)] at hG
            repeat' (first
    |refine AW_seq_k fun K hK=>?_|refine Step.by1 ?_|refine SBlock_exit_ne (by decide) ?_
    |((first|refine AW_region_AO ?_|refine AW_region_APx (id:=13) 10 mixed (by decide) ?_|refine AP_call1 (f:=77) rfl rfl (hc) rfl rfl rfl ?_);simp [vl, NetD.cells, PartD.cells, hlt, hlt', hp, w1])
    |(refine Split.by2 (fun h=>?_) (fun h=>?_)<;>(simp [h, vl, NetD.cells, PartD.cells, hlt, hlt', hp, w1]))
    |refine ct rfl ?_|refine cf rfl ?_|refine cnd rfl (fun h=>?_) (fun h=>?_)|refine cd rfl (fun h=>?_) (fun h=>?_)|refine cn rfl (fun h=>?_) (fun h=>?_)|refine cc rfl (fun h=>?_) (fun h=>?_)
    |(apply hK;clear hK K)|(refine AWh (by assumption) ?_))
            exact retq1 (conv_eq (by rw [← hG]; rfl) rfl)
        · intro hG
          rw [goX_nil] at hG
          repeat' (first
    |refine AW_seq_k fun K hK=>?_|refine Step.by1 ?_|refine SBlock_exit_ne (by decide) ?_
    |((first|refine AW_region_AO ?_);simp [vl, NetD.cells, wrap_i64];try (simp (disch:=omega) only [wrap_i64];try simp [vl, NetD.cells, wrap_i64]))
    |(refine Split.by2 (fun h=>?_) (fun h=>?_)<;>(simp [h, vl, NetD.cells, wrap_i64];try (simp (disch:=omega) only [wrap_i64];try simp [vl, NetD.cells, wrap_i64])))
    |refine ct rfl ?_|refine cf rfl ?_|refine cnd rfl (fun h=>?_) (fun h=>?_)|refine cd rfl (fun h=>?_) (fun h=>?_)|refine cn rfl (fun h=>?_) (fun h=>?_)|refine cc rfl (fun h=>?_) (fun h=>?_)
    |(apply hK;clear hK K)|(refine AWh (by assumption) ?_))
          refine ⟨1, ⟨by omega, by rw [← hG]; rfl⟩, by omega, ?_⟩; apply Weak.mk' <;> simp [vl, NetD.cells]
      · have hv4 : x4 = r := by simpa using hv
        repeat' (first
    |refine AW_seq_k fun K hK=>?_|refine Step.by1 ?_|refine SBlock_exit_ne (by decide) ?_
    |((first|refine AW_region_AO ?_);simp [vl, NetD.cells, wrap_i64];try (simp (disch:=omega) only [wrap_i64];try simp [vl, NetD.cells, wrap_i64]))
    |(refine Split.by2 (fun h=>?_) (fun h=>?_)<;>(simp [h, vl, NetD.cells, wrap_i64];try (simp (disch:=omega) only [wrap_i64];try simp [vl, NetD.cells, wrap_i64])))
    |refine ct rfl ?_|refine cf rfl ?_|refine cnd rfl (fun h=>?_) (fun h=>?_)|refine cd rfl (fun h=>?_) (fun h=>?_)|refine cn rfl (fun h=>?_) (fun h=>?_)|refine cc rfl (fun h=>?_) (fun h=>?_)
    |(apply hK;clear hK K)|(refine AWh (by assumption) ?_))
        refine AW_scan (r := r) g 8 [1, 6, 7] (goX (fun p => greatE p.guards) 0) (by rw [hx4]; exact hv4) (by apply Weak.mk' <;> simp [vl, NetD.cells]) ?_ ?_
        · intro m p _ hlt hp hG
          rw [goX_cons] at hG
          have hpo := hg2 p (hp ▸ List.getElem_mem hlt)
          have hc0 := r_bad p.guards [] 13 (by have := hpo.2.1.1; omega) (by simp)
          have hc := PCall.denil (args := [vl GuardD.cells p.guards, .nils, .int .i64 13]) hc0 rfl
          rw [show (anyL (badG 13) p.guards || anyL (badS 13) []) = anyL (badG 13) p.guards by rw [anyL_nil, Bool.or_false]] at hc
          clear hc0
          have heq := greatE_eq p.guards
          have hlt' : (m : Int) < g.length := by omega
          have w1 : IntKind.i64.wrap ((m : Int) + 1) = m + 1 := wrap_i64 (by omega) (by omega)
          simp only [vl] at hc
          simp only [heq] at hG
          clear heq
          generalize anyL (badG 13) p.guards = kb at *
          cases kb
          · rw [if_neg (by simp)] at hG
            repeat' (first
    |refine AW_seq_k fun K hK=>?_|refine Step.by1 ?_|refine SBlock_exit_ne (by decide) ?_
    |((first|refine AW_region_AO ?_|refine AW_region_APx (id:=13) 10 mixed (by decide) ?_|refine AP_call1 (f:=77) rfl rfl (hc) rfl rfl rfl ?_);simp [vl, NetD.cells, PartD.cells, hlt, hlt', hp, w1])
    |(refine Split.by2 (fun h=>?_) (fun h=>?_)<;>(simp [h, vl, NetD.cells, PartD.cells, hlt, hlt', hp, w1]))
    |refine ct rfl ?_|refine cf rfl ?_|refine cnd rfl (fun h=>?_) (fun h=>?_)|refine cd rfl (fun h=>?_) (fun h=>?_)|refine cn rfl (fun h=>?_) (fun h=>?_)|refine cc rfl (fun h=>?_) (fun h=>?_)
    |(apply hK;clear hK K)|(refine AWh (by assumption) ?_))
            refine ⟨hG, ?_⟩; apply Weak.mk' <;> simp [vl, NetD.cells]
          · rw [if_pos (by simp)] at hG
            repeat' (first
    |refine AW_seq_k fun K hK=>?_|refine Step.by1 ?_|refine SBlock_exit_ne (by decide) ?_
    |((first|refine AW_region_AO ?_|refine AW_region_APx (id:=13) 10 mixed (by decide) ?_|refine AP_call1 (f:=77) rfl rfl (hc) rfl rfl rfl ?_);simp [vl, NetD.cells, PartD.cells, hlt, hlt', hp, w1])
    |(refine Split.by2 (fun h=>?_) (fun h=>?_)<;>(simp [h, vl, NetD.cells, PartD.cells, hlt, hlt', hp, w1]))
    |refine ct rfl ?_|refine cf rfl ?_|refine cnd rfl (fun h=>?_) (fun h=>?_)|refine cd rfl (fun h=>?_) (fun h=>?_)|refine cn rfl (fun h=>?_) (fun h=>?_)|refine cc rfl (fun h=>?_) (fun h=>?_)
    |(apply hK;clear hK K)|(refine AWh (by assumption) ?_))
            exact retq1 (conv_eq (by rw [← hG]; rfl) rfl)
        · intro hG
          rw [goX_nil] at hG
          repeat' (first
    |refine AW_seq_k fun K hK=>?_|refine Step.by1 ?_|refine SBlock_exit_ne (by decide) ?_
    |((first|refine AW_region_AO ?_);simp [vl, NetD.cells, wrap_i64];try (simp (disch:=omega) only [wrap_i64];try simp [vl, NetD.cells, wrap_i64]))
    |(refine Split.by2 (fun h=>?_) (fun h=>?_)<;>(simp [h, vl, NetD.cells, wrap_i64];try (simp (disch:=omega) only [wrap_i64];try simp [vl, NetD.cells, wrap_i64])))
    |refine ct rfl ?_|refine cf rfl ?_|refine cnd rfl (fun h=>?_) (fun h=>?_)|refine cd rfl (fun h=>?_) (fun h=>?_)|refine cn rfl (fun h=>?_) (fun h=>?_)|refine cc rfl (fun h=>?_) (fun h=>?_)
    |(apply hK;clear hK K)|(refine AWh (by assumption) ?_))
          refine ⟨2, ⟨by omega, by rw [← hG]; rfl⟩, by omega, ?_⟩; apply Weak.mk' <;> simp [vl, NetD.cells]
      · have hv5 : 0 = r := by simpa using hv
        repeat' (first
    |refine AW_seq_k fun K hK=>?_|refine Step.by1 ?_|refine SBlock_exit_ne (by decide) ?_
    |((first|refine AW_region_AO ?_);simp [vl, NetD.cells])
    |(refine Split.by2 (fun h=>?_) (fun h=>?_)<;>(simp [h, vl, NetD.cells]))
    |refine ct rfl ?_|refine cf rfl ?_|refine cnd rfl (fun h=>?_) (fun h=>?_)|refine cd rfl (fun h=>?_) (fun h=>?_)|refine cn rfl (fun h=>?_) (fun h=>?_)|refine cc rfl (fun h=>?_) (fun h=>?_)
    |(apply hK;clear hK K)|(refine AWh (by assumption) ?_))
        exact retq1 (conv_eq (by rw [← hv5]; rfl) rfl)
      · omega
    · rw [if_pos hz9] at hr
      subst hr
      repeat' (first
    |refine AW_seq_k fun K hK=>?_|refine Step.by1 ?_|refine SBlock_exit_ne (by decide) ?_
    |((first|refine AW_region_AO ?_|refine AS_call1 (f:=16) rfl rfl (h0) rfl rfl rfl ?_|refine AS_call1 (f:=76) rfl rfl (h1) rfl rfl rfl ?_);simp [vl, NetD.cells, hz9])
    |(refine Split.by2 (fun h=>?_) (fun h=>?_)<;>(simp [h, vl, NetD.cells, hz9]))
    |refine ct rfl ?_|refine cf rfl ?_|refine cnd rfl (fun h=>?_) (fun h=>?_)|refine cd rfl (fun h=>?_) (fun h=>?_)|refine cn rfl (fun h=>?_) (fun h=>?_)|refine cc rfl (fun h=>?_) (fun h=>?_)
    |(apply hK;clear hK K)|(refine AWh (by assumption) ?_))
      exact retq1 (conv_eq rfl rfl)
  · rw [if_pos hz] at hr
    subst hr
    repeat' (first
    |refine AW_seq_k fun K hK=>?_|refine Step.by1 ?_|refine SBlock_exit_ne (by decide) ?_
    |((first|refine AW_region_AO ?_|refine AS_call1 (f:=16) rfl rfl (h0) rfl rfl rfl ?_);simp [vl, NetD.cells, hz])
    |(refine Split.by2 (fun h=>?_) (fun h=>?_)<;>(simp [h, vl, NetD.cells, hz]))
    |refine ct rfl ?_|refine cf rfl ?_|refine cnd rfl (fun h=>?_) (fun h=>?_)|refine cd rfl (fun h=>?_) (fun h=>?_)|refine cn rfl (fun h=>?_) (fun h=>?_)|refine cc rfl (fun h=>?_) (fun h=>?_)
    |(apply hK;clear hK K)|(refine AWh (by assumption) ?_))
    exact retq1 (conv_eq rfl rfl)
end Go.Proofs.YtgmlimipejcpgaaGreatDoor
end
