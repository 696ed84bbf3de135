/-
  YtbgooadmonnjaaaGreatDoorRs02: steps of the proof of a law of the program: what these texts prove holds under the hypotheses that their theorems name, and no others.
-/
import Derived.Test.YtbgooadmonnjaaaGreatDoorRc17
import Derived.Test.YtbgooadmonnjaaaGreatDoorRc11
import Derived.Test.YtbgooadmonnjaaaGreatDoorRs00
import Derived.Test.YtbgooadmonnjaaaGreatDoorRc08
import Derived.Test.YtbgooadmonnjaaaGreatDoorProg
import Derived.Test.YtbgooadmonnjaaaGreatDoorRc07
import Derived.Test.YtbgooadmonnjaaaGreatDoorRc06
import Derived.Test.YtbgooadmonnjaaaGreatDoorRc05
import Derived.Test.YtbgooadmonnjaaaGreatDoorRc04
import Derived.Test.YtbgooadmonnjaaaGreatDoorRc03
import Derived.Test.YtbgooadmonnjaaaGreatDoorRc02
import Derived.Test.YtbgooadmonnjaaaGreatDoorRc01
import Derived.Test.YtbgooadmonnjaaaGreatDoorRc00
import Derived.Tactics
import Derived.Below
import Derived.Laws.AppendOwn
import Derived.Laws.CopyRow
import Derived.Laws.Rows
import Derived.Laws.Entries
import Derived.Laws.StructEq
import Derived.ChangeKeysEq
import Derived.Laws.IdiomStrings
import Derived.KernelRfl
import Derived.Test.YtbgooadmonnjaaaGreatDoorRc10
import Derived.Test.YtbgooadmonnjaaaGreatDoorRc09
import Derived.Orders
import Derived.Scope
import Derived.ChangeSlices
import Derived.MapKept
import Derived.Test.YtbgooadmonnjaaaGreatDoorRows
import Derived.OpenShut
import Derived.Test.YtbgooadmonnjaaaGreatDoorCards
import Derived.Test.YtbgooadmonnjaaaGreatDoorTie
import Derived.WalkKit
import Derived.ProofKit
import Derived.ChangeOld
import Derived.Carry
import Derived.JoinedCond
import Derived.Deep.DeepHandedRow
import Derived.Test.YtbgooadmonnjaaaGreatDoorRc16
import Derived.Test.YtbgooadmonnjaaaGreatDoorRc12
import Derived.Test.YtbgooadmonnjaaaGreatDoorRc15
import Derived.Test.YtbgooadmonnjaaaGreatDoorRc13
import Derived.Test.YtbgooadmonnjaaaGreatDoorRc14
import Derived.Lib.AppendZeros
import Derived.Test.YtbgooadmonnjaaaGreatDoorRc19
import Derived.Test.YtbgooadmonnjaaaGreatDoorRc18
import Derived.Laws.IdiomCopy
import Derived.Test.YtbgooadmonnjaaaGreatDoorRs01
import Derived.Test.YtbgooadmonnjaaaGreatDoorRc34
import Derived.Test.YtbgooadmonnjaaaGreatDoorRc33
import Derived.Test.YtbgooadmonnjaaaGreatDoorRc31
import Derived.Test.YtbgooadmonnjaaaGreatDoorRc29
import Derived.Test.YtbgooadmonnjaaaGreatDoorRc28
import Derived.Test.YtbgooadmonnjaaaGreatDoorRc26
import Derived.Test.YtbgooadmonnjaaaGreatDoorRc25
import Derived.Test.YtbgooadmonnjaaaGreatDoorRc23
import Derived.Test.YtbgooadmonnjaaaGreatDoorRc20
import Derived.Test.YtbgooadmonnjaaaGreatDoorRc22
import Derived.Test.YtbgooadmonnjaaaGreatDoorRc21
import Derived.Shelf.Spec.BitsCarry
import Derived.Test.YtbgooadmonnjaaaGreatDoorRc24
import Derived.Test.YtbgooadmonnjaaaGreatDoorRc27
import Derived.Test.YtbgooadmonnjaaaGreatDoorRc30
import Derived.Test.YtbgooadmonnjaaaGreatDoorRc32
section
set_option linter.unusedVariables false
namespace Go.Proofs.YtbgooadmonnjaaaGreatDoor
open Go Go.AM
/-- An array of two. -/
theorem RdN_two {K : Bk} {P : Program} {T e : TypeId} {sz : Nat} {α : Type} {f : α → List V} {ok : α → Prop} (ht : P.underlying T = some (.array 2 e)) (hc : P.cellsOf T = sz + sz) (hs : P.cellsOf e = sz) (h : RdN K P e f ok) (hlen : ∀ a, (f a).length = sz) :
    RdN K P T (fun p : α × α => f p.1 ++ f p.2) (fun p => ok p.1 ∧ ok p.2) :=
  fun H enc w held fuel cs x hx hbk => by
    obtain ⟨xs, m, _, rfl, h1, h2, h3⟩ := DataW.trod_array ht hx
    have g0 := h3 0 (by omega)
    have g1 := h3 1 (by omega)
    rw [hs] at g0 g1
    rw [hc] at h1
    rw [List.getElem?_eq_getElem (by omega)] at g0 g1
    obtain ⟨a, k1, k2⟩ := h H enc w held m _ _ g0 (K.agg _ hbk _ (List.mem_map_of_mem (List.getElem_mem _)))
    obtain ⟨b, k3, k4⟩ := h H enc w held m _ _ g1 (K.agg _ hbk _ (List.mem_map_of_mem (List.getElem_mem _)))
    have e2 : (cs.drop (1 * sz)).take sz = cs.drop sz := by rw [Nat.one_mul]; exact List.take_of_length_le (by simp; omega)
    rw [e2] at k4
    rw [Nat.zero_mul, List.drop_zero] at k2
    exact ⟨(a, b), ⟨k1, k3⟩, .append (hlen a) k2 k4⟩
theorem okWide_arr {P : Program} {w : World} {r : Reach} {base : Nat} {t : TypeId} {v : Value} {n : Nat} {e : TypeId} (ht : P.underlying t = some (.array n e)) (h : Value.okWide P w r base t v) : ∃ cs, v = .agg cs ∧ cs.size = P.cellsOf t := by
  simp only [Value.okWide, ht] at h
  obtain ⟨cs, h1, h2, _⟩ := h
  exact ⟨cs, h1, h2⟩
theorem zco71 : Tryz.prog.cellsOf 71 = 2 + 2 := by kernel_rfl
theorem rnRats : RdN KB Tryz.prog 71 (fun p : RatD × RatD => p.1.cells ++ p.2.cells) (fun p => p.1.ok ∧ p.2.ok) :=
  RdN_two Tryz.underlying71 zco71 zco38 rnRatD (fun _ => rfl)
theorem zco65 : Tryz.prog.cellsOf 65 = 3 := by kernel_rfl
theorem zco33 : Tryz.prog.cellsOf 33 = 1 := by kernel_rfl
theorem rnCfgD : RdN KB Tryz.prog 65 CfgD.cells CfgD.ok :=
  (RdN_struct Tryz.underlying65 zco65 (rC rfl zco63 rnStateD (fun _ => rfl) (rC rfl zco33 (RdN_slice Tryz.underlying33 (by rw [zco38]; decide) rnRatD (fun _ => by rw [zco38]; rfl)) (fun _ => rfl) (RdNs_nil rfl)))).map
    (fun p => ⟨p.1, p.2.1⟩) (fun _ => rfl) (fun p h => ⟨h.1, h.2.1.1, h.2.1.2⟩)
end Go.Proofs.YtbgooadmonnjaaaGreatDoor
end
section
set_option linter.unusedSimpArgs false
set_option linter.unusedVariables false
namespace Go.Proofs.YtbgooadmonnjaaaGreatDoor
open Go Go.AM Fx
theorem stays_zero {n : NetD} {c : CfgD} {d e : RatD} (h1 : lapsB n c d = true) (h2 : lapsB n c e = true) (hs : (addQ d e).2 = 0) : lapsB n c (addQ d e).1 = true := by
  obtain ⟨d1, d2⟩ := laps_delay h1
  obtain ⟨e1, e2⟩ := laps_delay h2
  obtain ⟨_, s1, s2⟩ := addQ_ok d1 e1 hs
  have s3 := addQ_pos d1 e1 hs d2 e2
  unfold lapsB delayB at *
  simp only [Bool.and_eq_true, Bool.or_eq_true, decide_eq_true_eq] at *
  refine ⟨⟨s1, s3⟩, ?_⟩
  rcases h1.2 with z1 | z1
  · rcases h2.2 with z2 | z2
    · left
      rw [z1, z2, Int.zero_mul, Int.zero_mul, Int.add_zero, Int.zero_mul] at s2
      have p1 := rightQ_den d1
      have p2 := rightQ_den e1
      rcases Int.mul_eq_zero.1 s2 with q | q
      · exact q
      · rcases Int.mul_eq_zero.1 q with q | q <;> omega
    · exact .inr z2
  · exact .inr z1
theorem addQ_sok {a b : RatD} (h : (addQ a b).2 = 0) : (addQ a b).1.ok := by
  by_cases q : (rightQ a && rightQ b) = true
  · rw [Bool.and_eq_true] at q; exact (addQ_ok q.1 q.2 h).1
  · unfold addQ at h; rw [if_neg q] at h; exact absurd h (by decide)
theorem sum_law {n : NetD} {c : CfgD} {d e : RatD} (h1 : (waitS n c d).1 = 0) (h2 : (waitS n (waitS n c d).2 e).1 = 0) (hs : (addQ d e).2 = 0) :
    waitS n c (addQ d e).1 = (0, (waitS n (waitS n c d).2 e).2) := by
  have w1 := wait_iff.1 h1
  have w2 := wait_iff.1 h2
  rw [wait_val w2]
  rw [wait_val w1] at w2 ⊢
  obtain ⟨c1, c2, c3⟩ := conf_iff.1 w1.conf
  obtain ⟨p1, p2⟩ := ptRight_iff.1 c3
  obtain ⟨d1, d2⟩ := laps_delay w1.laps
  obtain ⟨e1, e2⟩ := laps_delay w2.laps
  have a1 := addF_iff.1 w1.add
  have a2 := addF_iff.1 w2.add
  have key : ∀ r ∈ c.clocks, addQ r (addQ d e).1 = addQ (addQ r d).1 e := fun r hr => (addQ_assoc (p2 r hr).1 d1 e1 (a1 r hr) hs).symm
  have hm : ((c.clocks.map fun r => (addQ r d).1).map fun r => (addQ r e).1) = c.clocks.map fun r => (addQ r (addQ d e).1).1 := by
    rw [List.map_map]
    exact List.map_congr_left fun r hr => by rw [key r hr]; rfl
  have w : WaitOk n c (addQ d e).1 := by
    refine ⟨w1.net, w1.conf, stays_zero w1.laps w2.laps hs, addF_iff.2 fun r hr => ?_, ?_⟩
    · rw [key r hr]
      exact a2 _ (List.mem_map.2 ⟨r, hr, rfl⟩)
    · rw [← hm]; exact w2.kept
  rw [wait_val w, ← hm]
set_option maxRecDepth 40000 in
set_option maxHeartbeats 16000000 in
theorem c_ReplaySums (n : NetD) (hn : n.ok) (c : CfgD) (hc : c.ok) (d : RatD × RatD) (hd : d.1.ok ∧ d.2.ok) : PC 5 [.agg n.cells, .agg c.cells, .agg (d.1.cells ++ d.2.cells)] (.bool true) := by
  obtain ⟨d0, d1⟩ := d
  obtain ⟨hd0, hd1⟩ := hd
  have hlive := c_live21
  have hcells : n.cells = [.vec (n.clocks.map fun x => [.str x]) n.clocks.length, .vec (n.vars.map VarD.cells) n.vars.length, .vec (n.chans.map fun x => [.str x]) n.chans.length, .vec (n.autos.map AutoD.cells) n.autos.length] := rfl
  have ccl : ∀ c : CfgD, c.cells = [.vec (ivs c.st.locs) c.st.locs.length, .vec (ivs c.st.vars) c.st.vars.length, .vec (c.clocks.map RatD.cells) c.clocks.length] := fun _ => rfl
  have rcl : ∀ r : RatD, r.cells = [.int .i64 r.num, .int .i64 r.den] := fun _ => rfl
  have ht := c_turn c hc
  have hW := c_Wait n hn c hc d0 hd0
  have hlaw := @sum_law n c d0 d1
  have hok1 := wait_ok (n := n) hc hd0
  generalize waitS n c d0 = w at *
  obtain ⟨e1, c1⟩ := w
  simp only at hW hok1 hlaw ⊢
  by_cases h1 : e1 = 0
  rotate_left
  · simp only [hcells, ccl, rcl, List.cons_append, List.nil_append] at ht hW ⊢
    refine pB Tryz.func5 rfl (by decide) Tryz.ntmps5 (by simp) Tryz.results5 ?_
    repeat' (first
 |refine aK fun K hK=>?_|refine Step.by1 ?_|refine sE (by decide) ?_|refine cz rfl ?_|refine Fork.by2 (fun h=>?_) fun h=>?_
 |(refine aR ?_;simp)
 |(refine Split.by2 (fun h=>?_) (fun h=>?_)<;>(simp [h]))
 |(apply hK;clear hK K)|refine AWh ‹_› ?_)
    refine AW_region_chain 12 13 [0, 1, 2, 3, 4, 5, 6, 7, 8] (fun H => H[0]? = some (.var [.vec (n.clocks.map fun x => [.str x]) n.clocks.length, .vec (n.vars.map VarD.cells) n.vars.length, .vec (n.chans.map fun x => [.str x]) n.chans.length, .vec (n.autos.map AutoD.cells) n.autos.length]) ∧ H[1]? = some (.var [.vec (ivs c.st.locs) c.st.locs.length, .vec (ivs c.st.vars) c.st.vars.length, .vec (c.clocks.map RatD.cells) c.clocks.length]) ∧ H[2]? = some (.var [.int .i64 d0.num, .int .i64 d0.den, .int .i64 d1.num, .int .i64 d1.den])) mixed (by decide) (by decide) rfl ⟨rfl, rfl, rfl⟩ ?_
    simp only [List.take_succ_cons, List.take_zero]
    refine PX_op (v := .agg [.vec (n.clocks.map fun x => [.str x]) n.clocks.length, .vec (n.vars.map VarD.cells) n.vars.length, .vec (n.chans.map fun x => [.str x]) n.chans.length, .vec (n.autos.map AutoD.cells) n.autos.length]) rfl rfl rfl rfl (fun H hs => by simp [hs.1]) ?_
    refine PX_op (v := .agg [.vec (ivs c.st.locs) c.st.locs.length, .vec (ivs c.st.vars) c.st.vars.length, .vec (c.clocks.map RatD.cells) c.clocks.length]) rfl rfl rfl rfl (fun H hs => by simp [hs.2.1]) ?_
    refine PX_call (v := .agg [.vec (ivs c.st.locs) c.st.locs.length, .vec (ivs c.st.vars) c.st.vars.length, .vec (c.clocks.map RatD.cells) c.clocks.length]) rfl rfl rfl (by simp) ht rfl rfl ?_
    refine PX_op (v := .ptr 2 0) rfl rfl rfl rfl (fun H hs => by simp [hs.2.2]) ?_
    refine PX_op (v := .agg [.int .i64 d0.num, .int .i64 d0.den]) rfl rfl rfl rfl (fun H hs => by simp [hs.2.2]) ?_
    refine PX_call (v := .tup [.agg [.vec (ivs c1.st.locs) c1.st.locs.length, .vec (ivs c1.st.vars) c1.st.vars.length, .vec (c1.clocks.map RatD.cells) c1.clocks.length], .int .i64 e1]) rfl rfl rfl (by simp) hW rfl rfl ?_
    refine PX_op rfl rfl rfl rfl (fun H hs => ⟨trivial, rfl⟩) ?_
    refine PX_op (v := .agg [.vec (ivs c1.st.locs) c1.st.locs.length, .vec (ivs c1.st.vars) c1.st.vars.length, .vec (c1.clocks.map RatD.cells) c1.clocks.length]) rfl rfl rfl rfl (fun H hs => by simp []) ?_
    refine PX_op (v := .int .i64 e1) rfl rfl rfl rfl (fun H hs => by simp []) ?_
    refine PX_skip rfl ?_
    refine PX_skip rfl ?_
    refine PX_skip rfl ?_
    refine PX_nil ?_
    simp
    refine Ch_1 9 (by decide) (by decide) ?_
    refine ChS_op rfl rfl rfl rfl (by simp) rfl (by simp) ?_; simp
    refine Ch_1 10 (by decide) (by decide) ?_
    refine ChS_op rfl rfl rfl rfl (by simp) rfl (by simp) ?_; simp
    refine Ch_1 11 (by decide) (by decide) ?_
    refine cS1 rfl rfl rfl rfl (by simp) (by simp) ?_; simp
    refine Ch_end (by decide) ?_
    refine AS_of_AO ?_; simp
    repeat' (first
 |refine aK fun K hK=>?_|refine Step.by1 ?_|refine sE (by decide) ?_|refine cz rfl ?_|refine Fork.by2 (fun h=>?_) fun h=>?_
 |((first|refine aR ?_|refine aC (f:=17) rfl rfl (hlive) rfl rfl rfl ?_);simp [h1])
 |(refine Split.by2 (fun h=>?_) (fun h=>?_)<;>(simp [h, h1]))
 |(apply hK;clear hK K)|refine AWh ‹_› ?_)
    exact r1q (cE (by simp) rfl)
  · subst h1
    have hV := c_Wait n hn c1 hok1 d1 hd1
    have hA := r_AddQ d0 d1 hd0 hd1
    have hok2 := wait_ok (n := n) hok1 hd1
    generalize waitS n c1 d1 = w at *
    obtain ⟨e2, c2⟩ := w
    have hso : (addQ d0 d1).2 = 0 → (addQ d0 d1).1.ok := fun hs => addQ_sok hs
    generalize addQ d0 d1 = w at *
    obtain ⟨s, f⟩ := w
    simp only at hV hA hok2 hlaw hso ⊢
    by_cases h2 : e2 = 0
    rotate_left
    · simp only [hcells, ccl, rcl, List.cons_append, List.nil_append] at ht hW hV hA ⊢
      refine pB Tryz.func5 rfl (by decide) Tryz.ntmps5 (by simp) Tryz.results5 ?_
      repeat' (first
 |refine aK fun K hK=>?_|refine Step.by1 ?_|refine sE (by decide) ?_|refine cz rfl ?_|refine Fork.by2 (fun h=>?_) fun h=>?_
 |(refine aR ?_;simp)
 |(refine Split.by2 (fun h=>?_) (fun h=>?_)<;>(simp [h]))
 |(apply hK;clear hK K)|refine AWh ‹_› ?_)
      refine AW_region_chain 12 13 [0, 1, 2, 3, 4, 5, 6, 7, 8] (fun H => H[0]? = some (.var [.vec (n.clocks.map fun x => [.str x]) n.clocks.length, .vec (n.vars.map VarD.cells) n.vars.length, .vec (n.chans.map fun x => [.str x]) n.chans.length, .vec (n.autos.map AutoD.cells) n.autos.length]) ∧ H[1]? = some (.var [.vec (ivs c.st.locs) c.st.locs.length, .vec (ivs c.st.vars) c.st.vars.length, .vec (c.clocks.map RatD.cells) c.clocks.length]) ∧ H[2]? = some (.var [.int .i64 d0.num, .int .i64 d0.den, .int .i64 d1.num, .int .i64 d1.den])) mixed (by decide) (by decide) rfl ⟨rfl, rfl, rfl⟩ ?_
      simp only [List.take_succ_cons, List.take_zero]
      refine PX_op (v := .agg [.vec (n.clocks.map fun x => [.str x]) n.clocks.length, .vec (n.vars.map VarD.cells) n.vars.length, .vec (n.chans.map fun x => [.str x]) n.chans.length, .vec (n.autos.map AutoD.cells) n.autos.length]) rfl rfl rfl rfl (fun H hs => by simp [hs.1]) ?_
      refine PX_op (v := .agg [.vec (ivs c.st.locs) c.st.locs.length, .vec (ivs c.st.vars) c.st.vars.length, .vec (c.clocks.map RatD.cells) c.clocks.length]) rfl rfl rfl rfl (fun H hs => by simp [hs.2.1]) ?_
      refine PX_call (v := .agg [.vec (ivs c.st.locs) c.st.locs.length, .vec (ivs c.st.vars) c.st.vars.length, .vec (c.clocks.map RatD.cells) c.clocks.length]) rfl rfl rfl (by simp) ht rfl rfl ?_
      refine PX_op (v := .ptr 2 0) rfl rfl rfl rfl (fun H hs => by simp [hs.2.2]) ?_
      refine PX_op (v := .agg [.int .i64 d0.num, .int .i64 d0.den]) rfl rfl rfl rfl (fun H hs => by simp [hs.2.2]) ?_
      refine PX_call (v := .tup [.agg [.vec (ivs c1.st.locs) c1.st.locs.length, .vec (ivs c1.st.vars) c1.st.vars.length, .vec (c1.clocks.map RatD.cells) c1.clocks.length], .int .i64 0]) rfl rfl rfl (by simp) hW rfl rfl ?_
      refine PX_op rfl rfl rfl rfl (fun H hs => ⟨trivial, rfl⟩) ?_
      refine PX_op (v := .agg [.vec (ivs c1.st.locs) c1.st.locs.length, .vec (ivs c1.st.vars) c1.st.vars.length, .vec (c1.clocks.map RatD.cells) c1.clocks.length]) rfl rfl rfl rfl (fun H hs => by simp []) ?_
      refine PX_op (v := .int .i64 0) rfl rfl rfl rfl (fun H hs => by simp []) ?_
      refine PX_skip rfl ?_
      refine PX_skip rfl ?_
      refine PX_skip rfl ?_
      refine PX_nil ?_
      simp
      refine Ch_1 9 (by decide) (by decide) ?_
      refine ChS_op rfl rfl rfl rfl (by simp) rfl (by simp) ?_; simp
      refine Ch_1 10 (by decide) (by decide) ?_
      refine ChS_op rfl rfl rfl rfl (by simp) rfl (by simp) ?_; simp
      refine Ch_1 11 (by decide) (by decide) ?_
      refine cS1 rfl rfl rfl rfl (by simp) (by simp) ?_; simp
      refine Ch_end (by decide) ?_
      refine AS_of_AO ?_; simp
      repeat' (first
 |refine aK fun K hK=>?_|refine Step.by1 ?_|refine sE (by decide) ?_|refine cz rfl ?_|refine Fork.by2 (fun h=>?_) fun h=>?_
 |((first|refine aR ?_|refine aC (f:=21) rfl rfl (hV) rfl rfl rfl ?_|refine aC (f:=23) rfl rfl (hA) rfl rfl rfl ?_|refine aC (f:=17) rfl rfl (hlive) rfl rfl rfl ?_);simp [h2])
 |(refine Split.by2 (fun h=>?_) (fun h=>?_)<;>(simp [h, h2]))
 |(apply hK;clear hK K)|refine AWh ‹_› ?_)
      exact r1q (cE (by simp) rfl)
    · subst h2
      by_cases h3 : f = 0
      rotate_left
      · simp only [hcells, ccl, rcl, List.cons_append, List.nil_append] at ht hW hV hA ⊢
        refine pB Tryz.func5 rfl (by decide) Tryz.ntmps5 (by simp) Tryz.results5 ?_
        repeat' (first
 |refine aK fun K hK=>?_|refine Step.by1 ?_|refine sE (by decide) ?_|refine cz rfl ?_|refine Fork.by2 (fun h=>?_) fun h=>?_
 |(refine aR ?_;simp)
 |(refine Split.by2 (fun h=>?_) (fun h=>?_)<;>(simp [h]))
 |(apply hK;clear hK K)|refine AWh ‹_› ?_)
        refine AW_region_chain 12 13 [0, 1, 2, 3, 4, 5, 6, 7, 8] (fun H => H[0]? = some (.var [.vec (n.clocks.map fun x => [.str x]) n.clocks.length, .vec (n.vars.map VarD.cells) n.vars.length, .vec (n.chans.map fun x => [.str x]) n.chans.length, .vec (n.autos.map AutoD.cells) n.autos.length]) ∧ H[1]? = some (.var [.vec (ivs c.st.locs) c.st.locs.length, .vec (ivs c.st.vars) c.st.vars.length, .vec (c.clocks.map RatD.cells) c.clocks.length]) ∧ H[2]? = some (.var [.int .i64 d0.num, .int .i64 d0.den, .int .i64 d1.num, .int .i64 d1.den])) mixed (by decide) (by decide) rfl ⟨rfl, rfl, rfl⟩ ?_
        simp only [List.take_succ_cons, List.take_zero]
        refine PX_op (v := .agg [.vec (n.clocks.map fun x => [.str x]) n.clocks.length, .vec (n.vars.map VarD.cells) n.vars.length, .vec (n.chans.map fun x => [.str x]) n.chans.length, .vec (n.autos.map AutoD.cells) n.autos.length]) rfl rfl rfl rfl (fun H hs => by simp [hs.1]) ?_
        refine PX_op (v := .agg [.vec (ivs c.st.locs) c.st.locs.length, .vec (ivs c.st.vars) c.st.vars.length, .vec (c.clocks.map RatD.cells) c.clocks.length]) rfl rfl rfl rfl (fun H hs => by simp [hs.2.1]) ?_
        refine PX_call (v := .agg [.vec (ivs c.st.locs) c.st.locs.length, .vec (ivs c.st.vars) c.st.vars.length, .vec (c.clocks.map RatD.cells) c.clocks.length]) rfl rfl rfl (by simp) ht rfl rfl ?_
        refine PX_op (v := .ptr 2 0) rfl rfl rfl rfl (fun H hs => by simp [hs.2.2]) ?_
        refine PX_op (v := .agg [.int .i64 d0.num, .int .i64 d0.den]) rfl rfl rfl rfl (fun H hs => by simp [hs.2.2]) ?_
        refine PX_call (v := .tup [.agg [.vec (ivs c1.st.locs) c1.st.locs.length, .vec (ivs c1.st.vars) c1.st.vars.length, .vec (c1.clocks.map RatD.cells) c1.clocks.length], .int .i64 0]) rfl rfl rfl (by simp) hW rfl rfl ?_
        refine PX_op rfl rfl rfl rfl (fun H hs => ⟨trivial, rfl⟩) ?_
        refine PX_op (v := .agg [.vec (ivs c1.st.locs) c1.st.locs.length, .vec (ivs c1.st.vars) c1.st.vars.length, .vec (c1.clocks.map RatD.cells) c1.clocks.length]) rfl rfl rfl rfl (fun H hs => by simp []) ?_
        refine PX_op (v := .int .i64 0) rfl rfl rfl rfl (fun H hs => by simp []) ?_
        refine PX_skip rfl ?_
        refine PX_skip rfl ?_
        refine PX_skip rfl ?_
        refine PX_nil ?_
        simp
        refine Ch_1 9 (by decide) (by decide) ?_
        refine ChS_op rfl rfl rfl rfl (by simp) rfl (by simp) ?_; simp
        refine Ch_1 10 (by decide) (by decide) ?_
        refine ChS_op rfl rfl rfl rfl (by simp) rfl (by simp) ?_; simp
        refine Ch_1 11 (by decide) (by decide) ?_
        refine cS1 rfl rfl rfl rfl (by simp) (by simp) ?_; simp
        refine Ch_end (by decide) ?_
        refine AS_of_AO ?_; simp
        repeat' (first
 |refine aK fun K hK=>?_|refine Step.by1 ?_|refine sE (by decide) ?_|refine cz rfl ?_|refine Fork.by2 (fun h=>?_) fun h=>?_
 |((first|refine aR ?_|refine aC (f:=21) rfl rfl (hV) rfl rfl rfl ?_|refine aC (f:=23) rfl rfl (hA) rfl rfl rfl ?_|refine aC (f:=17) rfl rfl (hlive) rfl rfl rfl ?_);simp [h3])
 |(refine Split.by2 (fun h=>?_) (fun h=>?_)<;>(simp [h, h3]))
 |(apply hK;clear hK K)|refine AWh ‹_› ?_)
        exact r1q (cE (by simp) rfl)
      · subst h3
        have hX := c_Wait n hn c hc s (hso rfl)
        rw [hlaw (by simp) (by simp) (by simp)] at hX
        have hb := c_back c2
        have hsm := r_SameT c2 hok2
        simp only [hcells, ccl, rcl, List.cons_append, List.nil_append] at ht hW hV hA hX hb hsm ⊢
        refine pB Tryz.func5 rfl (by decide) Tryz.ntmps5 (by simp) Tryz.results5 ?_
        repeat' (first
 |refine aK fun K hK=>?_|refine Step.by1 ?_|refine sE (by decide) ?_|refine cz rfl ?_|refine Fork.by2 (fun h=>?_) fun h=>?_
 |(refine aR ?_;simp)
 |(refine Split.by2 (fun h=>?_) (fun h=>?_)<;>(simp [h]))
 |(apply hK;clear hK K)|refine AWh ‹_› ?_)
        refine AW_region_chain 12 13 [0, 1, 2, 3, 4, 5, 6, 7, 8] (fun H => H[0]? = some (.var [.vec (n.clocks.map fun x => [.str x]) n.clocks.length, .vec (n.vars.map VarD.cells) n.vars.length, .vec (n.chans.map fun x => [.str x]) n.chans.length, .vec (n.autos.map AutoD.cells) n.autos.length]) ∧ H[1]? = some (.var [.vec (ivs c.st.locs) c.st.locs.length, .vec (ivs c.st.vars) c.st.vars.length, .vec (c.clocks.map RatD.cells) c.clocks.length]) ∧ H[2]? = some (.var [.int .i64 d0.num, .int .i64 d0.den, .int .i64 d1.num, .int .i64 d1.den])) mixed (by decide) (by decide) rfl ⟨rfl, rfl, rfl⟩ ?_
        simp only [List.take_succ_cons, List.take_zero]
        refine PX_op (v := .agg [.vec (n.clocks.map fun x => [.str x]) n.clocks.length, .vec (n.vars.map VarD.cells) n.vars.length, .vec (n.chans.map fun x => [.str x]) n.chans.length, .vec (n.autos.map AutoD.cells) n.autos.length]) rfl rfl rfl rfl (fun H hs => by simp [hs.1]) ?_
        refine PX_op (v := .agg [.vec (ivs c.st.locs) c.st.locs.length, .vec (ivs c.st.vars) c.st.vars.length, .vec (c.clocks.map RatD.cells) c.clocks.length]) rfl rfl rfl rfl (fun H hs => by simp [hs.2.1]) ?_
        refine PX_call (v := .agg [.vec (ivs c.st.locs) c.st.locs.length, .vec (ivs c.st.vars) c.st.vars.length, .vec (c.clocks.map RatD.cells) c.clocks.length]) rfl rfl rfl (by simp) ht rfl rfl ?_
        refine PX_op (v := .ptr 2 0) rfl rfl rfl rfl (fun H hs => by simp [hs.2.2]) ?_
        refine PX_op (v := .agg [.int .i64 d0.num, .int .i64 d0.den]) rfl rfl rfl rfl (fun H hs => by simp [hs.2.2]) ?_
        refine PX_call (v := .tup [.agg [.vec (ivs c1.st.locs) c1.st.locs.length, .vec (ivs c1.st.vars) c1.st.vars.length, .vec (c1.clocks.map RatD.cells) c1.clocks.length], .int .i64 0]) rfl rfl rfl (by simp) hW rfl rfl ?_
        refine PX_op rfl rfl rfl rfl (fun H hs => ⟨trivial, rfl⟩) ?_
        refine PX_op (v := .agg [.vec (ivs c1.st.locs) c1.st.locs.length, .vec (ivs c1.st.vars) c1.st.vars.length, .vec (c1.clocks.map RatD.cells) c1.clocks.length]) rfl rfl rfl rfl (fun H hs => by simp []) ?_
        refine PX_op (v := .int .i64 0) rfl rfl rfl rfl (fun H hs => by simp []) ?_
        refine PX_skip rfl ?_
        refine PX_skip rfl ?_
        refine PX_skip rfl ?_
        refine PX_nil ?_
        simp
        refine Ch_1 9 (by decide) (by decide) ?_
        refine ChS_op rfl rfl rfl rfl (by simp) rfl (by simp) ?_; simp
        refine Ch_1 10 (by decide) (by decide) ?_
        refine ChS_op rfl rfl rfl rfl (by simp) rfl (by simp) ?_; simp
        refine Ch_1 11 (by decide) (by decide) ?_
        refine cS1 rfl rfl rfl rfl (by simp) (by simp) ?_; simp
        refine Ch_end (by decide) ?_
        refine AS_of_AO ?_; simp
        repeat' (first
 |refine aK fun K hK=>?_|refine Step.by1 ?_|refine sE (by decide) ?_|refine cz rfl ?_|refine Fork.by2 (fun h=>?_) fun h=>?_
 |((first|refine aR ?_|refine aC (f:=21) rfl rfl (hV) rfl rfl rfl ?_|refine aC (f:=23) rfl rfl (hA) rfl rfl rfl ?_);simp)
 |(refine Split.by2 (fun h=>?_) (fun h=>?_)<;>(simp [h]))
 |(apply hK;clear hK K)|refine AWh ‹_› ?_)
        refine AW_region_chain 11 12 [0, 1, 2, 3, 4, 5, 6, 7] (fun H => H[0]? = some (.var [.vec (n.clocks.map fun x => [.str x]) n.clocks.length, .vec (n.vars.map VarD.cells) n.vars.length, .vec (n.chans.map fun x => [.str x]) n.chans.length, .vec (n.autos.map AutoD.cells) n.autos.length]) ∧ H[1]? = some (.var [.vec (ivs c.st.locs) c.st.locs.length, .vec (ivs c.st.vars) c.st.vars.length, .vec (c.clocks.map RatD.cells) c.clocks.length]) ∧ H[5]? = some (.var [.int .i64 s.num, .int .i64 s.den])) mixed (by decide) (by decide) rfl ⟨rfl, rfl, rfl⟩ ?_
        simp only [List.take_succ_cons, List.take_zero]
        refine PX_op (v := .agg [.vec (n.clocks.map fun x => [.str x]) n.clocks.length, .vec (n.vars.map VarD.cells) n.vars.length, .vec (n.chans.map fun x => [.str x]) n.chans.length, .vec (n.autos.map AutoD.cells) n.autos.length]) rfl rfl rfl rfl (fun H hs => by simp [hs.1]) ?_
        refine PX_op (v := .agg [.vec (ivs c.st.locs) c.st.locs.length, .vec (ivs c.st.vars) c.st.vars.length, .vec (c.clocks.map RatD.cells) c.clocks.length]) rfl rfl rfl rfl (fun H hs => by simp [hs.2.1]) ?_
        refine PX_call (v := .agg [.vec (ivs c.st.locs) c.st.locs.length, .vec (ivs c.st.vars) c.st.vars.length, .vec (c.clocks.map RatD.cells) c.clocks.length]) rfl rfl rfl (by simp) ht rfl rfl ?_
        refine PX_op (v := .agg [.int .i64 s.num, .int .i64 s.den]) rfl rfl rfl rfl (fun H hs => by simp [hs.2.2]) ?_
        refine PX_call (v := .tup [.agg [.vec (ivs c2.st.locs) c2.st.locs.length, .vec (ivs c2.st.vars) c2.st.vars.length, .vec (c2.clocks.map RatD.cells) c2.clocks.length], .int .i64 0]) rfl rfl rfl (by simp) hX rfl rfl ?_
        refine PX_op rfl rfl rfl rfl (fun H hs => ⟨trivial, rfl⟩) ?_
        refine PX_op (v := .agg [.vec (ivs c2.st.locs) c2.st.locs.length, .vec (ivs c2.st.vars) c2.st.vars.length, .vec (c2.clocks.map RatD.cells) c2.clocks.length]) rfl rfl rfl rfl (fun H hs => by simp []) ?_
        refine PX_op (v := .int .i64 0) rfl rfl rfl rfl (fun H hs => by simp []) ?_
        refine PX_skip rfl ?_
        refine PX_skip rfl ?_
        refine PX_skip rfl ?_
        refine PX_nil ?_
        simp
        refine Ch_1 8 (by decide) (by decide) ?_
        refine ChS_op rfl rfl rfl rfl (by simp) rfl (by simp) ?_; simp
        refine Ch_1 9 (by decide) (by decide) ?_
        refine ChS_op rfl rfl rfl rfl (by simp) rfl (by simp) ?_; simp
        refine Ch_1 10 (by decide) (by decide) ?_
        refine cS1 rfl rfl rfl rfl (by simp) (by simp) ?_; simp
        refine Ch_end (by decide) ?_
        refine AS_of_AO ?_; simp
        repeat' (first
 |refine aK fun K hK=>?_|refine Step.by1 ?_|refine sE (by decide) ?_|refine cz rfl ?_|refine Fork.by2 (fun h=>?_) fun h=>?_
 |((first|refine aR ?_|refine aX (id:=9) 13 mixed (by decide) ?_|refine aP1 (f:=17) rfl rfl (hlive) rfl rfl rfl ?_|refine aP1 (f:=19) rfl rfl (hb) rfl rfl rfl ?_|refine aP1 (f:=18) rfl rfl (hsm) rfl rfl rfl ?_);simp)
 |(refine Split.by2 (fun h=>?_) (fun h=>?_)<;>(simp [h]))
 |(apply hK;clear hK K)|refine AWh ‹_› ?_)
        exact r1q (cE (by simp) rfl)
end Go.Proofs.YtbgooadmonnjaaaGreatDoor
end
