/-
  YtbgooadmonnjaaaGreatDoorRc20: steps of the proof of a law of the program: what these texts prove holds under the hypotheses that their theorems name, and no others.
-/
import Derived.Test.YtbgooadmonnjaaaGreatDoorRc19
import Derived.Test.YtbgooadmonnjaaaGreatDoorRc15
import Derived.Test.YtbgooadmonnjaaaGreatDoorRc07
import Derived.Test.YtbgooadmonnjaaaGreatDoorRc03
import Derived.Shelf.Spec.BitsCarry
section
set_option linter.unusedSimpArgs false
set_option linter.unusedVariables false
namespace Go.Proofs.YtbgooadmonnjaaaGreatDoor
open Go Go.AM Fx
theorem c_wrong13 (n : NetD) (hn : n.ok) (s : StateD) : PC 150 [.agg n.cells, .agg s.cells] (.int .i64 (badE n s)) := by
  have h1 := c_netRight n hn
  have h2 := c_stIs n hn s
  have e2 : badE n s = if decide (wholeE n = 0) = true then (if stB n s = true then 0 else 130) else 7 := by simp [badE]
  rw [e2]
  generalize decide (wholeE n = 0) = x at *
  generalize stB n s = y at *
  simp only [NetD.cells, StateD.cells] at *
  refine pB Tryz.func150 rfl (by decide) Tryz.ntmps150 (by simp) Tryz.results150 ?_
  cases x <;> cases y
  all_goals
    repeat' (first
 |refine aK fun K hK=>?_|refine Step.by1 ?_|refine sE (by decide) ?_|refine cz rfl ?_|refine Fork.by2 (fun h=>?_) fun h=>?_
 |((first|refine aR ?_|refine aC (f:=137) rfl rfl (h1) rfl rfl rfl ?_|refine aC (f:=186) rfl rfl (h2) rfl rfl rfl ?_);simp)
 |(refine Split.by2 (fun h=>?_) (fun h=>?_)<;>(simp [h]))
 |(apply hK;clear hK K)|refine AWh ‹_› ?_)
    exact r1q (cE (by simp) rfl)
set_option maxHeartbeats 8000000 in
theorem c_InvX (n : NetD) (hn : n.ok) (s : StateD) (h : badE n s = 0) : PC 84 [.agg n.cells, .agg s.cells] (.tup [vl GuardD.cells (invL n s), .int .i64 0]) := by
  have h1 := c_wrong13 n hn s
  rw [h] at h1
  obtain ⟨r1, r2, r3⟩ := right_at (bad_right h)
  have hal := hn.2.2.2.1
  have hiv : (ivs s.locs).length = s.locs.length := by simp [ivs]
  have hzl : (n.autos.zip s.locs).length = s.locs.length := by simp [r1]
  obtain ⟨E, hE⟩ : ∃ E, invL n s = E := ⟨_, rfl⟩
  rw [hE]
  simp only [NetD.cells, StateD.cells, vl] at h1 ⊢
  refine pB Tryz.func84 rfl (by decide) Tryz.ntmps84 (by simp) Tryz.results84 ?_
  repeat' (first
 |refine AW_nilrow 7 154 rfl (by simp) ?_
 |refine aK fun K hK=>?_|refine Step.by1 ?_|refine sE (by decide) ?_|refine cz rfl ?_|refine Fork.by2 (fun h=>?_) fun h=>?_
 |((first|refine aR ?_|refine aC (f:=150) rfl rfl (h1) rfl rfl rfl ?_);simp)
 |(refine Split.by2 (fun h=>?_) (fun h=>?_)<;>(simp [h]))
 |(apply hK;clear hK K)|refine AWh ‹_› ?_)
  refine AW_range (n.autos.zip s.locs) 19 [2, 17, 18] (fun c : Nat × List GuardD => [(7, .ref 2 c.1 0 c.2.length)]) (fun c => [.var [.vec (n.clocks.map fun x => [.str x]) n.clocks.length, .vec (n.vars.map VarD.cells) n.vars.length, .vec (n.chans.map fun x => [.str x]) n.chans.length, .vec (n.autos.map AutoD.cells) n.autos.length], .var [.vec (ivs s.locs) s.locs.length, .vec (ivs s.vars) s.vars.length], .row 154 c.1 0 true (c.2.map GuardD.cells)]) (fun i c => c.2.length ≤ i * 1048576) (catF invF) (0, []) (r := E)
    (by simp [catF, ← hE, invL]) (by simp) (by apply Weak.mk' <;> simp) (fun _ _ _ => rfl) ?_ ?_
  · rintro i ⟨g, out⟩ ⟨a, k⟩ hx? hlt hx hJ hF
    have hls : i < s.locs.length := by omega
    have hla : i < n.autos.length := by omega
    have hx2 : n.autos[i] = a ∧ s.locs[i] = k := by
      rw [List.getElem_zip] at hx
      exact ⟨congrArg Prod.fst hx, congrArg Prod.snd hx⟩
    obtain ⟨haa, hkk⟩ := hx2
    obtain ⟨k0, k1⟩ := r3 i a k (by rw [List.getElem?_eq_getElem hla, haa]) (by rw [List.getElem?_eq_getElem hls, hkk])
    obtain ⟨q, rfl⟩ := Int.eq_ofNat_of_zero_le k0
    have hq : q < a.locs.length := by omega
    obtain ⟨x, hxx⟩ : ∃ x, a.locs[q] = x := ⟨_, rfl⟩
    have ep : invF (a, (q : Int)) = x.inv := by simp [invF, List.getD, List.getElem?_eq_getElem hq, hxx]
    have hxi : x.inv.length ≤ 1048576 := ((hn.2.2.2.2 a (haa ▸ List.getElem_mem hla)).2.1.2 x (hxx ▸ List.getElem_mem hq)).2.2.1
    rw [catF_cons (g + 1)] at hF
    simp only at hJ hF
    rw [ep] at hF
    have hls' : (i : Int) < s.locs.length := by omega
    have hla' : (i : Int) < n.autos.length := by omega
    have w1 : IntKind.i64.wrap ((i : Int) + 1) = i + 1 := wI (by omega) (by omega)
    have hig : (ivs s.locs)[i]'(by omega) = [.int .i64 (q : Int)] := by simp [ivs, hkk]
    have htk : (x.inv.map GuardD.cells).take x.inv.length = x.inv.map GuardD.cells := List.take_of_length_le (by simp)
    have hby : (out.length + x.inv.length) * 32 ≤ 140737488355328 := by omega
    have hlg : ∀ z : GuardD, z.cells.length = 4 := fun _ => rfl
    repeat' (first
 |refine aK fun K hK=>?_|refine Step.by1 ?_|refine sE (by decide) ?_|refine cz rfl ?_|refine Fork.by2 (fun h=>?_) fun h=>?_
 |(refine aR ?_;simp [hls, hls', hla, hla', hiv, hig, haa, AutoD.cells, vl, hq, k1, hxx, LocD.cells, htk, hby, hlg, w1])
 |(refine Split.by2 (fun h=>?_) (fun h=>?_)<;>(simp [h, hls, hls', hla, hla', hiv, hig, haa, AutoD.cells, vl, hq, k1, hxx, LocD.cells, htk, hby, hlg, w1]))
 |(apply hK;clear hK K)|refine AWh ‹_› ?_)
    exact ⟨g + 1, out ++ x.inv, hF, by simp; omega, by apply Weak.mk' <;> simp⟩
  · rintro ⟨g, out⟩ hJ hF
    rw [catF_nil] at hF
    simp only at hF
    subst hF
    repeat' (first
 |refine aK fun K hK=>?_|refine Step.by1 ?_|refine sE (by decide) ?_|refine cz rfl ?_|refine Fork.by2 (fun h=>?_) fun h=>?_
 |(refine aR ?_;simp [hiv, hzl])
 |(refine Split.by2 (fun h=>?_) (fun h=>?_)<;>(simp [h, hiv, hzl]))
 |(apply hK;clear hK K)|refine AWh ‹_› ?_)
    exact retq2 (.inl ⟨2, by simp [Go.AM.frz], rfl⟩)
noncomputable def edgeO (n : NetD) (a k : Int) : Option EdgeD := if 0 ≤ a ∧ a < n.autos.length then (if 0 ≤ k ∧ k < (n.autos.getD a.toNat default).edges.length then some ((n.autos.getD a.toNat default).edges.getD k.toNat default) else none) else none
def edgeV : Option EdgeD → V
  | none => .tup [.agg [.int .i64 0, .int .i64 0, .nils, .nils, .int .i64 0, .bool false, .nils], .bool false]
  | some e => .tup [.agg e.cells, .bool true]
set_option maxHeartbeats 4000000 in
theorem c_edgeM (n : NetD) (a k : Int) : PC 245 [.agg n.cells, .int .i64 a, .int .i64 k] (edgeV (edgeO n a k)) := by
  unfold edgeO
  by_cases ha : 0 ≤ a ∧ a < n.autos.length
  · rw [if_pos ha]
    obtain ⟨i, rfl⟩ := Int.eq_ofNat_of_zero_le ha.1
    have hi : i < n.autos.length := by omega
    obtain ⟨A, hA⟩ : ∃ A, n.autos[i] = A := ⟨_, rfl⟩
    have hAd : n.autos.getD i default = A := by simp [List.getD, List.getElem?_eq_getElem hi, hA]
    rw [Int.toNat_natCast, hAd]
    have a0 : ¬ (i : Int) < 0 := by omega
    have a1 : ¬ (n.autos.length : Int) ≤ i := by omega
    have a2 : (i : Int) < n.autos.length := by omega
    by_cases hk : 0 ≤ k ∧ k < A.edges.length
    · rw [if_pos hk]
      obtain ⟨j, rfl⟩ := Int.eq_ofNat_of_zero_le hk.1
      have hj : j < A.edges.length := by omega
      obtain ⟨E, hE⟩ : ∃ E, A.edges[j] = E := ⟨_, rfl⟩
      have hEd : A.edges.getD j default = E := by simp [List.getD, List.getElem?_eq_getElem hj, hE]
      rw [Int.toNat_natCast, hEd]
      have k0 : ¬ (j : Int) < 0 := by omega
      have k1 : ¬ (A.edges.length : Int) ≤ j := by omega
      have k2 : (j : Int) < A.edges.length := by omega
      simp only [edgeV, NetD.cells, vl]
      refine pB Tryz.func245 rfl (by decide) Tryz.ntmps245 (by simp) Tryz.results245 ?_
      repeat' (first
 |refine aK fun K hK=>?_|refine Step.by1 ?_|refine sE (by decide) ?_|refine cz rfl ?_|refine Fork.by2 (fun h=>?_) fun h=>?_
 |(refine aR ?_;simp [a0, a1, a2, hi, hA, AutoD.cells, vl, k0, k1, k2, hj, hE, EdgeD.cells])
 |(refine Split.by2 (fun h=>?_) (fun h=>?_)<;>(simp [h, a0, a1, a2, hi, hA, AutoD.cells, vl, k0, k1, k2, hj, hE, EdgeD.cells]))
 |(apply hK;clear hK K)|refine AWh ‹_› ?_)
      exact retq2ct rfl (by simp) (cE (by simp [EdgeD.cells, vl]) (by simp))
    · rw [if_neg hk]
      simp only [edgeV, NetD.cells, vl]
      by_cases k0 : k < 0
      · refine pB Tryz.func245 rfl (by decide) Tryz.ntmps245 (by simp) Tryz.results245 ?_
        repeat' (first
 |refine aK fun K hK=>?_|refine Step.by1 ?_|refine sE (by decide) ?_|refine cz rfl ?_|refine Fork.by2 (fun h=>?_) fun h=>?_
 |(refine aR ?_;simp [a0, a1, a2, hi, hA, AutoD.cells, vl, k0])
 |(refine Split.by2 (fun h=>?_) (fun h=>?_)<;>(simp [h, a0, a1, a2, hi, hA, AutoD.cells, vl, k0]))
 |(apply hK;clear hK K)|refine AWh ‹_› ?_)
        exact retq2ct rfl (by simp) (cE (by simp) (by simp))
      · have k1 : (A.edges.length : Int) ≤ k := by omega
        refine pB Tryz.func245 rfl (by decide) Tryz.ntmps245 (by simp) Tryz.results245 ?_
        repeat' (first
 |refine aK fun K hK=>?_|refine Step.by1 ?_|refine sE (by decide) ?_|refine cz rfl ?_|refine Fork.by2 (fun h=>?_) fun h=>?_
 |(refine aR ?_;simp [a0, a1, a2, hi, hA, AutoD.cells, vl, k0, k1])
 |(refine Split.by2 (fun h=>?_) (fun h=>?_)<;>(simp [h, a0, a1, a2, hi, hA, AutoD.cells, vl, k0, k1]))
 |(apply hK;clear hK K)|refine AWh ‹_› ?_)
        exact retq2ct rfl (by simp) (cE (by simp) (by simp))
  · rw [if_neg ha]
    simp only [edgeV, NetD.cells, vl]
    by_cases a0 : a < 0
    · refine pB Tryz.func245 rfl (by decide) Tryz.ntmps245 (by simp) Tryz.results245 ?_
      repeat' (first
 |refine aK fun K hK=>?_|refine Step.by1 ?_|refine sE (by decide) ?_|refine cz rfl ?_|refine Fork.by2 (fun h=>?_) fun h=>?_
 |(refine aR ?_;simp [a0])
 |(refine Split.by2 (fun h=>?_) (fun h=>?_)<;>(simp [h, a0]))
 |(apply hK;clear hK K)|refine AWh ‹_› ?_)
      exact retq2ct rfl (by simp) (cE (by simp) (by simp))
    · have a1 : (n.autos.length : Int) ≤ a := by omega
      refine pB Tryz.func245 rfl (by decide) Tryz.ntmps245 (by simp) Tryz.results245 ?_
      repeat' (first
 |refine aK fun K hK=>?_|refine Step.by1 ?_|refine sE (by decide) ?_|refine cz rfl ?_|refine Fork.by2 (fun h=>?_) fun h=>?_
 |(refine aR ?_;simp [a0, a1])
 |(refine Split.by2 (fun h=>?_) (fun h=>?_)<;>(simp [h, a0, a1]))
 |(apply hK;clear hK K)|refine AWh ‹_› ?_)
      exact retq2ct rfl (by simp) (cE (by simp) (by simp))
/-- The other automaton's number. -/
def otherM (m : MoveD) : Int := IntKind.i64.wrap (m.wth - 1)
def pairB (m : MoveD) (e f : EdgeD) : Bool := !decide (otherM m = m.auto) && (!decide (e.chan = 0) && (decide (e.chan = f.chan) && (e.send && !f.send)))
def sideC (a : Int) (e : EdgeD) : List V := .int .i64 a :: e.cells
noncomputable def sidesS (n : NetD) (m : MoveD) : V := match edgeO n m.auto m.edge with
  | none => .tup [.nils, .bool false]
  | some e => if m.wth = 0 then .tup [.vec [sideC m.auto e] 1, .bool (decide (e.chan = 0) && decide (m.take = 0))] else match edgeO n (otherM m) m.take with
    | none => .tup [.nils, .bool false]
    | some f => if pairB m e f = true then .tup [.vec [sideC m.auto e, sideC (otherM m) f] 2, .bool true] else .tup [.nils, .bool false]
set_option maxRecDepth 20000 in
set_option maxHeartbeats 8000000 in
theorem c_sides (n : NetD) (m : MoveD) : PC 195 [.agg n.cells, .agg m.cells] (sidesS n m) := by
  have h1 := c_edgeM n m.auto m.edge
  have h2 := c_edgeM n (otherM m) m.take
  have ho : otherM m = IntKind.i64.wrap (m.wth - 1) := rfl
  unfold sidesS
  cases he : edgeO n m.auto m.edge with
  | none =>
    rw [he] at h1
    simp only [edgeV, NetD.cells, vl, MoveD.cells] at h1 ⊢
    refine pB Tryz.func195 rfl (by decide) Tryz.ntmps195 (by simp) Tryz.results195 ?_
    repeat' (first
 |refine aK fun K hK=>?_|refine Step.by1 ?_|refine sE (by decide) ?_|refine cz rfl ?_|refine Fork.by2 (fun h=>?_) fun h=>?_
 |((first|refine aR ?_|refine aC (f:=245) rfl rfl (h1) rfl rfl rfl ?_);simp)
 |(refine Split.by2 (fun h=>?_) (fun h=>?_)<;>(simp [h]))
 |(apply hK;clear hK K)|refine AWh ‹_› ?_)
    exact retq2 (cE (by simp) (by simp))
  | some e =>
    rw [he] at h1
    obtain ⟨ef, et, eg, ex, ec, es, el⟩ := e
    by_cases hw : m.wth = 0
    · simp only [hw, if_true]
      simp only [edgeV, NetD.cells, vl, MoveD.cells, EdgeD.cells, sideC] at h1 ⊢
      by_cases hc : ec = 0
      all_goals
        refine pB Tryz.func195 rfl (by decide) Tryz.ntmps195 (by simp) Tryz.results195 ?_
        repeat' (first
 |refine aK fun K hK=>?_|refine Step.by1 ?_|refine sE (by decide) ?_|refine cz rfl ?_|refine Fork.by2 (fun h=>?_) fun h=>?_
 |((first|refine aR ?_|refine aC (f:=245) rfl rfl (h1) rfl rfl rfl ?_|refine aX (id:=5) 14 mixed (by decide) ?_);simp [hw, hc])
 |(refine Split.by2 (fun h=>?_) (fun h=>?_)<;>(simp [h, hw, hc]))
 |(refine AP_lit rfl (by simp [hw, hc]) ?_;simp [hw, hc])
 |(apply hK;clear hK K)|refine AWh ‹_› ?_)
        all_goals exact retq2 (cE (by simp [hc]) (by simp))
    · simp only [hw, if_false]
      cases hf : edgeO n (otherM m) m.take with
      | none =>
        rw [hf] at h2
        simp only [edgeV, NetD.cells, vl, MoveD.cells, EdgeD.cells] at h1 h2 ⊢
        rw [ho] at h2
        refine pB Tryz.func195 rfl (by decide) Tryz.ntmps195 (by simp) Tryz.results195 ?_
        repeat' (first
 |refine aK fun K hK=>?_|refine Step.by1 ?_|refine sE (by decide) ?_|refine cz rfl ?_|refine Fork.by2 (fun h=>?_) fun h=>?_
 |((first|refine aR ?_|refine aC (f:=245) rfl rfl (h1) rfl rfl rfl ?_|refine aC (f:=245) rfl rfl (h2) rfl rfl rfl ?_);simp [hw])
 |(refine Split.by2 (fun h=>?_) (fun h=>?_)<;>(simp [h, hw]))
 |(apply hK;clear hK K)|refine AWh ‹_› ?_)
        all_goals exact retq2 (cE (by simp) (by simp))
      | some f =>
        rw [hf] at h2
        obtain ⟨ff, ft, fg, fx, fc, fs, fl⟩ := f
        simp only [edgeV, NetD.cells, vl, MoveD.cells, EdgeD.cells, pairB, sideC] at h1 h2 ⊢
        simp only [ho] at h2 ⊢
        generalize hW : IntKind.i64.wrap (m.wth - 1) = W at *
        by_cases c1 : W = m.auto
        · subst c1
          refine pB Tryz.func195 rfl (by decide) Tryz.ntmps195 (by simp) Tryz.results195 ?_
          repeat' (first
 |refine aK fun K hK=>?_|refine Step.by1 ?_|refine sE (by decide) ?_|refine cz rfl ?_|refine Fork.by2 (fun h=>?_) fun h=>?_
 |((first|refine aR ?_|refine aC (f:=245) rfl rfl (h1) rfl rfl rfl ?_|refine aC (f:=245) rfl rfl (h2) rfl rfl rfl ?_);simp [hw, hW])
 |(refine Split.by2 (fun h=>?_) (fun h=>?_)<;>(simp [h, hw, hW]))
 |(apply hK;clear hK K)|refine AWh ‹_› ?_)
          all_goals exact retq2 (cE (by simp) (by simp))
        · by_cases c2 : ec = 0
          · refine pB Tryz.func195 rfl (by decide) Tryz.ntmps195 (by simp) Tryz.results195 ?_
            repeat' (first
 |refine aK fun K hK=>?_|refine Step.by1 ?_|refine sE (by decide) ?_|refine cz rfl ?_|refine Fork.by2 (fun h=>?_) fun h=>?_
 |((first|refine aR ?_|refine aC (f:=245) rfl rfl (h1) rfl rfl rfl ?_|refine aC (f:=245) rfl rfl (h2) rfl rfl rfl ?_);simp [hw, hW, c1, c2])
 |(refine Split.by2 (fun h=>?_) (fun h=>?_)<;>(simp [h, hw, hW, c1, c2]))
 |(apply hK;clear hK K)|refine AWh ‹_› ?_)
            all_goals exact retq2 (cE (by simp [c1, c2]) (by simp))
          · by_cases c3 : ec = fc
            · subst c3
              cases es <;> cases fs
              all_goals
                refine pB Tryz.func195 rfl (by decide) Tryz.ntmps195 (by simp) Tryz.results195 ?_
                repeat' (first
 |(refine AW_region_AOL (id := 9) ?_;simp [hw, hW, c1, c2])
 |refine aK fun K hK=>?_|refine Step.by1 ?_|refine sE (by decide) ?_|refine cz rfl ?_|refine Fork.by2 (fun h=>?_) fun h=>?_
 |((first|refine aR ?_|refine aC (f:=245) rfl rfl (h1) rfl rfl rfl ?_|refine aC (f:=245) rfl rfl (h2) rfl rfl rfl ?_);simp [hw, hW, c1, c2])
 |(refine Split.by2 (fun h=>?_) (fun h=>?_)<;>(simp [h, hw, hW, c1, c2]))
 |(apply hK;clear hK K)|refine AWh ‹_› ?_)
                all_goals exact retq2 (cE (by simp [c1, c2]) (by simp))
            · refine pB Tryz.func195 rfl (by decide) Tryz.ntmps195 (by simp) Tryz.results195 ?_
              repeat' (first
 |refine aK fun K hK=>?_|refine Step.by1 ?_|refine sE (by decide) ?_|refine cz rfl ?_|refine Fork.by2 (fun h=>?_) fun h=>?_
 |((first|refine aR ?_|refine aC (f:=245) rfl rfl (h1) rfl rfl rfl ?_|refine aC (f:=245) rfl rfl (h2) rfl rfl rfl ?_);simp [hw, hW, c1, c2, c3])
 |(refine Split.by2 (fun h=>?_) (fun h=>?_)<;>(simp [h, hw, hW, c1, c2, c3]))
 |(apply hK;clear hK K)|refine AWh ‹_› ?_)
              all_goals exact retq2 (cE (by simp [c1, c2, c3]) (by simp))

def comP (p : AutoD × Int) : Bool := decide ((p.1.locs.getD p.2.toNat default).kind = 2)
def comE (n : NetD) (s : StateD) : Bool := rightSE n s && anyL comP (n.autos.zip s.locs)
theorem zip_at {n : NetD} {s : StateD} {i : Nat} {a : AutoD} {k : Int} (hlt : i < (n.autos.zip s.locs).length) (hx : (n.autos.zip s.locs)[i] = (a, k)) : ∃ (h1 : i < n.autos.length) (h2 : i < s.locs.length), n.autos[i] = a ∧ s.locs[i] = k := by
  have h3 : i < n.autos.length ∧ i < s.locs.length := by simpa [Nat.lt_min] using hlt
  refine ⟨h3.1, h3.2, ?_⟩
  rw [List.getElem_zip] at hx
  exact ⟨congrArg Prod.fst hx, congrArg Prod.snd hx⟩
set_option maxHeartbeats 8000000 in
theorem c_isCom (n : NetD) (hn : n.ok) (s : StateD) (hs : s.ok) (hr : rightSE n s = true) (i : Nat) (a : AutoD) (k : Int) (h1 : i < n.autos.length) (h2 : i < s.locs.length) (ha : n.autos[i] = a) (hk : s.locs[i] = k) :
    PC 198 [.agg n.cells, .agg s.cells, .int .i64 i] (.bool (comP (a, k))) := by
  obtain ⟨r1, r2, r3⟩ := right_at hr
  obtain ⟨k0, k1⟩ := r3 i a k (by rw [List.getElem?_eq_getElem h1, ha]) (by rw [List.getElem?_eq_getElem h2, hk])
  obtain ⟨q, rfl⟩ := Int.eq_ofNat_of_zero_le k0
  have hq : q < a.locs.length := by omega
  obtain ⟨x, hx⟩ : ∃ x, a.locs[q] = x := ⟨_, rfl⟩
  have ep : comP (a, (q : Int)) = decide (x.kind = 2) := by simp [comP, List.getD, List.getElem?_eq_getElem hq, hx]
  have h1' : (i : Int) < n.autos.length := by omega
  have h2' : (i : Int) < s.locs.length := by omega
  have hiv : (ivs s.locs).length = s.locs.length := by simp [ivs]
  have hig : (ivs s.locs)[i]'(by omega) = [.int .i64 (q : Int)] := by simp [ivs, hk]
  rw [ep]
  simp only [NetD.cells, StateD.cells, vl]
  refine pB Tryz.func198 rfl (by decide) Tryz.ntmps198 (by simp) Tryz.results198 ?_
  repeat' (first
 |refine aK fun K hK=>?_|refine Step.by1 ?_|refine sE (by decide) ?_|refine cz rfl ?_|refine Fork.by2 (fun h=>?_) fun h=>?_
 |((first|refine aR ?_|refine aX (id:=1) 16 mixed (by decide) ?_);simp [h1, h1', h2, h2', hiv, hig, ha, AutoD.cells, vl, hq, k1, hx, LocD.cells])
 |(refine Split.by2 (fun h=>?_) (fun h=>?_)<;>(simp [h, h1, h1', h2, h2', hiv, hig, ha, AutoD.cells, vl, hq, k1, hx, LocD.cells]))
 |(apply hK;clear hK K)|refine AWh ‹_› ?_)
  exact r1q (cE (by simp) rfl)
set_option maxHeartbeats 8000000 in
theorem c_Com (n : NetD) (hn : n.ok) (s : StateD) (hs : s.ok) : PC 199 [.agg n.cells, .agg s.cells] (.bool (comE n s)) := by
  have h1 := c_stRight n hn s
  have e : comE n s = (rightSE n s && anyL comP (n.autos.zip s.locs)) := rfl
  rw [e]
  have hsl := hs.1
  cases hr : rightSE n s
  · rw [hr] at h1
    simp only [NetD.cells, StateD.cells, vl] at h1 ⊢
    refine pB Tryz.func199 rfl (by decide) Tryz.ntmps199 (by simp) Tryz.results199 ?_
    repeat' (first
 |refine aK fun K hK=>?_|refine Step.by1 ?_|refine sE (by decide) ?_|refine cz rfl ?_|refine Fork.by2 (fun h=>?_) fun h=>?_
 |((first|refine aR ?_|refine aC (f:=119) rfl rfl (h1) rfl rfl rfl ?_);simp)
 |(refine Split.by2 (fun h=>?_) (fun h=>?_)<;>(simp [h]))
 |(apply hK;clear hK K)|refine AWh ‹_› ?_)
    exact r1q (cE (by simp) rfl)
  · rw [hr] at h1
    obtain ⟨r1, r2, r3⟩ := right_at hr
    have hc := fun (i : Nat) (a : AutoD) (k : Int) => c_isCom n hn s hs hr i a k
    have hiv : (ivs s.locs).length = s.locs.length := by simp [ivs]
    have hzl : (n.autos.zip s.locs).length = s.locs.length := by simp [r1]
    obtain ⟨E, hE⟩ : ∃ E, anyL comP (n.autos.zip s.locs) = E := ⟨_, rfl⟩
    rw [hE, Bool.true_and]
    simp only [NetD.cells, StateD.cells, vl] at h1 hc ⊢
    refine pB Tryz.func199 rfl (by decide) Tryz.ntmps199 (by simp) Tryz.results199 ?_
    repeat' (first
 |refine aK fun K hK=>?_|refine Step.by1 ?_|refine sE (by decide) ?_|refine cz rfl ?_|refine Fork.by2 (fun h=>?_) fun h=>?_
 |((first|refine aR ?_|refine aC (f:=119) rfl rfl (h1) rfl rfl rfl ?_);simp)
 |(refine Split.by2 (fun h=>?_) (fun h=>?_)<;>(simp [h]))
 |(apply hK;clear hK K)|refine AWh ‹_› ?_)
    refine aS1 (n.autos.zip s.locs) 13 [2, 3, 12] (anyL comP) hE (by apply Weak.mk' <;> simp) ?_ ?_
    · rintro i ⟨a, k⟩ _ hlt hx hF
      obtain ⟨u1, u2, u3, u4⟩ := zip_at hlt hx
      have hc := hc i a k u1 u2 u3 u4
      rw [anC] at hF
      have hlt' : (i : Int) < s.locs.length := by omega
      have w1 : IntKind.i64.wrap ((i : Int) + 1) = i + 1 := wI (by omega) (by omega)
      generalize comP (a, k) = b at *
      cases b
      · rw [Bool.false_or] at hF
        repeat' (first
 |refine aK fun K hK=>?_|refine Step.by1 ?_|refine sE (by decide) ?_|refine cz rfl ?_|refine Fork.by2 (fun h=>?_) fun h=>?_
 |((first|refine aR ?_|refine aC (f:=198) rfl rfl (hc) rfl rfl rfl ?_);simp [u2, hlt', w1])
 |(refine Split.by2 (fun h=>?_) (fun h=>?_)<;>(simp [h, u2, hlt', w1]))
 |(apply hK;clear hK K)|refine AWh ‹_› ?_)
        exact ⟨hF, by apply Weak.mk' <;> simp⟩
      · rw [Bool.true_or] at hF
        repeat' (first
 |refine aK fun K hK=>?_|refine Step.by1 ?_|refine sE (by decide) ?_|refine cz rfl ?_|refine Fork.by2 (fun h=>?_) fun h=>?_
 |((first|refine aR ?_|refine aC (f:=198) rfl rfl (hc) rfl rfl rfl ?_);simp [u2, hlt', w1])
 |(refine Split.by2 (fun h=>?_) (fun h=>?_)<;>(simp [h, u2, hlt', w1]))
 |(apply hK;clear hK K)|refine AWh ‹_› ?_)
        exact r1q (cE (by simp [← hF]) rfl)
    · intro hF
      rw [anyL_nil] at hF
      repeat' (first
 |refine aK fun K hK=>?_|refine Step.by1 ?_|refine sE (by decide) ?_|refine cz rfl ?_|refine Fork.by2 (fun h=>?_) fun h=>?_
 |(refine aR ?_;simp [hiv, hzl])
 |(refine Split.by2 (fun h=>?_) (fun h=>?_)<;>(simp [h, hiv, hzl]))
 |(apply hK;clear hK K)|refine AWh ‹_› ?_)
      exact r1q (cE (by simp [← hF]) rfl)

end Go.Proofs.YtbgooadmonnjaaaGreatDoor
end
section
set_option linter.unusedSimpArgs false
set_option linter.unusedVariables false
namespace Go.AM
open Go
theorem wrap_u64 (n : Int) : IntKind.u64.wrap n = n % 18446744073709551616 := by
  unfold IntKind.wrap; simp [IntKind.bits, IntKind.signed]
theorem wrapu_id {n : Int} (h0 : 0 ≤ n) (h1 : n < 18446744073709551616) : IntKind.u64.wrap n = n := by rw [wrap_u64]; omega
theorem bits_or {a b : Nat} (ha : a < 18446744073709551616) (hb : b < 18446744073709551616) : bits .or .u64 (a : Int) (b : Int) = ((a ||| b : Nat) : Int) := by
  show IntKind.u64.wrap ((BitVec.ofInt 64 (a : Int) ||| BitVec.ofInt 64 (b : Int)).toNat : Int) = _
  rw [BitVec.toNat_or, BitVec.toNat_ofInt, BitVec.toNat_ofInt]
  have h1 : ((a : Int) % ((2 ^ 64 : Nat) : Int)).toNat = a := by omega
  have h2 : ((b : Int) % ((2 ^ 64 : Nat) : Int)).toNat = b := by omega
  rw [h1, h2]
  have h3 : a ||| b < 2 ^ 64 := Nat.or_lt_two_pow (by omega) (by omega)
  exact wrapu_id (by omega) (by omega)
theorem bits_and {a b : Nat} (ha : a < 18446744073709551616) (hb : b < 18446744073709551616) : bits .and .u64 (a : Int) (b : Int) = ((a &&& b : Nat) : Int) := by
  show IntKind.u64.wrap ((BitVec.ofInt 64 (a : Int) &&& BitVec.ofInt 64 (b : Int)).toNat : Int) = _
  rw [BitVec.toNat_and, BitVec.toNat_ofInt, BitVec.toNat_ofInt]
  have h1 : ((a : Int) % ((2 ^ 64 : Nat) : Int)).toNat = a := by omega
  have h2 : ((b : Int) % ((2 ^ 64 : Nat) : Int)).toNat = b := by omega
  rw [h1, h2]
  have h3 : a &&& b < 2 ^ 64 := Nat.lt_of_le_of_lt Nat.and_le_left (by omega)
  exact wrapu_id (by omega) (by omega)
theorem bit_at {a i : Nat} (ha : a < 18446744073709551616) : bits .and .u64 (((a / 2 ^ i : Nat) : Int)) 1 = ((a / 2 ^ i % 2 : Nat) : Int) := by
  have h := bits_and (a := a / 2 ^ i) (b := 1) (Nat.lt_of_le_of_lt (Nat.div_le_self _ _) ha) (by omega)
  rw [Nat.and_one_is_mod] at h
  exact h
theorem or_bit {a b : Nat} (ha : a < 9223372036854775808) (hb : b < 2) : bits .or .u64 ((2 * a : Nat) : Int) (b : Int) = ((2 * a + b : Nat) : Int) := by
  rw [bits_or (by omega) (by omega)]
  have h := Nat.two_pow_add_eq_or_of_lt (i := 1) (b := b) (by omega) a
  simp only [Nat.pow_one] at h
  rw [h]
theorem or_pow {a k : Nat} (hk : k < 64) (ha : 2 ^ (k + 1) * a < 18446744073709551616) : bits .or .u64 ((2 ^ (k + 1) * a : Nat) : Int) ((2 ^ k : Nat) : Int) = ((2 ^ (k + 1) * a + 2 ^ k : Nat) : Int) := by
  have h2 : 2 ^ k < 2 ^ 64 := Nat.pow_lt_pow_right (by omega) hk
  rw [bits_or ha (by omega)]
  rw [Nat.two_pow_add_eq_or_of_lt (i := k + 1) (b := 2 ^ k) (Nat.pow_lt_pow_right (by omega) (by omega)) a]
theorem div_step {s t b : Nat} (ht : 0 < t) (hb : b < 2) : (2 * s + b) / t = 2 * (s / t) + (if t ≤ 2 * (s % t) + b then 1 else 0) ∧ (2 * s + b) % t = (if t ≤ 2 * (s % t) + b then 2 * (s % t) + b - t else 2 * (s % t) + b) := by
  have h1 := Nat.div_add_mod s t
  have h2 := Nat.mod_lt s ht
  generalize s / t = q at *
  generalize s % t = r at *
  have e : 2 * s + b = t * (2 * q) + (2 * r + b) := by rw [← h1]; rw [Nat.mul_add, Nat.mul_left_comm]; omega
  rw [e, Nat.mul_add_div ht, Nat.mul_add_mod]
  split
  · have h3 : 2 * r + b = t + (2 * r + b - t) := by omega
    have h4 : 2 * r + b - t < t := by omega
    constructor
    · rw [h3, Nat.add_div_left _ ht, Nat.div_eq_of_lt h4]
    · rw [h3, Nat.add_mod_left, Nat.mod_eq_of_lt h4]; omega
  · have h4 : 2 * r + b < t := by omega
    exact ⟨by rw [Nat.div_eq_of_lt h4], Nat.mod_eq_of_lt h4⟩
theorem half_bit {s i : Nat} : s / 2 ^ i = 2 * (s / 2 ^ (i + 1)) + s / 2 ^ i % 2 := by
  rw [Nat.pow_succ, ← Nat.div_div_eq_div_mul]; omega
/-- A bit of a number in two halves. -/
theorem bit_lo {s i : Nat} (hi : i < 64) : s % 18446744073709551616 / 2 ^ i % 2 = s / 2 ^ i % 2 := by
  have e : (18446744073709551616 : Nat) = 2 ^ i * 2 ^ (64 - i) := by rw [← Nat.pow_add, show i + (64 - i) = 64 by omega]
  rw [e, Nat.mod_mul_right_div_self]
  have e2 : (2 : Nat) ^ (64 - i) = 2 * 2 ^ (63 - i) := by rw [← Nat.pow_succ']; congr 1; omega
  rw [e2, Nat.mod_mul_right_mod]
theorem bit_hi {s i : Nat} (hi : 64 ≤ i) : s / 18446744073709551616 / 2 ^ (i - 64) % 2 = s / 2 ^ i % 2 := by
  rw [Nat.div_div_eq_div_mul]
  have e : (18446744073709551616 : Nat) * 2 ^ (i - 64) = 2 ^ i := by rw [show (18446744073709551616 : Nat) = 2 ^ 64 by decide, ← Nat.pow_add]; congr 1; omega
  rw [e]
theorem u64bits : IntKind.u64.bits = 64 := rfl
/-- A number shifted up by a bit, the bit put in. -/
theorem sh_all {r b : Nat} (hr : r < 170141183460469231731687303715884105728) (hb : b < 2) : bits .or .u64 (IntKind.u64.wrap ((r : Int) / 18446744073709551616 * 2 ^ min 1 IntKind.u64.bits)) (((r : Int) % 18446744073709551616).fdiv (2 ^ min 63 IntKind.u64.bits)) = ((2 * r + b : Nat) : Int) / 18446744073709551616 ∧
    ∃ x2 : Int, IntKind.u64.wrap ((r : Int) % 18446744073709551616 * 2 ^ min 1 IntKind.u64.bits) = x2 ∧ bits .or .u64 x2 (b : Int) = ((2 * r + b : Nat) : Int) % 18446744073709551616 := by
  rw [u64bits, show min 1 64 = 1 from rfl, show min 63 64 = 63 from rfl, Int.fdiv_eq_ediv_of_nonneg _ (by decide)]
  have e1 : IntKind.u64.wrap ((r : Int) / 18446744073709551616 * 2 ^ 1) = ((2 * (r / 18446744073709551616) : Nat) : Int) := by rw [wrap_u64]; omega
  have e2 : ((r : Int) % 18446744073709551616) / 2 ^ 63 = ((r % 18446744073709551616 / 9223372036854775808 : Nat) : Int) := by omega
  have e3 : IntKind.u64.wrap ((r : Int) % 18446744073709551616 * 2 ^ 1) = ((2 * (r % 9223372036854775808) : Nat) : Int) := by rw [wrap_u64]; omega
  refine ⟨?_, _, e3, ?_⟩
  · rw [e1, e2, or_bit (by omega) (by omega)]; omega
  · rw [or_bit (by omega) hb]; omega
/-- A bit of the low half, of the high half. -/
theorem bit_low {s j : Nat} (hj : j < 64) : bits .and .u64 (((s : Int) % 18446744073709551616).fdiv (2 ^ min j IntKind.u64.bits)) 1 = ((s / 2 ^ j % 2 : Nat) : Int) := by
  rw [u64bits, show min j 64 = j by omega, ← bit_lo hj]
  have h := bit_at (a := s % 18446744073709551616) (i := j) (by omega)
  rw [← h]
  congr 1
  rw [Int.fdiv_eq_ediv_of_nonneg _ (Int.pow_nonneg (by decide))]
  simp
theorem bit_high {s j : Nat} (hj : 64 ≤ j) (hj2 : j < 128) (hs : s < 340282366920938463463374607431768211456) : bits .and .u64 (((s : Int) / 18446744073709551616).fdiv (2 ^ min (j - 64) IntKind.u64.bits)) 1 = ((s / 2 ^ j % 2 : Nat) : Int) := by
  rw [u64bits, show min (j - 64) 64 = j - 64 by omega, ← bit_hi hj]
  have h := bit_at (a := s / 18446744073709551616) (i := j - 64) (by omega)
  rw [← h]
  congr 1
  rw [Int.fdiv_eq_ediv_of_nonneg _ (Int.pow_nonneg (by decide))]
  simp
/-- A bit more of a quotient. -/
theorem one_shl {j : Nat} (hj : j < 64) : IntKind.u64.wrap (1 * 2 ^ min j IntKind.u64.bits) = ((2 ^ j : Nat) : Int) := by
  have h2 : 2 ^ j < 2 ^ 64 := Nat.pow_lt_pow_right (by omega) hj
  rw [u64bits, show min j 64 = j by omega, Int.one_mul]
  have e : ((2 : Int) ^ j) = ((2 ^ j : Nat) : Int) := by simp
  rw [e]
  clear e
  generalize (2 : Nat) ^ j = B at *
  exact wrapu_id (by omega) (by omega)
theorem pow_split {j : Nat} (hj : 64 ≤ j) : 2 ^ j = 18446744073709551616 * 2 ^ (j - 64) := by
  rw [show (18446744073709551616 : Nat) = 2 ^ 64 by decide, ← Nat.pow_add]; congr 1; omega
theorem q_high {q j : Nat} (hj : 64 ≤ j) (hj2 : j < 128) (hq : 2 ^ (j + 1) * q < 340282366920938463463374607431768211456) :
    bits .or .u64 (((2 ^ (j + 1) * q : Nat) : Int) / 18446744073709551616) (IntKind.u64.wrap (1 * 2 ^ min (j - 64) IntKind.u64.bits)) = ((2 ^ (j + 1) * q + 2 ^ j : Nat) : Int) / 18446744073709551616 ∧ ((2 ^ (j + 1) * q : Nat) : Int) % 18446744073709551616 = ((2 ^ (j + 1) * q + 2 ^ j : Nat) : Int) % 18446744073709551616 := by
  have e1 : 2 ^ (j + 1) * q = 18446744073709551616 * (2 ^ (j - 64 + 1) * q) := by rw [pow_split (by omega : 64 ≤ j + 1), show j + 1 - 64 = j - 64 + 1 by omega, Nat.mul_assoc]
  have e2 := pow_split hj
  rw [one_shl (by omega)]
  have hA : 2 ^ (j - 64 + 1) * q < 18446744073709551616 := by omega
  have h := or_pow (k := j - 64) (a := q) (by omega) hA
  rw [e1, e2]
  generalize 2 ^ (j - 64 + 1) * q = A at *
  generalize 2 ^ (j - 64) = B at *
  have e3 : ((18446744073709551616 * A : Nat) : Int) / 18446744073709551616 = (A : Int) := by omega
  rw [e3, h]
  constructor <;> omega
theorem q_low {q j : Nat} (hj : j < 64) (hq : 2 ^ (j + 1) * q < 340282366920938463463374607431768211456) :
    bits .or .u64 (((2 ^ (j + 1) * q : Nat) : Int) % 18446744073709551616) (IntKind.u64.wrap (1 * 2 ^ min j IntKind.u64.bits)) = ((2 ^ (j + 1) * q + 2 ^ j : Nat) : Int) % 18446744073709551616 ∧ ((2 ^ (j + 1) * q : Nat) : Int) / 18446744073709551616 = ((2 ^ (j + 1) * q + 2 ^ j : Nat) : Int) / 18446744073709551616 := by
  have eM : (18446744073709551616 : Nat) = 2 ^ (j + 1) * 2 ^ (63 - j) := by rw [← Nat.pow_add, show j + 1 + (63 - j) = 64 by omega]
  have e1 : 2 ^ (j + 1) * q % 18446744073709551616 = 2 ^ (j + 1) * (q % 2 ^ (63 - j)) := by rw [eM, Nat.mul_mod_mul_left]
  have e2 : 2 ^ (j + 1) * q / 18446744073709551616 = q / 2 ^ (63 - j) := by rw [eM, Nat.mul_div_mul_left _ _ (Nat.two_pow_pos _)]
  have hlt : 2 ^ (j + 1) * (q % 2 ^ (63 - j)) + 2 ^ j < 18446744073709551616 := by
    have h1 : q % 2 ^ (63 - j) + 1 ≤ 2 ^ (63 - j) := Nat.mod_lt _ (Nat.two_pow_pos _)
    have h2 := Nat.mul_le_mul_left (2 ^ (j + 1)) h1
    rw [← eM, Nat.mul_add] at h2
    have h3 : 2 ^ j < 2 ^ (j + 1) := Nat.pow_lt_pow_right (by omega) (by omega)
    omega
  have h := or_pow (k := j) (a := q % 2 ^ (63 - j)) hj (by omega)
  rw [one_shl hj]
  have e3 : ((2 ^ (j + 1) * q : Nat) : Int) % 18446744073709551616 = ((2 ^ (j + 1) * (q % 2 ^ (63 - j)) : Nat) : Int) := by rw [← e1]; omega
  rw [e3, h]
  generalize 2 ^ (j + 1) * q = A at *
  generalize 2 ^ (j + 1) * (q % 2 ^ (63 - j)) = C at *
  generalize 2 ^ j = B at *
  constructor <;> omega
end Go.AM
end
section
set_option linter.unusedVariables false
set_option linter.unusedSimpArgs false
namespace Go.AM
open Go Go.Proofs
section
variable {P : Program} {ge : GEnv} {st : St} {d : Option Tmp} {t : TypeId} {p : String} {af : Array Edge} {g : Option (Nat × Bool)}
theorem S_ext3 {F x y z : Operand} {ts : Array TypeId} {f : Nat} {fn : Func} {e : Array Value → Sem Value} {k1 k2 k3 : IntKind} {n1 n2 n3 : Int} {v : V} {c : Value}
    (hF : ev ge st.tm F = .fn (.func f) [] []) (hx : ev ge st.tm x = .int k1 n1) (hy : ev ge st.tm y = .int k2 n2) (hz : ev ge st.tm z = .int k3 n3)
    (hf : P.funcs[f]? = some fn) (hname : (fn.name == "runtime.NumGoroutine") = false) (hb : fn.body.isNone = true) (hn : Extern.findNext fn = none) (he : Extern.find fn = some e)
    (hrun : ∀ w, (e #[.int k1 n1, .int k2 n2, .int k3 n3]).run P w = .ok c w) (hv : ∀ (G : Gh) w, R G w false v c) :
    OpS P ge st ⟨d, .call { callee := .value F, args := #[x, y, z], argTypes := ts }, t, p, af, g⟩ v st.h :=
  OpS_pure fun G a w hr => by
    have hvF := hr.ev F
    have hvx := hr.ev x
    have hvy := hr.ev y
    have hvz := hr.ev z
    rw [hF] at hvF; rw [hx] at hvx; rw [hy] at hvy; rw [hz] at hvz
    obtain ⟨A', C', hcF, hA, hC⟩ := inv_fn hvF
    have hcx := hvx.inv_int
    have hcy := hvy.inv_int
    have hcz := hvz.inv_int
    obtain rfl : A' = #[] := by have := hA.1; simpa using this
    obtain rfl : C' = #[] := by have := hC.1; simpa using this
    have hcall := run_callFunc_extern hf hname hb hn he #[.int k1 n1, .int k2 n2, .int k3 n3] w
    rw [hrun w] at hcall
    refine ⟨c, ?_, hv G w⟩
    have h2 : (execOp a.eval ⟨d, .call { callee := .value F, args := #[x, y, z], argTypes := ts }, t, p, af, g⟩).run P w = (callFunc f #[.int k1 n1, .int k2 n2, .int k3 n3]).run P w := by
      simp [execOp, resolve, Deferred.ofValue, hcF, hcx, hcy, hcz, Sem.run_bind, Sem.run_pure, Result.andThen_ok, invoke]
    rw [h2, hcall]
    rfl
theorem S_add64 {F x y z : Operand} {ts : Array TypeId} {f : Nat} {fn : Func} {a b c : Int}
    (hF : ev ge st.tm F = .fn (.func f) [] []) (hx : ev ge st.tm x = .int .u64 a) (hy : ev ge st.tm y = .int .u64 b) (hz : ev ge st.tm z = .int .u64 c)
    (hf : P.funcs[f]? = some fn) (hname : (fn.name == "runtime.NumGoroutine") = false) (hb : fn.body.isNone = true) (hn : Extern.findNext fn = none) (he : Extern.find fn = some add64Entry)
    (ha : 0 ≤ a) (hb' : 0 ≤ b) (hc : 0 ≤ c) (hc' : c ≤ 1) :
    OpS P ge st ⟨d, .call { callee := .value F, args := #[x, y, z], argTypes := ts }, t, p, af, g⟩ (.tup [.int .u64 ((a + b + c) % 18446744073709551616), .int .u64 ((a + b + c) / 18446744073709551616)]) st.h :=
  S_ext3 hF hx hy hz hf hname hb hn he (fun w => run_add64 a b c ha hb' hc hc' w) fun G w => .tup rfl fun i v hv => by
    match i, hv with
    | 0, hv => cases hv; exact .int
    | 1, hv => cases hv; exact .int
    | i + 2, hv => simp at hv
theorem S_sub64 {F x y z : Operand} {ts : Array TypeId} {f : Nat} {fn : Func} {a b c : Nat}
    (hF : ev ge st.tm F = .fn (.func f) [] []) (hx : ev ge st.tm x = .int .u64 a) (hy : ev ge st.tm y = .int .u64 b) (hz : ev ge st.tm z = .int .u64 c)
    (hf : P.funcs[f]? = some fn) (hname : (fn.name == "runtime.NumGoroutine") = false) (hb : fn.body.isNone = true) (hn : Extern.findNext fn = none) (he : Extern.find fn = some sub64Entry) (hc' : c ≤ 1) :
    OpS P ge st ⟨d, .call { callee := .value F, args := #[x, y, z], argTypes := ts }, t, p, af, g⟩ (.tup [.int .u64 (((a + 18446744073709551616 - b - c) % 18446744073709551616 : Nat) : Int), .int .u64 ((if a < b + c then 1 else 0 : Nat) : Int)]) st.h :=
  S_ext3 hF hx hy hz hf hname hb hn he (fun w => run_sub64 a b c hc' w) fun G w => .tup rfl fun i v hv => by
    match i, hv with
    | 0, hv => cases hv; exact .int
    | 1, hv => cases hv; exact .int
    | i + 2, hv => simp at hv
def bor (a b c : Int) : Int := if a < b + c then 1 else 0
theorem S_sub64I {F x y z : Operand} {ts : Array TypeId} {f : Nat} {fn : Func} {a b c : Int}
    (hF : ev ge st.tm F = .fn (.func f) [] []) (hx : ev ge st.tm x = .int .u64 a) (hy : ev ge st.tm y = .int .u64 b) (hz : ev ge st.tm z = .int .u64 c)
    (hf : P.funcs[f]? = some fn) (hname : (fn.name == "runtime.NumGoroutine") = false) (hb : fn.body.isNone = true) (hn : Extern.findNext fn = none) (he : Extern.find fn = some sub64Entry)
    (ha : 0 ≤ a ∧ a < 18446744073709551616) (hb' : 0 ≤ b ∧ b < 18446744073709551616) (hc : 0 ≤ c ∧ c ≤ 1) :
    OpS P ge st ⟨d, .call { callee := .value F, args := #[x, y, z], argTypes := ts }, t, p, af, g⟩ (.tup [.int .u64 ((a - b - c) % 18446744073709551616), .int .u64 (bor a b c)]) st.h := by
  obtain ⟨a', rfl⟩ := Int.eq_ofNat_of_zero_le ha.1
  obtain ⟨b', rfl⟩ := Int.eq_ofNat_of_zero_le hb'.1
  obtain ⟨c', rfl⟩ := Int.eq_ofNat_of_zero_le hc.1
  have h := S_sub64 (P := P) (ge := ge) (st := st) (d := d) (t := t) (p := p) (af := af) (g := g) (ts := ts) hF hx hy hz hf hname hb hn he (by omega)
  have e1 : (((a' + 18446744073709551616 - b' - c') % 18446744073709551616 : Nat) : Int) = ((a' : Int) - b' - c') % 18446744073709551616 := by omega
  have e2 : ((if a' < b' + c' then 1 else 0 : Nat) : Int) = bor a' b' c' := by unfold bor; split <;> split <;> omega
  rw [e1, e2] at h
  exact h
end
end Go.AM
end
