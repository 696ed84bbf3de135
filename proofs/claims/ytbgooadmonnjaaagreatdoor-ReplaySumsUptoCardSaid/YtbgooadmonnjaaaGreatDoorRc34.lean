/-
  YtbgooadmonnjaaaGreatDoorRc34: steps of the proof of a law of the program: what these texts prove holds under the hypotheses that their theorems name, and no others.
-/
import Derived.Test.YtbgooadmonnjaaaGreatDoorRc33
import Derived.Test.YtbgooadmonnjaaaGreatDoorRc26
import Derived.Test.YtbgooadmonnjaaaGreatDoorRc10
section
set_option linter.unusedSimpArgs false
set_option linter.unusedVariables false
namespace Go.Proofs.YtbgooadmonnjaaaGreatDoor
open Go Go.AM Fx
def n21 : NetD := ⟨[⟨#[120]⟩], [], [], [⟨⟨#[65]⟩, [⟨⟨#[97]⟩, 0, [⟨1, 0, 2, 5⟩]⟩, ⟨⟨#[98]⟩, 0, []⟩], [⟨0, 1, [⟨1, 0, 4, 3⟩], [], 0, false, [⟨1, 0, 0, []⟩]⟩]⟩]⟩
def r21 (d : Int) : RunD := ⟨[⟨⟨d, 1⟩, ⟨0, 0, 0, 0⟩⟩], ⟨0, 1⟩⟩
def g21 : List PartD := [⟨[⟨0, 1⟩], [], []⟩]
def n21V : List V := [.vec [[.str ⟨#[120]⟩]] 1, .nils, .nils, .vec [[.str ⟨#[65]⟩, .vec [[.str ⟨#[97]⟩, .int .u8 0, .vec [[.int .i64 1, .int .i64 0, .int .u8 2, .int .i64 5]] 1], [.str ⟨#[98]⟩, .int .u8 0, .nils]] 2, .vec [[.int .i64 0, .int .i64 1, .vec [[.int .i64 1, .int .i64 0, .int .u8 4, .int .i64 3]] 1, .nils, .int .i64 0, .bool false, .vec [[.int .i64 1, .int .i64 0, .int .i64 0, .nils]] 1]] 1]] 1]
def g21V : V := .vec [[.vec [[.int .i64 0, .int .i64 1]] 1, .nils, .nils]] 1
theorem n21_ok : n21.ok := by
  refine ⟨⟨by decide, fun a ha => ?_⟩, ⟨by decide, fun a ha => by cases ha⟩, ⟨by decide, fun a ha => by cases ha⟩, by decide, fun a ha => ?_⟩
  · rw [List.mem_singleton.1 ha]; decide
  · rw [List.mem_singleton.1 ha]
    refine ⟨by decide, ⟨by decide, fun x hx => ?_⟩, by decide, fun x hx => ?_⟩
    · rcases List.mem_cons.1 hx with rfl | hx
      · refine ⟨by decide, by decide, by decide, fun y hy => ?_⟩
        rw [List.mem_singleton.1 hy]
        exact ⟨by show I64 1; unfold I64; omega, by show I64 0; unfold I64; omega, by decide, by show I64 5; unfold I64; omega⟩
      · rw [List.mem_singleton.1 hx]
        exact ⟨by decide, by decide, by decide, fun y hy => by cases hy⟩
    · rw [List.mem_singleton.1 hx]
      refine ⟨by show I64 0; unfold I64; omega, by show I64 1; unfold I64; omega, ⟨by decide, fun y hy => ?_⟩, ⟨by decide, fun y hy => by cases hy⟩, by show I64 0; unfold I64; omega, trivial, by decide, fun y hy => ?_⟩
      · rw [List.mem_singleton.1 hy]
        exact ⟨by show I64 1; unfold I64; omega, by show I64 0; unfold I64; omega, by decide, by show I64 3; unfold I64; omega⟩
      · rw [List.mem_singleton.1 hy]
        exact ⟨by show I64 1; unfold I64; omega, by show I64 0; unfold I64; omega, by show I64 0; unfold I64; omega, by decide, fun z hz => by cases hz⟩
theorem r21_ok (d : Int) (hd : I64 d) : (r21 d).ok := by
  refine ⟨⟨by simp [r21], fun s hs => ?_⟩, by show I64 0; unfold I64; omega, by show I64 1; unfold I64; omega⟩
  rw [List.mem_singleton.1 hs]
  exact ⟨⟨hd, by show I64 1; unfold I64; omega⟩, by show I64 0; unfold I64; omega, by show I64 0; unfold I64; omega, by show I64 0; unfold I64; omega, by show I64 0; unfold I64; omega⟩
theorem g21_ok : okGoal g21 := by
  refine ⟨by decide, fun p hp => ?_⟩
  rw [List.mem_singleton.1 hp]
  refine ⟨⟨by decide, fun a ha => ?_⟩, ⟨by decide, fun a ha => by cases ha⟩, by decide, fun a ha => by cases ha⟩
  rw [List.mem_singleton.1 ha]
  exact ⟨by show I64 0; unfold I64; omega, by show I64 1; unfold I64; omega⟩
theorem chk3 : checkS n21 (r21 3) g21 = (0, 1) := by kernel_rfl
theorem chk2 : checkS n21 (r21 2) g21 = (211, 0) := by kernel_rfl
theorem chk6 : checkS n21 (r21 6) g21 = (212, 0) := by kernel_rfl
theorem c_net21 : PC 42 [] (.agg n21V) := by
  refine pB Tryz.func42 rfl (by decide) Tryz.ntmps42 (by simp) Tryz.results42 ?_
  repeat' (first
 |(refine AW_region_AOL (id := 1) ?_;simp)
 |refine aK fun K hK=>?_|refine Step.by1 ?_|refine sE (by decide) ?_|refine cz rfl ?_|refine Fork.by2 (fun h=>?_) fun h=>?_
 |(refine aR ?_;simp)
 |(refine Split.by2 (fun h=>?_) (fun h=>?_)<;>(simp [h]))
 |(apply hK;clear hK K)|refine AWh ‹_› ?_)
  exact retqc rfl (by simp) (cE (by simp [n21V]) (by simp))
theorem c_after21 (d : Int) : PC 43 [.int .i64 d] (.agg (r21 d).cells) := by
  refine pB Tryz.func43 rfl (by decide) Tryz.ntmps43 (by simp) Tryz.results43 ?_
  repeat' (first
 |(refine AW_region_AOL (id := 1) ?_;simp)
 |refine aK fun K hK=>?_|refine Step.by1 ?_|refine sE (by decide) ?_|refine cz rfl ?_|refine Fork.by2 (fun h=>?_) fun h=>?_
 |(refine aR ?_;simp)
 |(refine Split.by2 (fun h=>?_) (fun h=>?_)<;>(simp [h]))
 |(apply hK;clear hK K)|refine AWh ‹_› ?_)
  exact retqc rfl (by simp) (cE (by simp [RunD.cells, r21, vl, StepD.cells, RatD.cells, MoveD.cells]) (by simp))
set_option maxRecDepth 20000 in
set_option maxHeartbeats 4000000 in
theorem c_live21 : PC 17 [] (.bool true) := by
  have h0 := c_net21
  have h3 := c_after21 3
  have h2 := c_after21 2
  have h6 := c_after21 6
  have k3 := c_Check n21 n21_ok (r21 3) (r21_ok 3 (by unfold I64; omega)) g21 g21_ok
  have k2 := c_Check n21 n21_ok (r21 2) (r21_ok 2 (by unfold I64; omega)) g21 g21_ok
  have k6 := c_Check n21 n21_ok (r21 6) (r21_ok 6 (by unfold I64; omega)) g21 g21_ok
  rw [chk3] at k3
  rw [chk2] at k2
  rw [chk6] at k6
  have k3' := PCall.dn (args := [.agg n21V, .agg (r21 3).cells, g21V]) k3 rfl
  have k2' := PCall.dn (args := [.agg n21V, .agg (r21 2).cells, g21V]) k2 rfl
  have k6' := PCall.dn (args := [.agg n21V, .agg (r21 6).cells, g21V]) k6 rfl
  clear k3 k2 k6
  have hr : ∀ d, (r21 d).cells = [.vec [[.int .i64 d, .int .i64 1, .int .i64 0, .int .i64 0, .int .i64 0, .int .i64 0]] 1, .int .i64 0, .int .i64 1] := fun _ => rfl
  rw [hr] at h3 h2 h6 k3' k2' k6'
  simp only [n21V, g21V] at h0 k3' k2' k6'
  refine pB Tryz.func17 rfl (by decide) Tryz.ntmps17 (by simp) Tryz.results17 ?_
  repeat' (first
 |(refine AW_region_AOL (id := 1) ?_;simp)
 |refine aK fun K hK=>?_|refine Step.by1 ?_|refine sE (by decide) ?_|refine cz rfl ?_|refine Fork.by2 (fun h=>?_) fun h=>?_
 |((first|refine aR ?_|refine aC (f:=42) rfl rfl (h0) rfl rfl rfl ?_|refine aC (f:=43) rfl rfl (h3) rfl rfl rfl ?_|refine aC (f:=43) rfl rfl (h2) rfl rfl rfl ?_|refine aC (f:=43) rfl rfl (h6) rfl rfl rfl ?_|refine aC (f:=13) rfl rfl (k3') rfl rfl rfl ?_|refine aC (f:=13) rfl rfl (k2') rfl rfl rfl ?_|refine aC (f:=13) rfl rfl (k6') rfl rfl rfl ?_);simp)
 |(refine Split.by2 (fun h=>?_) (fun h=>?_)<;>(simp [h]))
 |(apply hK;clear hK K)|refine AWh ‹_› ?_)
  exact r1q (cE rfl rfl)
theorem c_back (c : CfgD) : PC 19 [.agg c.cells] (.agg c.cells) := by
  simp only [CfgD.cells, vl]
  refine pB Tryz.func19 rfl (by decide) Tryz.ntmps19 (by simp) Tryz.results19 ?_
  repeat' (first
 |refine aK fun K hK=>?_|refine Step.by1 ?_|refine sE (by decide) ?_|refine cz rfl ?_|refine Fork.by2 (fun h=>?_) fun h=>?_
 |(refine aR ?_;simp)
 |(refine Split.by2 (fun h=>?_) (fun h=>?_)<;>(simp [h]))
 |(apply hK;clear hK K)|refine AWh ‹_› ?_)
  exact retqc rfl (by simp) (cE (by simp) (by simp [vl]))
def goodC (n : NetD) (c : CfgD) : Prop := netE n = 0 ∧ confB n c = true ∧ keptB n c = true
theorem do_good {n : NetD} {c : CfgD} {m : MoveD} (h : (doS n c m).1 = 0) : goodC n (doS n c m).2 := by
  have w := do_iff.1 h
  rw [do_val w]
  exact ⟨w.net, do_conf w, w.kept⟩
theorem first_good {n : NetD} (h : (firstS n).1 = 0) : goodC n (firstS n).2 := by
  unfold firstS at h ⊢
  split
  · rename_i q; rw [if_pos q] at h; exact absurd h q
  · rename_i q
    rw [if_neg q] at h
    have h0 : netE n = 0 := by simpa using q
    split
    · rename_i q2; exact ⟨h0, first_conf (netE_whole h0), q2⟩
    · rename_i q2; rw [if_neg q2] at h; cases h
/-- To wait for no time changes nothing. -/
theorem wait_zero {n : NetD} {c : CfgD} (hc : c.ok) (h : goodC n c) : waitS n c ⟨0, 1⟩ = (0, c) := by
  obtain ⟨h0, h1, h2⟩ := h
  obtain ⟨c1, c2, c3⟩ := conf_iff.1 h1
  obtain ⟨p1, p2⟩ := ptRight_iff.1 c3
  have hz : ∀ r ∈ c.clocks, addQ r ⟨0, 1⟩ = (r, 0) := fun r hr => addQ_zero (hc.2.2 r hr) (p2 r hr).1
  have ha : (addF ⟨0, 1⟩ c.clocks []).1 = 0 := addF_iff.2 fun r hr => by rw [hz r hr]
  have hm : (c.clocks.map fun r => (addQ r ⟨0, 1⟩).1) = c.clocks := by
    have : (c.clocks.map fun r => (addQ r ⟨0, 1⟩).1) = c.clocks.map id := List.map_congr_left fun r hr => by rw [hz r hr]; rfl
    rw [this, List.map_id]
  have hc' : (⟨c.st, c.clocks.map fun r => (addQ r ⟨0, 1⟩).1⟩ : CfgD) = c := by rw [hm]
  have w : WaitOk n c ⟨0, 1⟩ := ⟨h0, h1, by simp [lapsB, delayB, rightQ], ha, by rw [hc']; exact h2⟩
  rw [wait_val w, hc']
/-- Along a run: each configuration but the last is told by the steps ahead of it. -/
structure RunOk (n : NetD) (last : RatD) (l : List StepD) (c : CfgD) (T : List CfgD) : Prop where
  len : T.length = 2 * l.length + 1
  step : ∀ k s, l[k]? = some s → ∃ c0 c1 c2, (c :: T)[2 * k]? = some c0 ∧ T[2 * k]? = some c1 ∧ T[2 * k + 1]? = some c2 ∧ waitS n c0 s.delay = (0, c1) ∧ doS n c1 s.move = (0, c2)
  last : ∃ c0 c1, (c :: T)[2 * l.length]? = some c0 ∧ T[2 * l.length]? = some c1 ∧ waitS n c0 last = (0, c1)
theorem all_run {n : NetD} {last : RatD} : ∀ {l : List StepD} {i : Nat} {c : CfgD} {a : List CfgD}, (allF n last l i c a).1 = 0 → ∃ T, (allF n last l i c a).2.2 = a ++ T ∧ RunOk n last l c T
  | [], i, c, a, h => by
    unfold allF at h ⊢
    split
    · rename_i q; rw [if_pos q] at h; exact absurd h q
    · rename_i q
      have q0 : (waitS n c last).1 = 0 := by simpa using q
      refine ⟨[(waitS n c last).2], rfl, ⟨rfl, fun k s hk => by simp at hk, c, (waitS n c last).2, rfl, rfl, ?_⟩⟩
      rw [← q0]
  | s :: r, i, c, a, h => by
    unfold allF at h ⊢
    split
    · rename_i q; rw [if_pos q] at h; exact absurd h q
    · rename_i q
      rw [if_neg q] at h
      have q0 : (waitS n c s.delay).1 = 0 := by simpa using q
      split
      · rename_i q2; rw [if_pos q2] at h; exact absurd h q2
      · rename_i q2
        rw [if_neg q2] at h
        have q20 : (doS n (waitS n c s.delay).2 s.move).1 = 0 := by simpa using q2
        obtain ⟨T, hT, hR⟩ := all_run h
        rw [hT]
        refine ⟨(waitS n c s.delay).2 :: (doS n (waitS n c s.delay).2 s.move).2 :: T, by simp, ⟨by simp [hR.len]; omega, fun k x hk => ?_, ?_⟩⟩
        · cases k with
          | zero =>
            simp at hk; subst hk
            exact ⟨c, _, _, rfl, rfl, rfl, by rw [← q0], by rw [← q20]⟩
          | succ k =>
            obtain ⟨c0, c1, c2, e0, e1, e2, e3, e4⟩ := hR.step k x (by simpa using hk)
            refine ⟨c0, c1, c2, ?_, ?_, ?_, e3, e4⟩
            · rw [show 2 * (k + 1) = (2 * k + 1) + 1 by omega, List.getElem?_cons_succ, List.getElem?_cons_succ]; exact e0
            · rw [show 2 * (k + 1) = (2 * k + 1) + 1 by omega, List.getElem?_cons_succ, List.getElem?_cons_succ]; exact e1
            · rw [show 2 * (k + 1) + 1 = (2 * k + 1 + 1) + 1 by omega, List.getElem?_cons_succ, List.getElem?_cons_succ]; exact e2
        · obtain ⟨c0, c1, e0, e1, e2⟩ := hR.last
          refine ⟨c0, c1, ?_, ?_, e2⟩
          · rw [List.length_cons, show 2 * (r.length + 1) = (2 * r.length + 1) + 1 by omega, List.getElem?_cons_succ, List.getElem?_cons_succ]; exact e0
          · rw [List.length_cons, show 2 * (r.length + 1) = (2 * r.length + 1) + 1 by omega, List.getElem?_cons_succ, List.getElem?_cons_succ]; exact e1
theorem allS_run {n : NetD} {r : RunD} (h : (allS n r).1 = 0) : (firstS n).1 = 0 ∧ ∃ T, (allS n r).2.2 = (firstS n).2 :: T ∧ RunOk n r.last r.steps (firstS n).2 T := by
  unfold allS at h ⊢
  split
  · rename_i q; rw [if_pos q] at h; exact absurd h q
  · rename_i q
    rw [if_neg q] at h
    obtain ⟨T, hT, hR⟩ := all_run h
    exact ⟨by simpa using q, T, by rw [hT]; rfl, hR⟩
/-- A run that is cut behind a step. -/
theorem all_take {n : NetD} {last : RatD} : ∀ {l : List StepD} {c : CfgD} {T : List CfgD} {k i : Nat} {a : List CfgD}, c.ok → (∀ s ∈ l, s.ok) → goodC n c → RunOk n last l c T → k ≤ l.length → ∃ z, (c :: T)[2 * k]? = some z ∧ allF n ⟨0, 1⟩ (l.take k) i c a = (0, 0, a ++ T.take (2 * k) ++ [z])
  | l, c, T, 0, i, a, hok, hs, hg, h, hk => by
    refine ⟨c, rfl, ?_⟩
    rw [List.take_zero]
    unfold allF
    rw [wait_zero hok hg, if_neg (by simp)]
    simp
  | [], c, T, k + 1, i, a, hok, hs, hg, h, hk => by simp at hk
  | s :: r, c, T, k + 1, i, a, hok, hs, hg, h, hk => by
    obtain ⟨c0, c1, c2, e0, e1, e2, e3, e4⟩ := h.step 0 s rfl
    simp at e0; subst e0
    have hlen := h.len
    obtain ⟨T', rfl⟩ : ∃ T', T = c1 :: c2 :: T' := by
      match T, e1, e2 with
      | a1 :: a2 :: T', e1, e2 =>
        simp at e1 e2; subst e1; subst e2; exact ⟨T', rfl⟩
    have hs0 := hs s (List.mem_cons_self ..)
    have ok1 : c1.ok := by have := wait_ok (n := n) hok hs0.1; rw [e3] at this; exact this
    have ok2 : c2.ok := by have := do_ok (n := n) ok1 (m := s.move); rw [e4] at this; exact this
    have g2 : goodC n c2 := by have := do_good (n := n) (c := c1) (m := s.move) (by rw [e4]); rw [e4] at this; exact this
    have hR : RunOk n last r c2 T' := ⟨by simp at hlen; omega, fun j x hj => by
      obtain ⟨d0, d1, d2, f0, f1, f2, f3, f4⟩ := h.step (j + 1) x (by simpa using hj)
      rw [show 2 * (j + 1) = (2 * j + 1) + 1 by omega, List.getElem?_cons_succ, List.getElem?_cons_succ] at f0 f1
      rw [show 2 * (j + 1) + 1 = (2 * j + 1 + 1) + 1 by omega, List.getElem?_cons_succ, List.getElem?_cons_succ] at f2
      exact ⟨d0, d1, d2, f0, f1, f2, f3, f4⟩, by
      obtain ⟨d0, d1, f0, f1, f2⟩ := h.last
      rw [List.length_cons, show 2 * (r.length + 1) = (2 * r.length + 1) + 1 by omega, List.getElem?_cons_succ, List.getElem?_cons_succ] at f0 f1
      exact ⟨d0, d1, f0, f1, f2⟩⟩
    obtain ⟨z, hz, hA⟩ := all_take (k := k) (i := i + 1) (a := a ++ [c1, c2]) ok2 (fun y hy => hs y (List.mem_cons_of_mem _ hy)) g2 hR (by simpa using hk)
    refine ⟨z, ?_, ?_⟩
    · rw [show 2 * (k + 1) = (2 * k + 1) + 1 by omega, List.getElem?_cons_succ, List.getElem?_cons_succ]; exact hz
    · rw [List.take_succ_cons]
      unfold allF
      rw [e3, if_neg (by simp)]
      simp only
      rw [e4, if_neg (by simp)]
      rw [hA, show 2 * (k + 1) = 2 * k + 1 + 1 by omega, List.take_succ_cons, List.take_succ_cons]
      simp
/-- A run that is cut is a run, as far as it goes. -/
theorem cut_law {n : NetD} (hn : n.ok) {r : RunD} (hr : r.ok) (h : (allS n r).1 = 0) {k : Nat} (hk : k ≤ r.steps.length) : ∃ z, (allS n r).2.2[2 * k]? = some z ∧ allS n ⟨r.steps.take k, ⟨0, 1⟩⟩ = (0, 0, (allS n r).2.2.take (2 * k + 1) ++ [z]) := by
  obtain ⟨h0, T, hT, hR⟩ := allS_run h
  obtain ⟨z, hz, hA⟩ := all_take (k := k) (i := 0) (a := [(firstS n).2]) (firstS_ok hn) hr.1.2 (first_good h0) hR hk
  refine ⟨z, by rw [hT]; exact hz, ?_⟩
  unfold allS
  rw [if_neg (by simpa using h0)]
  simp only
  rw [hA]
  have hT2 : (if (firstS n).1 ≠ 0 then ((firstS n).1, 0, []) else allF n r.last r.steps 0 (firstS n).2 [(firstS n).2]).2.2 = (firstS n).2 :: T := hT
  rw [hT2, List.take_succ_cons]
  simp
end Go.Proofs.YtbgooadmonnjaaaGreatDoor
end
section
set_option linter.unusedVariables false
namespace Go.AM
section
variable {P : Program} {ge : GEnv}
/-- A contract for what is seen of some of the arguments. -/
theorem PCall.trimAt {f : Nat} {args args' : List V} {r : V} (hc : PCall P ge f args' r) (hl : args'.length = args.length) (h : ∀ (i : Nat) (u u' : V), args[i]? = some u → args'[i]? = some u' → u' = u ∨ u.trim = u') : PCall P ge f args r := by
  refine ⟨hc.1, fun G w cargs ha hg => hc.2 G w cargs ⟨by rw [ha.1, hl], fun i v hv => ?_⟩ hg⟩
  have hi : i < args.length := by rw [← hl]; exact (List.getElem?_eq_some_iff.1 hv).1
  have hu := List.getElem?_eq_getElem hi
  have hR := ha.2 i _ hu
  rcases h i _ v hu hv with e | e
  · rw [e]; exact hR
  · rw [← e]; exact hR.trim
end
end Go.AM
end
section
set_option linter.unusedSimpArgs false
set_option linter.unusedVariables false
namespace Go.Proofs.YtbgooadmonnjaaaGreatDoor
open Go Go.AM Fx
theorem trims_step (l : List StepD) (k : Nat) : V.trimR k (l.map StepD.cells) = (l.take k).map StepD.cells := by
  rw [trimR_eq, ← List.map_take, List.map_map]
  refine List.map_congr_left fun s _ => ?_
  simp [StepD.cells, RatD.cells, MoveD.cells, V.trims, V.trim]
theorem c_AllCut (n : NetD) (hn : n.ok) (l : List StepD) (hl : l.length ≤ 1048576 ∧ ∀ s ∈ l, s.ok) (k : Nat) (hk : k ≤ l.length) (M : List CfgD) (hA : allS n ⟨l.take k, ⟨0, 1⟩⟩ = (0, 0, M)) : PC 15 [.agg n.cells, .agg [.vec (l.map StepD.cells) k, .int .i64 0, .int .i64 1]] (.tup [vl CfgD.cells M, .int .i64 0, .int .i64 0]) := by
  have h := c_All n hn ⟨l.take k, ⟨0, 1⟩⟩ ⟨⟨by simp; omega, fun s hs => hl.2 s (List.mem_of_mem_take hs)⟩, by show I64 0; unfold I64; omega, by show I64 1; unfold I64; omega⟩
  rw [hA] at h
  refine h.trimAt rfl fun i u u' hu hu' => ?_
  match i with
  | 0 => simp at hu hu'; exact .inl (by rw [← hu, ← hu'])
  | 1 =>
    simp at hu hu'
    refine .inr ?_
    rw [← hu, ← hu']
    simp [RunD.cells, vl, V.trim, V.trims, RatD.cells, trims_step, Nat.min_eq_left hk]
  | i + 2 => simp at hu
set_option maxRecDepth 40000 in
set_option maxHeartbeats 16000000 in
theorem c_ReplayCuts (n : NetD) (hn : n.ok) (r : RunD) (hr : r.ok) (at' : Int) (hat : I64 at') : PC 6 [.agg n.cells, .agg r.cells, .int .i64 at'] (.bool true) := by
  have hlive := c_live21
  have h1 := c_All n hn r hr
  have hcells : n.cells = [.vec (n.clocks.map fun x => [.str x]) n.clocks.length, .vec (n.vars.map VarD.cells) n.vars.length, .vec (n.chans.map fun x => [.str x]) n.chans.length, .vec (n.autos.map AutoD.cells) n.autos.length] := rfl
  have rcells : r.cells = [.vec (r.steps.map StepD.cells) r.steps.length, .int .i64 r.last.num, .int .i64 r.last.den] := rfl
  have ccl : ∀ c : CfgD, c.cells = [.vec (ivs c.st.locs) c.st.locs.length, .vec (ivs c.st.vars) c.st.vars.length, .vec (c.clocks.map RatD.cells) c.clocks.length] := fun _ => rfl
  have hsl := hr.1.1
  by_cases hA0 : (allS n r).1 = 0
  rotate_left
  · rw [allS_err hA0] at h1
    generalize (allS n r).1 = e at *
    generalize (allS n r).2.1 = e2 at *
    simp only [hcells, rcells, vl, List.map_nil, List.length_nil] at h1 ⊢
    refine pB Tryz.func6 rfl (by decide) Tryz.ntmps6 (by simp) Tryz.results6 ?_
    repeat' (first
 |refine aK fun K hK=>?_|refine Step.by1 ?_|refine sE (by decide) ?_|refine cz rfl ?_|refine Fork.by2 (fun h=>?_) fun h=>?_
 |((first|refine aR ?_|refine aC (f:=15) rfl rfl (h1) rfl rfl rfl ?_|refine aC (f:=17) rfl rfl (hlive) rfl rfl rfl ?_);simp [hA0])
 |(refine Split.by2 (fun h=>?_) (fun h=>?_)<;>(simp [h, hA0]))
 |(apply hK;clear hK K)|refine AWh ‹_› ?_)
    exact r1q (cE (by simp) rfl)
  obtain ⟨hi0, hln⟩ := allS_len hA0
  have hok := allS_ok hn hr
  obtain ⟨f0, T, hT, hR⟩ := allS_run hA0
  -- the place where it is cut
  obtain ⟨k, hk⟩ : ∃ k : Nat, (IntKind.u64.wrap at').tmod (IntKind.u64.wrap (IntKind.i64.wrap (r.steps.length + 1))) = k := by
    have w0 : IntKind.i64.wrap ((r.steps.length : Int) + 1) = r.steps.length + 1 := wI (by omega) (by omega)
    rw [w0, wrap_u64, wrap_u64]
    refine ⟨((at' % 18446744073709551616).tmod (((r.steps.length : Int) + 1) % 18446744073709551616)).toNat, ?_⟩
    have a : 0 ≤ at' % 18446744073709551616 := Int.emod_nonneg _ (by decide)
    rw [Int.tmod_eq_emod_of_nonneg a]
    have : ((r.steps.length : Int) + 1) % 18446744073709551616 = r.steps.length + 1 := by omega
    rw [this]
    have := Int.emod_nonneg (at' % 18446744073709551616) (show ((r.steps.length : Int) + 1) ≠ 0 by omega)
    omega
  have hkl : k ≤ r.steps.length := by
    have w0 : IntKind.i64.wrap ((r.steps.length : Int) + 1) = r.steps.length + 1 := wI (by omega) (by omega)
    rw [w0, wrap_u64, wrap_u64] at hk
    have a : 0 ≤ at' % 18446744073709551616 := Int.emod_nonneg _ (by decide)
    rw [Int.tmod_eq_emod_of_nonneg a, show ((r.steps.length : Int) + 1) % 18446744073709551616 = r.steps.length + 1 by omega] at hk
    have := Int.emod_lt_of_pos (at' % 18446744073709551616) (show (0 : Int) < (r.steps.length : Int) + 1 by omega)
    omega
  obtain ⟨z, hz, hcut⟩ := cut_law hn hr hA0 hkl
  have hAll2 := c_AllCut n hn r.steps hr.1 k hkl _ hcut
  rw [hA0, hi0] at h1
  generalize hAe : (allS n r).2.2 = A at *
  generalize hMe : A.take (2 * k + 1) ++ [z] = M at *
  have hMl : M.length = 2 * k + 2 := by rw [← hMe]; simp; omega
  have hMi : ∀ i, i ≤ 2 * k → ∀ (h1 : i < A.length) (h2 : i < M.length), M[i] = A[i] := fun i hi h1 h2 => by
    subst hMe
    rw [List.getElem_append_left (by simp; omega), List.getElem_take]
  have hMz : ∀ (h : 2 * k + 1 < M.length), M[2 * k + 1] = z := fun h => by
    subst hMe
    rw [List.getElem_append_right (by simp; omega)]
    simp
  have hzA : ∀ (h : 2 * k < A.length), A[2 * k] = z := fun h => by
    rw [List.getElem?_eq_getElem h] at hz; exact Option.some.inj hz
  have hsam := fun c hc => r_SameT c hc
  have hbk := c_back
  -- lengths, told apart
  obtain ⟨k2, hk2⟩ : ∃ k2, 2 * k = k2 := ⟨_, rfl⟩
  obtain ⟨p, hp⟩ : ∃ p, k2 + 1 = p := ⟨_, rfl⟩
  obtain ⟨q, hq⟩ : ∃ q, k2 + 2 = q := ⟨_, rfl⟩
  obtain ⟨ql, hql⟩ : ∃ ql, 2 * r.steps.length + 2 = ql := ⟨_, rfl⟩
  obtain ⟨q2, hq2⟩ : ∃ q2, 2 * r.steps.length = q2 := ⟨_, rfl⟩
  have w1 : IntKind.i64.wrap (k : Int) = k := wI (by omega) (by omega)
  have w2 : IntKind.i64.wrap (2 * (k : Int)) = k2 := by rw [wI (by omega) (by omega)]; omega
  have w3 : IntKind.i64.wrap ((k2 : Int) + 2) = q := by rw [wI (by omega) (by omega)]; omega
  have w4 : IntKind.i64.wrap (2 * (r.steps.length : Int)) = q2 := by rw [wI (by omega) (by omega)]; omega
  have w5 : IntKind.i64.wrap ((q2 : Int) + 2) = ql := by rw [wI (by omega) (by omega)]; omega
  have w6 : IntKind.i64.wrap ((k2 : Int) + 1) = p := by rw [wI (by omega) (by omega)]; omega
  have hMq : M.length = q := by omega
  have hAq : A.length = ql := by omega
  have z0 : ¬ (IntKind.u64.wrap (IntKind.i64.wrap ((r.steps.length : Int) + 1))) = 0 := by
    have w0 : IntKind.i64.wrap ((r.steps.length : Int) + 1) = r.steps.length + 1 := wI (by omega) (by omega)
    rw [w0, wrap_u64]; omega
  simp only [hcells, rcells, vl, hMq, hAq] at h1 hAll2 ⊢
  refine pB Tryz.func6 rfl (by decide) Tryz.ntmps6 (by simp) Tryz.results6 ?_
  repeat' (first
 |refine aK fun K hK=>?_|refine Step.by1 ?_|refine sE (by decide) ?_|refine cz rfl ?_|refine Fork.by2 (fun h=>?_) fun h=>?_
 |((first|refine aR ?_|refine aC (f:=15) rfl rfl (h1) rfl rfl rfl ?_|refine aC (f:=15) rfl rfl (hAll2) rfl rfl rfl ?_);simp [hk, z0, w1, w2, w3, w4, w5, hkl, hMq, hAq])
 |(refine Split.by2 (fun h=>?_) (fun h=>?_)<;>(simp [h, hk, z0, w1, w2, w3, w4, w5, hkl, hMq, hAq]))
 |(apply hK;clear hK K)|refine AWh ‹_› ?_)
  refine aL [3, 4, 7, 10, 12] (fun i : Nat => [(15, .int .i64 i)]) (fun _ => [.var [.vec (n.clocks.map fun x => [.str x]) n.clocks.length, .vec (n.vars.map VarD.cells) n.vars.length, .vec (n.chans.map fun x => [.str x]) n.chans.length, .vec (n.autos.map AutoD.cells) n.autos.length], .var [.vec (r.steps.map StepD.cells) r.steps.length, .int .i64 r.last.num, .int .i64 r.last.den], .dead]) (fun i => i ≤ k2 + 1) (fun i => k2 + 1 - i) 0 (Nat.zero_le _) (by apply Weak.mk' <;> simp) (fun _ _ => rfl) ?_
  intro i hi
  by_cases hik : i ≤ k2
  · have hik' : (i : Int) ≤ k2 := by omega
    have hiA : i < A.length := by omega
    have hiA' : (i : Int) < ql := by omega
    have hiA0 : i < ql := by omega
    have hiM : i < M.length := by omega
    have hiM' : (i : Int) < q := by omega
    have hiM0 : i < q := by omega
    obtain ⟨c, hc⟩ : ∃ c, A[i] = c := ⟨_, rfl⟩
    have hcM : M[i] = c := by rw [hMi i (by omega) hiA hiM, hc]
    have hco := hok c (hc ▸ List.getElem_mem hiA)
    have hb := hbk c
    have hs := hsam c hco
    have w7 : IntKind.i64.wrap ((i : Int) + 1) = i + 1 := wI (by omega) (by omega)
    simp only [ccl] at hb hs
    repeat' (first
 |refine aK fun K hK=>?_|refine Step.by1 ?_|refine sE (by decide) ?_|refine cz rfl ?_|refine Fork.by2 (fun h=>?_) fun h=>?_
 |((first|refine aR ?_|refine aX (id:=12) 12 mixed (by decide) ?_|refine aP1 (f:=19) rfl rfl (hb) rfl rfl rfl ?_|refine aP1 (f:=18) rfl rfl (hs) rfl rfl rfl ?_);simp [w2, hik', hiA, hiA', hiA0, hiM, hiM', hiM0, hc, hcM, ccl, hMq, hAq, w7])
 |(refine Split.by2 (fun h=>?_) (fun h=>?_)<;>(simp [h, w2, hik', hiA, hiA', hiA0, hiM, hiM', hiM0, hc, hcM, ccl, hMq, hAq, w7]))
 |(apply hK;clear hK K)|refine AWh ‹_› ?_)
    refine ⟨i + 1, by omega, by omega, ?_⟩
    apply Weak.mk' <;> simp
  · obtain rfl : i = k2 + 1 := by omega
    have hno : ¬ ((k2 : Int) + 1 ≤ k2) := by omega
    by_cases hke : k = r.steps.length
    · have hkf : ((k : Int) = r.steps.length) = True := by simp; omega
      repeat' (first
 |refine aK fun K hK=>?_|refine Step.by1 ?_|refine sE (by decide) ?_|refine cz rfl ?_|refine Fork.by2 (fun h=>?_) fun h=>?_
 |((first|refine aR ?_|refine aC (f:=17) rfl rfl (hlive) rfl rfl rfl ?_);simp [w2, hno, hkf])
 |(refine Split.by2 (fun h=>?_) (fun h=>?_)<;>(simp [h, w2, hno, hkf]))
 |(apply hK;clear hK K)|refine AWh ‹_› ?_)
      exact r1q (cE (by simp) rfl)
    · have hke' : ¬ (k : Int) = r.steps.length := by omega
      have hkf : ((k : Int) = r.steps.length) = False := by simp; omega
      have hkt : k < r.steps.length := by omega
      have hkt' : (k : Int) < r.steps.length := by omega
      obtain ⟨c0, c1, c2, e0, e1, e2, e3, e4⟩ := hR.step k r.steps[k] (List.getElem?_eq_getElem hkt)
      rw [← hT] at e0
      have hz0 : c0 = z := by rw [hz] at e0; exact (Option.some.inj e0).symm
      subst hz0
      have e2' : A[2 * k + 2]? = some c2 := by rw [hT, show 2 * k + 2 = (2 * k + 1) + 1 by omega, List.getElem?_cons_succ]; exact e2
      have hqA : q < A.length := by omega
      have hqA' : (q : Int) < ql := by omega
      have hqA0 : q < ql := by omega
      have hAc2 : A[q] = c2 := by
        have : A[q]? = some c2 := by rw [← e2']; congr 1; omega
        rw [List.getElem?_eq_getElem hqA] at this; exact Option.some.inj this
      have hpM : p < M.length := by omega
      have hpM' : (p : Int) < q := by omega
      have hpM0 : p < q := by omega
      have hMp : M[p] = c0 := by
        have : M[2 * k + 1]? = some c0 := by rw [List.getElem?_eq_getElem (by omega), hMz (by omega)]
        have : M[p]? = some c0 := by rw [← this]; congr 1; omega
        rw [List.getElem?_eq_getElem hpM] at this; exact Option.some.inj this
      obtain ⟨⟨sd, sm⟩, hst⟩ : ∃ s, r.steps[k] = s := ⟨_, rfl⟩
      rw [hst] at e3 e4
      have hso := hr.1.2 ⟨sd, sm⟩ (by rw [← hst]; exact List.getElem_mem hkt)
      have hc0 := hok c0 (List.mem_of_getElem? hz)
      have hW := c_Wait n hn c0 hc0 sd hso.1
      have hc1 : c1.ok := by have := wait_ok (n := n) hc0 hso.1; rw [e3] at this; exact this
      have hD := c_Do n hn c1 hc1 sm
      rw [e3] at hW
      rw [e4] at hD
      have hc2 := hok c2 (List.mem_of_getElem? e2')
      have hb := hbk c2
      have hs := hsam c2 hc2
      clear hR hT hMi hMz hzA hcut hAe hMe e0 e1 e2 e2' hok hsam hbk
      simp only [hcells, ccl, RatD.cells, MoveD.cells] at hW hD hb hs
      repeat' (first
 |refine aK fun K hK=>?_|refine Step.by1 ?_|refine sE (by decide) ?_|refine cz rfl ?_|refine Fork.by2 (fun h=>?_) fun h=>?_
 |(refine aR ?_;simp [w1, w2, w3, w6, hno, hkf, hkt, hkt', hpM, hpM', hpM0, hMp, hqA, hqA', hqA0, hAc2, hst, ccl, hMq, hAq, StepD.cells, RatD.cells, MoveD.cells])
 |(refine Split.by2 (fun h=>?_) (fun h=>?_)<;>(simp [h, w1, w2, w3, w6, hno, hkf, hkt, hkt', hpM, hpM', hpM0, hMp, hqA, hqA', hqA0, hAc2, hst, ccl, hMq, hAq, StepD.cells, RatD.cells, MoveD.cells]))
 |(apply hK;clear hK K)|refine AWh ‹_› ?_)
      refine AW_region_chain 20 21 [0, 1, 2, 3, 4, 5, 6, 7, 8, 9, 10, 11, 12, 13, 14, 15, 16] (fun H => H[0]? = some (.var [.vec (n.clocks.map fun x => [.str x]) n.clocks.length, .vec (n.vars.map VarD.cells) n.vars.length, .vec (n.chans.map fun x => [.str x]) n.chans.length, .vec (n.autos.map AutoD.cells) n.autos.length]) ∧ H[1]? = some (.var [.vec (r.steps.map StepD.cells) r.steps.length, .int .i64 r.last.num, .int .i64 r.last.den])) mixed (by decide) (by decide) rfl ⟨rfl, rfl⟩ ?_
      simp only [List.take_succ_cons, List.take_zero]
      refine PX_op (v := .agg [.vec (n.clocks.map fun x => [.str x]) n.clocks.length, .vec (n.vars.map VarD.cells) n.vars.length, .vec (n.chans.map fun x => [.str x]) n.chans.length, .vec (n.autos.map AutoD.cells) n.autos.length]) rfl rfl rfl rfl (fun H hs => by simp [hs.1]) ?_
      refine PX_op rfl rfl rfl rfl (fun H hs => ⟨trivial, rfl⟩) ?_
      refine PX_op rfl rfl rfl rfl (fun H hs => ⟨trivial, rfl⟩) ?_
      refine PX_op (v := .int .i64 k2) rfl rfl rfl rfl (fun H hs => by simp [w2]) ?_
      refine PX_op (v := .int .i64 p) rfl rfl rfl rfl (fun H hs => by simp [w6]) ?_
      refine PX_op (v := .fp [.vec (ivs c0.st.locs) c0.st.locs.length, .vec (ivs c0.st.vars) c0.st.vars.length, .vec (c0.clocks.map RatD.cells) c0.clocks.length] 0) rfl rfl rfl rfl (fun H hs => by simp [w1, w2, w3, w6, hno, hkf, hkt, hkt', hpM, hpM', hpM0, hMp, hqA, hqA', hqA0, hAc2, hst, ccl, hMq, hAq, StepD.cells, RatD.cells, MoveD.cells]) ?_
      refine PX_op (v := .agg [.vec (ivs c0.st.locs) c0.st.locs.length, .vec (ivs c0.st.vars) c0.st.vars.length, .vec (c0.clocks.map RatD.cells) c0.clocks.length]) rfl rfl rfl rfl (fun H hs => by simp [w1, w2, w3, w6, hno, hkf, hkt, hkt', hpM, hpM', hpM0, hMp, hqA, hqA', hqA0, hAc2, hst, ccl, hMq, hAq, StepD.cells, RatD.cells, MoveD.cells]) ?_
      refine PX_op (v := .ptr 1 0) rfl rfl rfl rfl (fun H hs => by simp [hs.2]) ?_
      refine PX_op (v := .vec (r.steps.map StepD.cells) r.steps.length) rfl rfl rfl rfl (fun H hs => by simp [hs.2]) ?_
      refine PX_op rfl rfl rfl rfl (fun H hs => ⟨trivial, rfl⟩) ?_
      refine PX_op (v := .fp (StepD.cells ⟨sd, sm⟩) 0) rfl rfl rfl rfl (fun H hs => by simp [w1, w2, w3, w6, hno, hkf, hkt, hkt', hpM, hpM', hpM0, hMp, hqA, hqA', hqA0, hAc2, hst, ccl, hMq, hAq, StepD.cells, RatD.cells, MoveD.cells]) ?_
      refine PX_op (v := .fp (StepD.cells ⟨sd, sm⟩) 0) rfl rfl rfl rfl (fun H hs => by simp [w1, w2, w3, w6, hno, hkf, hkt, hkt', hpM, hpM', hpM0, hMp, hqA, hqA', hqA0, hAc2, hst, ccl, hMq, hAq, StepD.cells, RatD.cells, MoveD.cells]) ?_
      refine PX_op (v := .agg [.int .i64 sd.num, .int .i64 sd.den]) rfl rfl rfl rfl (fun H hs => by simp [w1, w2, w3, w6, hno, hkf, hkt, hkt', hpM, hpM', hpM0, hMp, hqA, hqA', hqA0, hAc2, hst, ccl, hMq, hAq, StepD.cells, RatD.cells, MoveD.cells]) ?_
      refine PX_call (v := .tup [.agg [.vec (ivs c1.st.locs) c1.st.locs.length, .vec (ivs c1.st.vars) c1.st.vars.length, .vec (c1.clocks.map RatD.cells) c1.clocks.length], .int .i64 0]) rfl rfl rfl (by simp [w1, w2, w3, w6, hno, hkf, hkt, hkt', hpM, hpM', hpM0, hMp, hqA, hqA', hqA0, hAc2, hst, ccl, hMq, hAq, StepD.cells, RatD.cells, MoveD.cells]) hW rfl rfl ?_
      refine PX_op rfl rfl rfl rfl (fun H hs => ⟨trivial, rfl⟩) ?_
      refine PX_op (v := .agg [.vec (ivs c1.st.locs) c1.st.locs.length, .vec (ivs c1.st.vars) c1.st.vars.length, .vec (c1.clocks.map RatD.cells) c1.clocks.length]) rfl rfl rfl rfl (fun H hs => by simp []) ?_
      refine PX_op (v := .int .i64 0) rfl rfl rfl rfl (fun H hs => by simp []) ?_
      refine PX_skip rfl ?_
      refine PX_skip rfl ?_
      refine PX_skip rfl ?_
      refine PX_nil ?_
      simp [w1, w2, w3, w6, hno, hkf, hkt, hkt', hpM, hpM', hpM0, hMp, hqA, hqA', hqA0, hAc2, hst, ccl, hMq, hAq, StepD.cells, RatD.cells, MoveD.cells]
      refine Ch_1 17 (by decide) (by decide) ?_
      refine ChS_op rfl rfl rfl rfl (by simp) rfl (by simp) ?_; simp
      refine Ch_1 18 (by decide) (by decide) ?_
      refine ChS_op rfl rfl rfl rfl (by simp) rfl (by simp) ?_; simp
      refine Ch_1 19 (by decide) (by decide) ?_
      refine cS1 rfl rfl rfl rfl (by simp) (by simp) ?_; simp
      refine Ch_end (by decide) ?_
      refine AS_of_AO ?_; simp
      repeat' (first
 |refine aK fun K hK=>?_|refine Step.by1 ?_|refine sE (by decide) ?_|refine cz rfl ?_|refine Fork.by2 (fun h=>?_) fun h=>?_
 |(refine aR ?_;simp [w1, w2, w3, w6, hno, hkf, hkt, hkt', hpM, hpM', hpM0, hMp, hqA, hqA', hqA0, hAc2, hst, ccl, hMq, hAq, StepD.cells, RatD.cells, MoveD.cells])
 |(refine Split.by2 (fun h=>?_) (fun h=>?_)<;>(simp [h, w1, w2, w3, w6, hno, hkf, hkt, hkt', hpM, hpM', hpM0, hMp, hqA, hqA', hqA0, hAc2, hst, ccl, hMq, hAq, StepD.cells, RatD.cells, MoveD.cells]))
 |(apply hK;clear hK K)|refine AWh ‹_› ?_)
      refine AW_region_chain 15 16 [0, 1, 2, 3, 4, 5, 6, 7, 8, 9, 10, 11] (fun H => H[0]? = some (.var [.vec (n.clocks.map fun x => [.str x]) n.clocks.length, .vec (n.vars.map VarD.cells) n.vars.length, .vec (n.chans.map fun x => [.str x]) n.chans.length, .vec (n.autos.map AutoD.cells) n.autos.length]) ∧ H[1]? = some (.var [.vec (r.steps.map StepD.cells) r.steps.length, .int .i64 r.last.num, .int .i64 r.last.den]) ∧ H[3]? = some (.var [.vec (ivs c1.st.locs) c1.st.locs.length, .vec (ivs c1.st.vars) c1.st.vars.length, .vec (c1.clocks.map RatD.cells) c1.clocks.length])) mixed (by decide) (by decide) rfl ⟨rfl, rfl, rfl⟩ ?_
      simp only [List.take_succ_cons, List.take_zero]
      refine PX_op (v := .agg [.vec (n.clocks.map fun x => [.str x]) n.clocks.length, .vec (n.vars.map VarD.cells) n.vars.length, .vec (n.chans.map fun x => [.str x]) n.chans.length, .vec (n.autos.map AutoD.cells) n.autos.length]) rfl rfl rfl rfl (fun H hs => by simp [hs.1]) ?_
      refine PX_op (v := .agg [.vec (ivs c1.st.locs) c1.st.locs.length, .vec (ivs c1.st.vars) c1.st.vars.length, .vec (c1.clocks.map RatD.cells) c1.clocks.length]) rfl rfl rfl rfl (fun H hs => by simp [hs.2.2]) ?_
      refine PX_op (v := .ptr 1 0) rfl rfl rfl rfl (fun H hs => by simp [hs.2.1]) ?_
      refine PX_op (v := .vec (r.steps.map StepD.cells) r.steps.length) rfl rfl rfl rfl (fun H hs => by simp [hs.2.1]) ?_
      refine PX_op rfl rfl rfl rfl (fun H hs => ⟨trivial, rfl⟩) ?_
      refine PX_op (v := .fp (StepD.cells ⟨sd, sm⟩) 0) rfl rfl rfl rfl (fun H hs => by simp [w1, w2, w3, w6, hno, hkf, hkt, hkt', hpM, hpM', hpM0, hMp, hqA, hqA', hqA0, hAc2, hst, ccl, hMq, hAq, StepD.cells, RatD.cells, MoveD.cells]) ?_
      refine PX_op (v := .fp (StepD.cells ⟨sd, sm⟩) 2) rfl rfl rfl rfl (fun H hs => by simp [w1, w2, w3, w6, hno, hkf, hkt, hkt', hpM, hpM', hpM0, hMp, hqA, hqA', hqA0, hAc2, hst, ccl, hMq, hAq, StepD.cells, RatD.cells, MoveD.cells]) ?_
      refine PX_op (v := .agg sm.cells) rfl rfl rfl rfl (fun H hs => by simp [w1, w2, w3, w6, hno, hkf, hkt, hkt', hpM, hpM', hpM0, hMp, hqA, hqA', hqA0, hAc2, hst, ccl, hMq, hAq, StepD.cells, RatD.cells, MoveD.cells]) ?_
      refine PX_call (v := .tup [.agg [.vec (ivs c2.st.locs) c2.st.locs.length, .vec (ivs c2.st.vars) c2.st.vars.length, .vec (c2.clocks.map RatD.cells) c2.clocks.length], .int .i64 0]) rfl rfl rfl (by simp [w1, w2, w3, w6, hno, hkf, hkt, hkt', hpM, hpM', hpM0, hMp, hqA, hqA', hqA0, hAc2, hst, ccl, hMq, hAq, StepD.cells, RatD.cells, MoveD.cells]) hD rfl rfl ?_
      refine PX_op rfl rfl rfl rfl (fun H hs => ⟨trivial, rfl⟩) ?_
      refine PX_op (v := .agg [.vec (ivs c2.st.locs) c2.st.locs.length, .vec (ivs c2.st.vars) c2.st.vars.length, .vec (c2.clocks.map RatD.cells) c2.clocks.length]) rfl rfl rfl rfl (fun H hs => by simp []) ?_
      refine PX_op (v := .int .i64 0) rfl rfl rfl rfl (fun H hs => by simp []) ?_
      refine PX_skip rfl ?_
      refine PX_skip rfl ?_
      refine PX_skip rfl ?_
      refine PX_nil ?_
      simp [w1, w2, w3, w6, hno, hkf, hkt, hkt', hpM, hpM', hpM0, hMp, hqA, hqA', hqA0, hAc2, hst, ccl, hMq, hAq, StepD.cells, RatD.cells, MoveD.cells]
      refine Ch_1 12 (by decide) (by decide) ?_
      refine ChS_op rfl rfl rfl rfl (by simp) rfl (by simp) ?_; simp
      refine Ch_1 13 (by decide) (by decide) ?_
      refine ChS_op rfl rfl rfl rfl (by simp) rfl (by simp) ?_; simp
      refine Ch_1 14 (by decide) (by decide) ?_
      refine cS1 rfl rfl rfl rfl (by simp) (by simp) ?_; simp
      refine Ch_end (by decide) ?_
      refine AS_of_AO ?_; simp
      repeat' (first
 |refine aK fun K hK=>?_|refine Step.by1 ?_|refine sE (by decide) ?_|refine cz rfl ?_|refine Fork.by2 (fun h=>?_) fun h=>?_
 |((first|refine aR ?_|refine aX (id:=18) 22 mixed (by decide) ?_|refine aP1 (f:=17) rfl rfl (hlive) rfl rfl rfl ?_|refine aP1 (f:=19) rfl rfl (hb) rfl rfl rfl ?_|refine aP1 (f:=18) rfl rfl (hs) rfl rfl rfl ?_);simp [w1, w2, w3, w6, hno, hkf, hkt, hkt', hpM, hpM', hpM0, hMp, hqA, hqA', hqA0, hAc2, hst, ccl, hMq, hAq, StepD.cells, RatD.cells, MoveD.cells])
 |(refine Split.by2 (fun h=>?_) (fun h=>?_)<;>(simp [h, w1, w2, w3, w6, hno, hkf, hkt, hkt', hpM, hpM', hpM0, hMp, hqA, hqA', hqA0, hAc2, hst, ccl, hMq, hAq, StepD.cells, RatD.cells, MoveD.cells]))
 |(apply hK;clear hK K)|refine AWh ‹_› ?_)
      exact r1q (cE (by simp) rfl)
end Go.Proofs.YtbgooadmonnjaaaGreatDoor
end
