/-
  YtgmlimipejcpgaaGreatDoorCo22: steps of the proof of a law of the program: what these texts prove holds under the hypotheses that their theorems name, and no others.
-/
import Derived.Test.YtgmlimipejcpgaaGreatDoorCo21
section
set_option linter.unusedSimpArgs false
set_option linter.unusedVariables false
namespace Go.Proofs.YtgmlimipejcpgaaGreatDoor
open Go Go.AM Fx
theorem r_IsTruthB (l : List NodeD) : PC 203 [vl NodeD.cells l] (.bool (isTruthB l)) := by
  have := r_IsTruth l
  cases l <;> exact this
set_option maxHeartbeats 4000000 in
theorem r_testless (n : NetD) (l : List NodeD) (hl : l.length ≤ 1048576) : PC 154 [.agg n.cells, vl NodeD.cells l] (.bool (truthBad n l)) := by
  have hR := r_Right l n.vars.length hl
  have hT := r_IsTruthB l
  obtain ⟨r, hr⟩ : ∃ r, truthBad n l = r := ⟨_, rfl⟩
  rw [hr]
  unfold truthBad at hr
  simp only [vl] at hR hT
  generalize rightE l n.vars.length = q at *
  generalize isTruthB l = tb at *
  refine pB Tryz.func154 rfl (by decide) Tryz.ntmps154 (by simp) Tryz.results154 ?_
  repeat' (first
 |refine aK fun K hK=>?_|refine Step.by1 ?_|refine sE (by decide) ?_|refine cz rfl ?_|refine Fork.by2 (fun h=>?_) fun h=>?_
 |((first|refine aR ?_|refine aC (f:=202) rfl rfl (hR) rfl rfl rfl ?_|refine aC (f:=203) rfl rfl (hT) rfl rfl rfl ?_);simp [vl, NetD.cells])
 |(refine Split.by2 (fun h=>?_) (fun h=>?_)<;>(simp [h, vl, NetD.cells]))
 |(apply hK;clear hK K)|refine AWh ‹_› ?_)
  all_goals (try clear hR hT)
  all_goals first
    | exact r1q (cE (by rw [← hr]; simp [*]; done) rfl)
    | exact r1q (cE (by rw [← hr]; simp [*]; omega) rfl)
theorem clkS_eq (n : NetD) (s : SetD) : clkS n s = decide (s.clock < 0 ∨ (n.clocks.length : Int) < s.clock) := by
  rw [Bool.eq_iff_iff]
  simp only [clkS, isClk, Bool.and_eq_true, Bool.not_eq_true', decide_eq_true_eq, decide_eq_false_iff_not]
  omega
set_option maxRecDepth 20000 in
set_option maxHeartbeats 16000000 in
theorem r_edge (n : NetD) (a : AutoD) (e : EdgeD) (way : Int) (he : e.ok) : PC 198 [.agg n.cells, .agg a.cells, .agg e.cells, .int .i64 way] (.bool (edgeW n a way e)) := by
  obtain ⟨_, _, _, ⟨ht1, ht2⟩, _, _, hs1, hs2⟩ := he
  obtain ⟨r, hr⟩ : ∃ r, edgeW n a way e = r := ⟨_, rfl⟩
  rw [hr]
  unfold edgeW at hr
  by_cases h123 : way = 123
  · subst h123
    rw [if_pos rfl] at hr
    have hE : edgeB n a e = decide (e.frm < 0 ∨ (a.locs.length : Int) ≤ e.frm ∨ e.to < 0 ∨ (a.locs.length : Int) ≤ e.to ∨ e.chan < 0 ∨ (n.chans.length : Int) < e.chan ∨ (e.chan = 0 ∧ e.send = true)) := by
      rw [Bool.eq_iff_iff]
      simp only [edgeB, isLoc, Bool.or_eq_true, Bool.and_eq_true, Bool.not_eq_true', decide_eq_true_eq, decide_eq_false_iff_not]
      constructor
      · rintro (h | h | h | h)
        · omega
        · omega
        · omega
        · exact .inr (.inr (.inr (.inr (.inr (.inr ⟨h.2, h.1⟩)))))
      · rintro (h | h | h | h | h | h | h)
        · left; omega
        · left; omega
        · right; left; omega
        · right; left; omega
        · right; right; left; omega
        · right; right; left; omega
        · right; right; right; exact ⟨h.2, h.1⟩
    rw [hE] at hr
    refine pB Tryz.func198 rfl (by decide) Tryz.ntmps198 (by simp) Tryz.results198 ?_
    have hnn : ¬ (n.chans.length : Int) < 0 := by omega
    repeat' (first
 |refine aK fun K hK=>?_|refine Step.by1 ?_|refine sE (by decide) ?_|refine cz rfl ?_|refine Fork.by2 (fun h=>?_) fun h=>?_
 |(refine aR ?_;simp [vl, NetD.cells, AutoD.cells, EdgeD.cells])
 |(refine Split.by2 (fun h=>?_) (fun h=>?_)<;>(simp [h, vl, NetD.cells, AutoD.cells, EdgeD.cells]))
 |(apply hK;clear hK K)|refine AWh ‹_› ?_)
    all_goals first
      | exact r1q (cE (by rw [← hr]; simp [hnn, *]; done) rfl)
      | exact r1q (cE (by rw [← hr]; simp [*]; done) rfl)
      | exact r1q (cE (by rw [← hr]; simp [*]; omega) rfl)
  · rw [if_neg h123] at hr
    have hc := r_testless n e.test ht1
    simp only [NetD.cells, vl] at hc
    generalize truthBad n e.test = tb at *
    refine pB Tryz.func198 rfl (by decide) Tryz.ntmps198 (by simp) Tryz.results198 ?_
    by_cases htb : way = 121 ∧ tb = true
    · obtain ⟨rfl, rfl⟩ := htb
      repeat' (first
 |refine aK fun K hK=>?_|refine Step.by1 ?_|refine sE (by decide) ?_|refine cz rfl ?_|refine Fork.by2 (fun h=>?_) fun h=>?_
 |((first|refine aR ?_|refine aC (f:=154) rfl rfl (hc) rfl rfl rfl ?_);simp [vl, NetD.cells, AutoD.cells, EdgeD.cells])
 |(refine Split.by2 (fun h=>?_) (fun h=>?_)<;>(simp [h, vl, NetD.cells, AutoD.cells, EdgeD.cells]))
 |(apply hK;clear hK K)|refine AWh ‹_› ?_)
      exact r1q (cE (by rw [← hr]; rfl) rfl)
    · have hr' : anyL (setW n way) e.sets = r := by
        rw [← hr]
        by_cases h1 : way = 121
        · have : tb = false := by cases tb; rfl; exact absurd ⟨h1, rfl⟩ htb
          simp [this]
        · simp [h1]
      clear hr
      by_cases h121 : way = 121
      · subst h121
        have htf : tb = false := by cases tb; rfl; exact absurd ⟨rfl, rfl⟩ htb
        rw [htf] at hc
        repeat' (first
 |refine aK fun K hK=>?_|refine Step.by1 ?_|refine sE (by decide) ?_|refine cz rfl ?_|refine Fork.by2 (fun h=>?_) fun h=>?_
 |((first|refine aR ?_|refine aC (f:=154) rfl rfl (hc) rfl rfl rfl ?_);simp [vl, NetD.cells, AutoD.cells, EdgeD.cells])
 |(refine Split.by2 (fun h=>?_) (fun h=>?_)<;>(simp [h, vl, NetD.cells, AutoD.cells, EdgeD.cells]))
 |(apply hK;clear hK K)|refine AWh ‹_› ?_)
        refine aS1 (r := r) e.sets 9 [3, 4, 6] (anyL (setW n 121)) hr' (by apply Weak.mk' <;> simp [vl, NetD.cells, EdgeD.cells]) ?_ ?_
        · intro i x _ hlt hx hF
          rw [anC] at hF
          have hxo := hs2 x (hx ▸ List.getElem_mem hlt)
          have hR := r_Right x.expr n.vars.length hxo.2.2.2.1
          have hT := r_IsTruthB x.expr
          have hw : setW n 121 x = (decide (x.clock = 0) && (decide (x.var < 0 ∨ (n.vars.length : Int) ≤ x.var) || (decide (rightE x.expr n.vars.length ≠ 0) || isTruthB x.expr))) := by simp [setW, testS]
          have hlt' : (i : Int) < e.sets.length := by omega
          have w1 : IntKind.i64.wrap ((i : Int) + 1) = i + 1 := wI (by omega) (by omega)
          simp only [vl] at hR hT
          generalize rightE x.expr n.vars.length = q at *
          generalize isTruthB x.expr = tb2 at *
          repeat' (first
 |refine aK fun K hK=>?_|refine Step.by1 ?_|refine sE (by decide) ?_|refine cz rfl ?_|refine Fork.by2 (fun h=>?_) fun h=>?_
 |((first|refine aR ?_|refine aC (f:=202) rfl rfl (hR) rfl rfl rfl ?_|refine aC (f:=203) rfl rfl (hT) rfl rfl rfl ?_);simp [vl, SetD.cells, NetD.cells, EdgeD.cells, hlt, hlt', hx, w1])
 |(refine Split.by2 (fun h=>?_) (fun h=>?_)<;>(simp [h, vl, SetD.cells, NetD.cells, EdgeD.cells, hlt, hlt', hx, w1]))
 |(apply hK;clear hK K)|refine AWh ‹_› ?_)
          all_goals (try clear hR hT hc)
          all_goals first
            | exact r1q (cE (by rw [← hF, hw]; simp [*]; done) rfl)
            | exact r1q (cE (by rw [← hF, hw]; simp [*]; omega) rfl)
            | (refine ⟨by rw [← hF, hw]; simp [*]; done, ?_⟩; apply Weak.mk' <;> simp [vl, NetD.cells, EdgeD.cells])
            | (refine ⟨by rw [← hF, hw]; simp [*]; omega, ?_⟩; apply Weak.mk' <;> simp [vl, NetD.cells, EdgeD.cells])
        · intro hF
          repeat' (first
 |refine aK fun K hK=>?_|refine Step.by1 ?_|refine sE (by decide) ?_|refine cz rfl ?_|refine Fork.by2 (fun h=>?_) fun h=>?_
 |(refine aR ?_;simp [vl, NetD.cells, EdgeD.cells])
 |(refine Split.by2 (fun h=>?_) (fun h=>?_)<;>(simp [h, vl, NetD.cells, EdgeD.cells]))
 |(apply hK;clear hK K)|refine AWh ‹_› ?_)
          exact r1q (cE (by rw [← hF]; rfl) rfl)
      · repeat' (first
 |refine aK fun K hK=>?_|refine Step.by1 ?_|refine sE (by decide) ?_|refine cz rfl ?_|refine Fork.by2 (fun h=>?_) fun h=>?_
 |(refine aR ?_;simp [vl, NetD.cells, AutoD.cells, EdgeD.cells, h121, h123])
 |(refine Split.by2 (fun h=>?_) (fun h=>?_)<;>(simp [h, vl, NetD.cells, AutoD.cells, EdgeD.cells, h121, h123]))
 |(apply hK;clear hK K)|refine AWh ‹_› ?_)
        refine aS1 (r := r) e.sets 9 [3, 4, 6] (anyL (setW n way)) hr' (by apply Weak.mk' <;> simp [vl, NetD.cells, EdgeD.cells]) ?_ ?_
        · intro i x _ hlt hx hF
          rw [anC] at hF
          have hlt' : (i : Int) < e.sets.length := by omega
          have w1 : IntKind.i64.wrap ((i : Int) + 1) = i + 1 := wI (by omega) (by omega)
          by_cases h12 : way = 12
          · subst h12
            have hw : setW n 12 x = decide (x.clock < 0 ∨ (n.clocks.length : Int) < x.clock) := by simp [setW, clkS_eq]
            repeat' (first
 |refine aK fun K hK=>?_|refine Step.by1 ?_|refine sE (by decide) ?_|refine cz rfl ?_|refine Fork.by2 (fun h=>?_) fun h=>?_
 |(refine aR ?_;simp [vl, SetD.cells, NetD.cells, EdgeD.cells, hlt, hlt', hx, w1])
 |(refine Split.by2 (fun h=>?_) (fun h=>?_)<;>(simp [h, vl, SetD.cells, NetD.cells, EdgeD.cells, hlt, hlt', hx, w1]))
 |(apply hK;clear hK K)|refine AWh ‹_› ?_)
            all_goals first
              | exact r1q (cE (by rw [← hF, hw]; simp [*]; done) rfl)
              | exact r1q (cE (by rw [← hF, hw]; simp [*]; omega) rfl)
              | (refine ⟨by rw [← hF, hw]; simp [*]; done, ?_⟩; apply Weak.mk' <;> simp [vl, NetD.cells, EdgeD.cells])
              | (refine ⟨by rw [← hF, hw]; simp [*]; omega, ?_⟩; apply Weak.mk' <;> simp [vl, NetD.cells, EdgeD.cells])
          · by_cases h7 : way = 7
            · subst h7
              have hw : setW n 7 x = decide (x.clock = 0 ∧ x.n ≠ 0 ∨ x.clock ≠ 0 ∧ (x.var ≠ 0 ∨ 0 < x.expr.length)) := by simp [setW, formS]
              repeat' (first
 |refine aK fun K hK=>?_|refine Step.by1 ?_|refine sE (by decide) ?_|refine cz rfl ?_|refine Fork.by2 (fun h=>?_) fun h=>?_
 |(refine aR ?_;simp [vl, SetD.cells, NetD.cells, EdgeD.cells, hlt, hlt', hx, w1])
 |(refine Split.by2 (fun h=>?_) (fun h=>?_)<;>(simp [h, vl, SetD.cells, NetD.cells, EdgeD.cells, hlt, hlt', hx, w1]))
 |(apply hK;clear hK K)|refine AWh ‹_› ?_)
              all_goals first
                | exact r1q (cE (by rw [← hF, hw]; simp [*]; done) rfl)
                | exact r1q (cE (by rw [← hF, hw]; simp [*]; omega) rfl)
                | (refine ⟨by rw [← hF, hw]; simp [*]; done, ?_⟩; apply Weak.mk' <;> simp [vl, NetD.cells, EdgeD.cells])
                | (refine ⟨by rw [← hF, hw]; simp [*]; omega, ?_⟩; apply Weak.mk' <;> simp [vl, NetD.cells, EdgeD.cells])
            · have hw : setW n way x = false := by simp [setW, h12, h7, h121]
              rw [hw, Bool.false_or] at hF
              repeat' (first
 |refine aK fun K hK=>?_|refine Step.by1 ?_|refine sE (by decide) ?_|refine cz rfl ?_|refine Fork.by2 (fun h=>?_) fun h=>?_
 |(refine aR ?_;simp [vl, SetD.cells, NetD.cells, EdgeD.cells, hlt, hlt', hx, w1, h12, h7, h121])
 |(refine Split.by2 (fun h=>?_) (fun h=>?_)<;>(simp [h, vl, SetD.cells, NetD.cells, EdgeD.cells, hlt, hlt', hx, w1, h12, h7, h121]))
 |(apply hK;clear hK K)|refine AWh ‹_› ?_)
              refine ⟨hF, ?_⟩; apply Weak.mk' <;> simp [vl, NetD.cells, EdgeD.cells]
        · intro hF
          repeat' (first
 |refine aK fun K hK=>?_|refine Step.by1 ?_|refine sE (by decide) ?_|refine cz rfl ?_|refine Fork.by2 (fun h=>?_) fun h=>?_
 |(refine aR ?_;simp [vl, NetD.cells, EdgeD.cells])
 |(refine Split.by2 (fun h=>?_) (fun h=>?_)<;>(simp [h, vl, NetD.cells, EdgeD.cells]))
 |(apply hK;clear hK K)|refine AWh ‹_› ?_)
          exact r1q (cE (by rw [← hF]; rfl) rfl)
set_option maxRecDepth 20000 in
set_option maxHeartbeats 16000000 in
theorem r_wrong (n : NetD) (way : Int) (hn : n.ok) : PC 140 [.agg n.cells, .int .i64 way] (.bool (wrongB n way)) := by
  obtain ⟨_, _, _, h4, h5⟩ := hn
  refine pB Tryz.func140 rfl (by decide) Tryz.ntmps140 (by simp) Tryz.results140 ?_
  repeat' (first
 |refine aK fun K hK=>?_|refine Step.by1 ?_|refine sE (by decide) ?_|refine cz rfl ?_|refine Fork.by2 (fun h=>?_) fun h=>?_
 |(refine aR ?_;simp [vl, NetD.cells])
 |(refine Split.by2 (fun h=>?_) (fun h=>?_)<;>(simp [h, vl, NetD.cells]))
 |(apply hK;clear hK K)|refine AWh ‹_› ?_)
  refine aS1 (r := wrongB n way) n.autos 5 [1, 2] (anyL (wrongA n way)) rfl (by apply Weak.mk' <;> simp [vl, NetD.cells]) ?_ ?_
  · intro i a _ hlt ha hF
    have hoa := h5 a (ha ▸ List.getElem_mem hlt)
    obtain ⟨_, ⟨hl1, hl2⟩, he1, he2⟩ := hoa
    rw [anC] at hF
    have hw : wrongA n way a = (anyL (locW n way) a.locs || anyL (edW n a way) a.edges) := rfl
    rw [hw] at hF
    have hlt' : (i : Int) < n.autos.length := by omega
    have w0 : IntKind.i64.wrap ((i : Int) + 1) = i + 1 := wI (by omega) (by omega)
    repeat' (first
 |refine aK fun K hK=>?_|refine Step.by1 ?_|refine sE (by decide) ?_|refine cz rfl ?_|refine Fork.by2 (fun h=>?_) fun h=>?_
 |(refine aR ?_;simp [vl, NetD.cells, AutoD.cells, hlt, hlt', ha])
 |(refine Split.by2 (fun h=>?_) (fun h=>?_)<;>(simp [h, vl, NetD.cells, AutoD.cells, hlt, hlt', ha]))
 |(apply hK;clear hK K)|refine AWh ‹_› ?_)
    refine aS1 (r := anyL (locW n way) a.locs) a.locs 7 [1, 2, 5, 6] (anyL (locW n way)) rfl (by apply Weak.mk' <;> simp [vl, NetD.cells, AutoD.cells]) ?_ ?_
    · intro k x _ hkt hx hG
      rw [anC] at hG
      have hox := hl2 x (hx ▸ List.getElem_mem hkt)
      have hc := r_guards n x.inv way (by have := hox.2.2.1; omega)
      have hlw : locW n way x = (decide (way = 122) && decide (2 < x.kind) || anyL (wayG n way) x.inv) := rfl
      have hkt' : (k : Int) < a.locs.length := by omega
      have w1 : IntKind.i64.wrap ((k : Int) + 1) = k + 1 := wI (by omega) (by omega)
      simp only [NetD.cells, vl] at hc
      generalize anyL (wayG n way) x.inv = kb at *
      by_cases h122 : way = 122
      · subst h122
        repeat' (first
 |refine aK fun K hK=>?_|refine Step.by1 ?_|refine sE (by decide) ?_|refine cz rfl ?_|refine Fork.by2 (fun h=>?_) fun h=>?_
 |((first|refine aR ?_|refine aX (id:=8) 22 mixed (by decide) ?_|refine aP1 (f:=153) rfl rfl (hc) rfl rfl rfl ?_|refine aC (f:=153) rfl rfl (hc) rfl rfl rfl ?_);simp [vl, NetD.cells, AutoD.cells, LocD.cells, hkt, hkt', hx, w1])
 |(refine Split.by2 (fun h=>?_) (fun h=>?_)<;>(simp [h, vl, NetD.cells, AutoD.cells, LocD.cells, hkt, hkt', hx, w1]))
 |(apply hK;clear hK K)|refine AWh ‹_› ?_)
        all_goals (try clear hc)
        all_goals first
          | exact r1q (cE (by rw [← hF, ← hG, hlw]; simp [*]; done) rfl)
          | (refine ⟨by rw [← hG, hlw]; simp [*]; done, ?_⟩; apply Weak.mk' <;> simp [vl, NetD.cells, AutoD.cells])
      · repeat' (first
 |refine aK fun K hK=>?_|refine Step.by1 ?_|refine sE (by decide) ?_|refine cz rfl ?_|refine Fork.by2 (fun h=>?_) fun h=>?_
 |((first|refine aR ?_|refine aX (id:=8) 22 mixed (by decide) ?_|refine aP1 (f:=153) rfl rfl (hc) rfl rfl rfl ?_|refine aC (f:=153) rfl rfl (hc) rfl rfl rfl ?_);simp [vl, NetD.cells, AutoD.cells, LocD.cells, hkt, hkt', hx, w1, h122])
 |(refine Split.by2 (fun h=>?_) (fun h=>?_)<;>(simp [h, vl, NetD.cells, AutoD.cells, LocD.cells, hkt, hkt', hx, w1, h122]))
 |(apply hK;clear hK K)|refine AWh ‹_› ?_)
        all_goals (try clear hc)
        all_goals first
          | exact r1q (cE (by rw [← hF, ← hG, hlw]; simp [*]; done) rfl)
          | (refine ⟨by rw [← hG, hlw]; simp [*]; done, ?_⟩; apply Weak.mk' <;> simp [vl, NetD.cells, AutoD.cells])
    · intro hG
      rw [← hG, anyL_nil, Bool.false_or] at hF
      repeat' (first
 |refine aK fun K hK=>?_|refine Step.by1 ?_|refine sE (by decide) ?_|refine cz rfl ?_|refine Fork.by2 (fun h=>?_) fun h=>?_
 |(refine aR ?_;simp [vl, NetD.cells, AutoD.cells])
 |(refine Split.by2 (fun h=>?_) (fun h=>?_)<;>(simp [h, vl, NetD.cells, AutoD.cells]))
 |(apply hK;clear hK K)|refine AWh ‹_› ?_)
      refine aS1 (r := anyL (edW n a way) a.edges) a.edges 8 [1, 2, 5, 6] (anyL (edW n a way)) rfl (by apply Weak.mk' <;> simp [vl, NetD.cells, AutoD.cells]) ?_ ?_
      · intro m y _ hmt hy hM
        rw [anC] at hM
        have hoy := he2 y (hy ▸ List.getElem_mem hmt)
        have hc := r_guards n y.guards way (by have := hoy.2.2.1.1; omega)
        have hc2 := r_edge n a y way hoy
        have hew : edW n a way y = (anyL (wayG n way) y.guards || edgeW n a way y) := rfl
        have hmt' : (m : Int) < a.edges.length := by omega
        have w1 : IntKind.i64.wrap ((m : Int) + 1) = m + 1 := wI (by omega) (by omega)
        simp only [NetD.cells, AutoD.cells, EdgeD.cells, vl] at hc hc2
        generalize anyL (wayG n way) y.guards = kb at *
        generalize edgeW n a way y = kc at *
        repeat' (first
 |refine aK fun K hK=>?_|refine Step.by1 ?_|refine sE (by decide) ?_|refine cz rfl ?_|refine Fork.by2 (fun h=>?_) fun h=>?_
 |((first|refine aR ?_|refine aX (id:=13) 20 mixed (by decide) ?_|refine aP1 (f:=153) rfl rfl (hc) rfl rfl rfl ?_|refine aP1 (f:=198) rfl rfl (hc2) rfl rfl rfl ?_|refine aC (f:=153) rfl rfl (hc) rfl rfl rfl ?_);simp [vl, NetD.cells, AutoD.cells, EdgeD.cells, hmt, hmt', hy, w1])
 |(refine Split.by2 (fun h=>?_) (fun h=>?_)<;>(simp [h, vl, NetD.cells, AutoD.cells, EdgeD.cells, hmt, hmt', hy, w1]))
 |(apply hK;clear hK K)|refine AWh ‹_› ?_)
        all_goals (try clear hc hc2)
        all_goals first
          | exact r1q (cE (by rw [← hF, ← hM, hew]; simp [*]; done) rfl)
          | (refine ⟨by rw [← hM, hew]; simp [*]; done, ?_⟩; apply Weak.mk' <;> simp [vl, NetD.cells, AutoD.cells])
      · intro hM
        rw [← hM, anyL_nil, Bool.false_or] at hF
        repeat' (first
 |refine aK fun K hK=>?_|refine Step.by1 ?_|refine sE (by decide) ?_|refine cz rfl ?_|refine Fork.by2 (fun h=>?_) fun h=>?_
 |(refine aR ?_;simp [vl, NetD.cells, w0])
 |(refine Split.by2 (fun h=>?_) (fun h=>?_)<;>(simp [h, vl, NetD.cells, w0]))
 |(apply hK;clear hK K)|refine AWh ‹_› ?_)
        refine ⟨hF, ?_⟩; apply Weak.mk' <;> simp [vl, NetD.cells]
  · intro hF
    repeat' (first
 |refine aK fun K hK=>?_|refine Step.by1 ?_|refine sE (by decide) ?_|refine cz rfl ?_|refine Fork.by2 (fun h=>?_) fun h=>?_
 |(refine aR ?_;simp [vl, NetD.cells])
 |(refine Split.by2 (fun h=>?_) (fun h=>?_)<;>(simp [h, vl, NetD.cells]))
 |(apply hK;clear hK K)|refine AWh ‹_› ?_)
    exact r1q (cE (by rw [← hF]; rfl) rfl)
set_option maxRecDepth 20000 in
set_option maxHeartbeats 16000000 in
theorem r_Whole (n : NetD) (hn : n.ok) : PC 67 [.agg n.cells] (.int .i64 (wholeE n)) := by
  have hL := r_long n hn
  have hM := r_wrongNames n hn
  have hW := fun way => r_wrong n way hn
  obtain ⟨r, hr⟩ : ∃ r, wholeE n = r := ⟨_, rfl⟩
  rw [hr]
  rw [wholeE_ref, fC] at hr
  have e0 : someE n = if n.autos.length = 0 ∨ anyL noLocs n.autos = true then 2 else 0 := rfl
  have e1 : sizesE n = if sizeNet n = true then 6 else 0 := rfl
  have e2 : namesE n = if namesB n = true then 112 else 0 := rfl
  have e3 : varE n.vars = if anyL varV n.vars = true then 124 else 0 := rfl
  have l1 := hn.2.2.2.1
  have l2 := hn.2.1.1
  obtain ⟨_, _, _, h4, h5⟩ := hn
  rw [e0, e1, e2, e3] at hr
  clear e0 e1 e2 e3
  generalize sizeNet n = b1 at *
  generalize namesB n = b2 at *
  have hW122 := hW 122
  have hW123 := hW 123
  have hW12 := hW 12
  have hW7 := hW 7
  have hW121 := hW 121
  clear hW
  generalize wrongB n 122 = v1 at *
  generalize wrongB n 123 = v2 at *
  generalize wrongB n 12 = v3 at *
  generalize wrongB n 7 = v4 at *
  generalize wrongB n 121 = v5 at *
  simp only [vl, NetD.cells] at hL hM hW122 hW123 hW12 hW7 hW121
  refine pB Tryz.func67 rfl (by decide) Tryz.ntmps67 (by simp) Tryz.results67 ?_
  by_cases h0 : n.autos.length = 0
  · rw [if_pos (by simp [h0]), if_pos (.inl h0)] at hr
    repeat' (first
 |refine aK fun K hK=>?_|refine Step.by1 ?_|refine sE (by decide) ?_|refine cz rfl ?_|refine Fork.by2 (fun h=>?_) fun h=>?_
 |(refine aR ?_;simp [vl, NetD.cells, h0])
 |(refine Split.by2 (fun h=>?_) (fun h=>?_)<;>(simp [h, vl, NetD.cells, h0]))
 |(apply hK;clear hK K)|refine AWh ‹_› ?_)
    exact r1q (cE (by rw [← hr]; rfl) rfl)
  · have h0' : ¬ (n.autos.length : Int) = 0 := by omega
    obtain ⟨X, hX⟩ : ∃ X, firstE [if b1 = true then 6 else 0, if b2 = true then 112 else 0, if anyL varV n.vars = true then 124 else 0, if v1 = true then 122 else 0, if v2 = true then 123 else 0, if v3 = true then 12 else 0, if v4 = true then 7 else 0, if v5 = true then 121 else 0] = X := ⟨_, rfl⟩
    rw [hX] at hr
    obtain ⟨E, hE⟩ : ∃ E : List AutoD → Int, E = fun l => if anyL noLocs l = true then 2 else X := ⟨_, rfl⟩
    have hEc : ∀ a l, E (a :: l) = if noLocs a = true then 2 else E l := fun a l => by subst hE; by_cases h : noLocs a = true <;> simp [anC, h]
    have hEn : E n.autos = r := by subst hE; rw [← hr]; by_cases h : anyL noLocs n.autos = true <;> simp [h, h0]
    have hE0 : E [] = X := by subst hE; rfl
    clear hr hE
    repeat' (first
 |refine aK fun K hK=>?_|refine Step.by1 ?_|refine sE (by decide) ?_|refine cz rfl ?_|refine Fork.by2 (fun h=>?_) fun h=>?_
 |(refine aR ?_;simp [vl, NetD.cells, h0, h0'])
 |(refine Split.by2 (fun h=>?_) (fun h=>?_)<;>(simp [h, vl, NetD.cells, h0, h0']))
 |(apply hK;clear hK K)|refine AWh ‹_› ?_)
    refine aS1 (r := r) n.autos 3 [1] E hEn (by apply Weak.mk' <;> simp [vl, NetD.cells]) ?_ ?_
    · intro i a _ hlt ha hF
      rw [hEc] at hF
      have hoa := h5 a (ha ▸ List.getElem_mem hlt)
      have hal : a.locs.length ≤ 1048576 := hoa.2.1.1
      have hlt' : (i : Int) < n.autos.length := by omega
      have w1 : IntKind.i64.wrap ((i : Int) + 1) = i + 1 := wI (by omega) (by omega)
      have hnl : noLocs a = decide (a.locs.length = 0) := rfl
      by_cases hz : a.locs.length = 0
      · rw [if_pos (by rw [hnl]; simp [hz])] at hF
        repeat' (first
 |refine aK fun K hK=>?_|refine Step.by1 ?_|refine sE (by decide) ?_|refine cz rfl ?_|refine Fork.by2 (fun h=>?_) fun h=>?_
 |(refine aR ?_;simp [vl, NetD.cells, AutoD.cells, hlt, hlt', ha, hz])
 |(refine Split.by2 (fun h=>?_) (fun h=>?_)<;>(simp [h, vl, NetD.cells, AutoD.cells, hlt, hlt', ha, hz]))
 |(apply hK;clear hK K)|refine AWh ‹_› ?_)
        exact r1q (cE (by rw [← hF]; rfl) rfl)
      · have hz' : ¬ (a.locs.length : Int) = 0 := by omega
        rw [if_neg (by rw [hnl]; simp [hz])] at hF
        repeat' (first
 |refine aK fun K hK=>?_|refine Step.by1 ?_|refine sE (by decide) ?_|refine cz rfl ?_|refine Fork.by2 (fun h=>?_) fun h=>?_
 |(refine aR ?_;simp [vl, NetD.cells, AutoD.cells, hlt, hlt', ha, hz, hz', w1])
 |(refine Split.by2 (fun h=>?_) (fun h=>?_)<;>(simp [h, vl, NetD.cells, AutoD.cells, hlt, hlt', ha, hz, hz', w1]))
 |(apply hK;clear hK K)|refine AWh ‹_› ?_)
        refine ⟨hF, ?_⟩; apply Weak.mk' <;> simp [vl, NetD.cells]
    · intro hF
      rw [hE0] at hF
      subst hF
      rw [fC] at hX
      clear hEc hEn hE0
      cases b1
      · rw [if_neg (by simp)] at hX
        rw [fC] at hX
        cases b2
        · rw [if_neg (by simp)] at hX
          rw [fC] at hX
          obtain ⟨Y, hY⟩ : ∃ Y, firstE [if v1 = true then 122 else 0, if v2 = true then 123 else 0, if v3 = true then 12 else 0, if v4 = true then 7 else 0, if v5 = true then 121 else 0] = Y := ⟨_, rfl⟩
          rw [hY] at hX
          obtain ⟨E2, hE2⟩ : ∃ E : List VarD → Int, E = fun l => if anyL varV l = true then 124 else Y := ⟨_, rfl⟩
          have hEc : ∀ a l, E2 (a :: l) = if varV a = true then 124 else E2 l := fun a l => by subst hE2; by_cases h : varV a = true <;> simp [anC, h]
          have hEn : E2 n.vars = X := by subst hE2; rw [← hX]; by_cases h : anyL varV n.vars = true <;> simp [h]
          have hE0 : E2 [] = Y := by subst hE2; rfl
          clear hX hE2
          repeat' (first
 |refine aK fun K hK=>?_|refine Step.by1 ?_|refine sE (by decide) ?_|refine cz rfl ?_|refine Fork.by2 (fun h=>?_) fun h=>?_
 |((first|refine aR ?_|refine aC (f:=137) rfl rfl (hL) rfl rfl rfl ?_|refine aC (f:=138) rfl rfl (hM) rfl rfl rfl ?_);simp [vl, NetD.cells])
 |(refine Split.by2 (fun h=>?_) (fun h=>?_)<;>(simp [h, vl, NetD.cells]))
 |(apply hK;clear hK K)|refine AWh ‹_› ?_)
          refine aS1 (r := X) n.vars 4 [1] E2 hEn (by apply Weak.mk' <;> simp [vl, NetD.cells]) ?_ ?_
          · intro i x _ hlt hx hF
            rw [hEc] at hF
            have hlt' : (i : Int) < n.vars.length := by omega
            have w1 : IntKind.i64.wrap ((i : Int) + 1) = i + 1 := wI (by omega) (by omega)
            obtain ⟨k1, q1, hv1⟩ : ∃ b, (b = true ↔ (-1048576 ≤ x.lo ∧ x.lo ≤ 1048576)) ∧ PC 139 [.int .i64 x.lo] (.bool b) := ⟨_, by simp, r_isValue x.lo⟩
            obtain ⟨k2, q2, hv2⟩ : ∃ b, (b = true ↔ (-1048576 ≤ x.init ∧ x.init ≤ 1048576)) ∧ PC 139 [.int .i64 x.init] (.bool b) := ⟨_, by simp, r_isValue x.init⟩
            obtain ⟨k3, q3, hv3⟩ : ∃ b, (b = true ↔ (-1048576 ≤ x.hi ∧ x.hi ≤ 1048576)) ∧ PC 139 [.int .i64 x.hi] (.bool b) := ⟨_, by simp, r_isValue x.hi⟩
            have hvv : varV x = true ↔ (x.init < x.lo ∨ x.hi < x.init ∨ x.lo < -1048576 ∨ 1048576 < x.hi) := by simp [varV]
            cases k1 <;> cases k2 <;> cases k3
            all_goals
              simp only [Bool.false_eq_true, false_iff, true_iff] at q1 q2 q3
              repeat' (first
 |refine aK fun K hK=>?_|refine Step.by1 ?_|refine sE (by decide) ?_|refine cz rfl ?_|refine Fork.by2 (fun h=>?_) fun h=>?_
 |((first|refine aR ?_|refine aC (f:=139) rfl rfl (hv1) rfl rfl rfl ?_|refine aC (f:=139) rfl rfl (hv2) rfl rfl rfl ?_|refine aC (f:=139) rfl rfl (hv3) rfl rfl rfl ?_);simp [vl, NetD.cells, VarD.cells, hlt, hlt', hx, w1])
 |(refine Split.by2 (fun h=>?_) (fun h=>?_)<;>(simp [h, vl, NetD.cells, VarD.cells, hlt, hlt', hx, w1]))
 |(apply hK;clear hK K)|refine AWh ‹_› ?_)
              all_goals (try clear hv1 hv2 hv3)
              all_goals first
                | exact r1q (cE (by rw [← hF, if_pos (hvv.2 (by omega))]; rfl) rfl)
                | (refine ⟨by rw [← hF, if_neg (fun h => by have := hvv.1 h; omega)], ?_⟩; apply Weak.mk' <;> simp [vl, NetD.cells])
                | (exfalso; omega)
          · intro hF
            rw [hE0] at hF
            subst hF
            clear hEc hEn hE0
            repeat' (first
 |refine aK fun K hK=>?_|refine Step.by1 ?_|refine sE (by decide) ?_|refine cz rfl ?_|refine Fork.by2 (fun h=>?_) fun h=>?_
 |(refine aR ?_;simp [vl, NetD.cells])
 |(refine Split.by2 (fun h=>?_) (fun h=>?_)<;>(simp [h, vl, NetD.cells]))
 |(apply hK;clear hK K)|refine AWh ‹_› ?_)
            refine aL [1, 6] (fun i : Nat => [(7, .int .i64 i)]) (fun _ => [.var n.cells, .row 30 0 0 true [[.int .i64 122], [.int .i64 123], [.int .i64 12], [.int .i64 7], [.int .i64 121]]])
              (fun i => i ≤ 5 ∧ firstE ([if v1 = true then 122 else 0, if v2 = true then 123 else 0, if v3 = true then 12 else 0, if v4 = true then 7 else 0, if v5 = true then 121 else 0].drop i) = Y) (fun i => 5 - i) 0 ⟨Nat.zero_le _, hY⟩ (by apply Weak.mk' <;> simp [vl, NetD.cells]) (fun _ _ => rfl) ?_
            clear hY
            rintro i ⟨hi, hF⟩
            rcases i with _ | _ | _ | _ | _ | _ | i
            · rw [show [if v1 = true then (122 : Int) else 0, if v2 = true then 123 else 0, if v3 = true then 12 else 0, if v4 = true then 7 else 0, if v5 = true then 121 else 0].drop 0 = (if v1 = true then 122 else 0) :: [if v1 = true then (122 : Int) else 0, if v2 = true then 123 else 0, if v3 = true then 12 else 0, if v4 = true then 7 else 0, if v5 = true then 121 else 0].drop 1 from rfl, fC] at hF
              cases v1
              · rw [if_neg (by simp)] at hF
                repeat' (first
 |refine aK fun K hK=>?_|refine Step.by1 ?_|refine sE (by decide) ?_|refine cz rfl ?_|refine Fork.by2 (fun h=>?_) fun h=>?_
 |((first|refine aR ?_|refine aX (id:=22) 6 mixed (by decide) ?_|refine aP1 (f:=140) rfl rfl (hW122) rfl rfl rfl ?_);simp [vl, NetD.cells, wI];try (simp (disch:=omega) only [wI];try simp [vl, NetD.cells, wI]))
 |(refine Split.by2 (fun h=>?_) (fun h=>?_)<;>(simp [h, vl, NetD.cells, wI];try (simp (disch:=omega) only [wI];try simp [vl, NetD.cells, wI])))
 |(apply hK;clear hK K)|refine AWh ‹_› ?_)
                refine ⟨1, ⟨by omega, hF⟩, by omega, ?_⟩; apply Weak.mk' <;> simp [vl, NetD.cells]
              · rw [if_pos (by simp)] at hF
                repeat' (first
 |refine aK fun K hK=>?_|refine Step.by1 ?_|refine sE (by decide) ?_|refine cz rfl ?_|refine Fork.by2 (fun h=>?_) fun h=>?_
 |((first|refine aR ?_|refine aX (id:=22) 6 mixed (by decide) ?_|refine aP1 (f:=140) rfl rfl (hW122) rfl rfl rfl ?_);simp [vl, NetD.cells, wI];try (simp (disch:=omega) only [wI];try simp [vl, NetD.cells, wI]))
 |(refine Split.by2 (fun h=>?_) (fun h=>?_)<;>(simp [h, vl, NetD.cells, wI];try (simp (disch:=omega) only [wI];try simp [vl, NetD.cells, wI])))
 |(apply hK;clear hK K)|refine AWh ‹_› ?_)
                exact r1q (cE (by rw [← hF]; rfl) rfl)
            · rw [show [if v1 = true then (122 : Int) else 0, if v2 = true then 123 else 0, if v3 = true then 12 else 0, if v4 = true then 7 else 0, if v5 = true then 121 else 0].drop 1 = (if v2 = true then 123 else 0) :: [if v1 = true then (122 : Int) else 0, if v2 = true then 123 else 0, if v3 = true then 12 else 0, if v4 = true then 7 else 0, if v5 = true then 121 else 0].drop 2 from rfl, fC] at hF
              cases v2
              · rw [if_neg (by simp)] at hF
                repeat' (first
 |refine aK fun K hK=>?_|refine Step.by1 ?_|refine sE (by decide) ?_|refine cz rfl ?_|refine Fork.by2 (fun h=>?_) fun h=>?_
 |((first|refine aR ?_|refine aX (id:=22) 6 mixed (by decide) ?_|refine aP1 (f:=140) rfl rfl (hW123) rfl rfl rfl ?_);simp [vl, NetD.cells, wI];try (simp (disch:=omega) only [wI];try simp [vl, NetD.cells, wI]))
 |(refine Split.by2 (fun h=>?_) (fun h=>?_)<;>(simp [h, vl, NetD.cells, wI];try (simp (disch:=omega) only [wI];try simp [vl, NetD.cells, wI])))
 |(apply hK;clear hK K)|refine AWh ‹_› ?_)
                refine ⟨2, ⟨by omega, hF⟩, by omega, ?_⟩; apply Weak.mk' <;> simp [vl, NetD.cells]
              · rw [if_pos (by simp)] at hF
                repeat' (first
 |refine aK fun K hK=>?_|refine Step.by1 ?_|refine sE (by decide) ?_|refine cz rfl ?_|refine Fork.by2 (fun h=>?_) fun h=>?_
 |((first|refine aR ?_|refine aX (id:=22) 6 mixed (by decide) ?_|refine aP1 (f:=140) rfl rfl (hW123) rfl rfl rfl ?_);simp [vl, NetD.cells, wI];try (simp (disch:=omega) only [wI];try simp [vl, NetD.cells, wI]))
 |(refine Split.by2 (fun h=>?_) (fun h=>?_)<;>(simp [h, vl, NetD.cells, wI];try (simp (disch:=omega) only [wI];try simp [vl, NetD.cells, wI])))
 |(apply hK;clear hK K)|refine AWh ‹_› ?_)
                exact r1q (cE (by rw [← hF]; rfl) rfl)
            · rw [show [if v1 = true then (122 : Int) else 0, if v2 = true then 123 else 0, if v3 = true then 12 else 0, if v4 = true then 7 else 0, if v5 = true then 121 else 0].drop 2 = (if v3 = true then 12 else 0) :: [if v1 = true then (122 : Int) else 0, if v2 = true then 123 else 0, if v3 = true then 12 else 0, if v4 = true then 7 else 0, if v5 = true then 121 else 0].drop 3 from rfl, fC] at hF
              cases v3
              · rw [if_neg (by simp)] at hF
                repeat' (first
 |refine aK fun K hK=>?_|refine Step.by1 ?_|refine sE (by decide) ?_|refine cz rfl ?_|refine Fork.by2 (fun h=>?_) fun h=>?_
 |((first|refine aR ?_|refine aX (id:=22) 6 mixed (by decide) ?_|refine aP1 (f:=140) rfl rfl (hW12) rfl rfl rfl ?_);simp [vl, NetD.cells, wI];try (simp (disch:=omega) only [wI];try simp [vl, NetD.cells, wI]))
 |(refine Split.by2 (fun h=>?_) (fun h=>?_)<;>(simp [h, vl, NetD.cells, wI];try (simp (disch:=omega) only [wI];try simp [vl, NetD.cells, wI])))
 |(apply hK;clear hK K)|refine AWh ‹_› ?_)
                refine ⟨3, ⟨by omega, hF⟩, by omega, ?_⟩; apply Weak.mk' <;> simp [vl, NetD.cells]
              · rw [if_pos (by simp)] at hF
                repeat' (first
 |refine aK fun K hK=>?_|refine Step.by1 ?_|refine sE (by decide) ?_|refine cz rfl ?_|refine Fork.by2 (fun h=>?_) fun h=>?_
 |((first|refine aR ?_|refine aX (id:=22) 6 mixed (by decide) ?_|refine aP1 (f:=140) rfl rfl (hW12) rfl rfl rfl ?_);simp [vl, NetD.cells, wI];try (simp (disch:=omega) only [wI];try simp [vl, NetD.cells, wI]))
 |(refine Split.by2 (fun h=>?_) (fun h=>?_)<;>(simp [h, vl, NetD.cells, wI];try (simp (disch:=omega) only [wI];try simp [vl, NetD.cells, wI])))
 |(apply hK;clear hK K)|refine AWh ‹_› ?_)
                exact r1q (cE (by rw [← hF]; rfl) rfl)
            · rw [show [if v1 = true then (122 : Int) else 0, if v2 = true then 123 else 0, if v3 = true then 12 else 0, if v4 = true then 7 else 0, if v5 = true then 121 else 0].drop 3 = (if v4 = true then 7 else 0) :: [if v1 = true then (122 : Int) else 0, if v2 = true then 123 else 0, if v3 = true then 12 else 0, if v4 = true then 7 else 0, if v5 = true then 121 else 0].drop 4 from rfl, fC] at hF
              cases v4
              · rw [if_neg (by simp)] at hF
                repeat' (first
 |refine aK fun K hK=>?_|refine Step.by1 ?_|refine sE (by decide) ?_|refine cz rfl ?_|refine Fork.by2 (fun h=>?_) fun h=>?_
 |((first|refine aR ?_|refine aX (id:=22) 6 mixed (by decide) ?_|refine aP1 (f:=140) rfl rfl (hW7) rfl rfl rfl ?_);simp [vl, NetD.cells, wI];try (simp (disch:=omega) only [wI];try simp [vl, NetD.cells, wI]))
 |(refine Split.by2 (fun h=>?_) (fun h=>?_)<;>(simp [h, vl, NetD.cells, wI];try (simp (disch:=omega) only [wI];try simp [vl, NetD.cells, wI])))
 |(apply hK;clear hK K)|refine AWh ‹_› ?_)
                refine ⟨4, ⟨by omega, hF⟩, by omega, ?_⟩; apply Weak.mk' <;> simp [vl, NetD.cells]
              · rw [if_pos (by simp)] at hF
                repeat' (first
 |refine aK fun K hK=>?_|refine Step.by1 ?_|refine sE (by decide) ?_|refine cz rfl ?_|refine Fork.by2 (fun h=>?_) fun h=>?_
 |((first|refine aR ?_|refine aX (id:=22) 6 mixed (by decide) ?_|refine aP1 (f:=140) rfl rfl (hW7) rfl rfl rfl ?_);simp [vl, NetD.cells, wI];try (simp (disch:=omega) only [wI];try simp [vl, NetD.cells, wI]))
 |(refine Split.by2 (fun h=>?_) (fun h=>?_)<;>(simp [h, vl, NetD.cells, wI];try (simp (disch:=omega) only [wI];try simp [vl, NetD.cells, wI])))
 |(apply hK;clear hK K)|refine AWh ‹_› ?_)
                exact r1q (cE (by rw [← hF]; rfl) rfl)
            · rw [show [if v1 = true then (122 : Int) else 0, if v2 = true then 123 else 0, if v3 = true then 12 else 0, if v4 = true then 7 else 0, if v5 = true then 121 else 0].drop 4 = (if v5 = true then 121 else 0) :: [if v1 = true then (122 : Int) else 0, if v2 = true then 123 else 0, if v3 = true then 12 else 0, if v4 = true then 7 else 0, if v5 = true then 121 else 0].drop 5 from rfl, fC] at hF
              cases v5
              · rw [if_neg (by simp)] at hF
                repeat' (first
 |refine aK fun K hK=>?_|refine Step.by1 ?_|refine sE (by decide) ?_|refine cz rfl ?_|refine Fork.by2 (fun h=>?_) fun h=>?_
 |((first|refine aR ?_|refine aX (id:=22) 6 mixed (by decide) ?_|refine aP1 (f:=140) rfl rfl (hW121) rfl rfl rfl ?_);simp [vl, NetD.cells, wI];try (simp (disch:=omega) only [wI];try simp [vl, NetD.cells, wI]))
 |(refine Split.by2 (fun h=>?_) (fun h=>?_)<;>(simp [h, vl, NetD.cells, wI];try (simp (disch:=omega) only [wI];try simp [vl, NetD.cells, wI])))
 |(apply hK;clear hK K)|refine AWh ‹_› ?_)
                refine ⟨5, ⟨by omega, hF⟩, by omega, ?_⟩; apply Weak.mk' <;> simp [vl, NetD.cells]
              · rw [if_pos (by simp)] at hF
                repeat' (first
 |refine aK fun K hK=>?_|refine Step.by1 ?_|refine sE (by decide) ?_|refine cz rfl ?_|refine Fork.by2 (fun h=>?_) fun h=>?_
 |((first|refine aR ?_|refine aX (id:=22) 6 mixed (by decide) ?_|refine aP1 (f:=140) rfl rfl (hW121) rfl rfl rfl ?_);simp [vl, NetD.cells, wI];try (simp (disch:=omega) only [wI];try simp [vl, NetD.cells, wI]))
 |(refine Split.by2 (fun h=>?_) (fun h=>?_)<;>(simp [h, vl, NetD.cells, wI];try (simp (disch:=omega) only [wI];try simp [vl, NetD.cells, wI])))
 |(apply hK;clear hK K)|refine AWh ‹_› ?_)
                exact r1q (cE (by rw [← hF]; rfl) rfl)
            · repeat' (first
 |refine aK fun K hK=>?_|refine Step.by1 ?_|refine sE (by decide) ?_|refine cz rfl ?_|refine Fork.by2 (fun h=>?_) fun h=>?_
 |(refine aR ?_;simp [vl, NetD.cells])
 |(refine Split.by2 (fun h=>?_) (fun h=>?_)<;>(simp [h, vl, NetD.cells]))
 |(apply hK;clear hK K)|refine AWh ‹_› ?_)
              exact r1q (cE (by rw [← hF]; rfl) rfl)
            · omega
        · rw [if_pos (by simp)] at hX
          repeat' (first
 |refine aK fun K hK=>?_|refine Step.by1 ?_|refine sE (by decide) ?_|refine cz rfl ?_|refine Fork.by2 (fun h=>?_) fun h=>?_
 |((first|refine aR ?_|refine aC (f:=137) rfl rfl (hL) rfl rfl rfl ?_|refine aC (f:=138) rfl rfl (hM) rfl rfl rfl ?_);simp [vl, NetD.cells])
 |(refine Split.by2 (fun h=>?_) (fun h=>?_)<;>(simp [h, vl, NetD.cells]))
 |(apply hK;clear hK K)|refine AWh ‹_› ?_)
          exact r1q (cE (by rw [← hX]; rfl) rfl)
      · rw [if_pos (by simp)] at hX
        repeat' (first
 |refine aK fun K hK=>?_|refine Step.by1 ?_|refine sE (by decide) ?_|refine cz rfl ?_|refine Fork.by2 (fun h=>?_) fun h=>?_
 |((first|refine aR ?_|refine aC (f:=137) rfl rfl (hL) rfl rfl rfl ?_);simp [vl, NetD.cells])
 |(refine Split.by2 (fun h=>?_) (fun h=>?_)<;>(simp [h, vl, NetD.cells]))
 |(apply hK;clear hK K)|refine AWh ‹_› ?_)
        exact r1q (cE (by rw [← hX]; rfl) rfl)
end Go.Proofs.YtgmlimipejcpgaaGreatDoor
end
