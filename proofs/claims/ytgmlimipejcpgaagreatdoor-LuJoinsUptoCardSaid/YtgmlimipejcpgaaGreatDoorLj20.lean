/-
  YtgmlimipejcpgaaGreatDoorLj20: steps of the proof of a law of the program: what these texts prove holds under the hypotheses that their theorems name, and no others.
-/
import Derived.Test.YtgmlimipejcpgaaGreatDoorLj19
import Derived.Test.YtgmlimipejcpgaaGreatDoorLj17
import Derived.Test.YtgmlimipejcpgaaGreatDoorLj13
import Derived.Test.YtgmlimipejcpgaaGreatDoorLj10
section
set_option linter.unusedSimpArgs false
set_option linter.unusedVariables false
namespace Go.Proofs.YtgmlimipejcpgaaGreatDoor
open Go Go.AM Fx
set_option maxRecDepth 20000 in
set_option maxHeartbeats 16000000 in
theorem r_wrong (n : NetD) (way : Int) (hn : n.ok) : PC 140 [.agg n.cells, .int .i64 way] (.bool (wrongB n way)) := by
  obtain ⟨_, _, _, h4, h5⟩ := hn
  refine pB Tryz.func140 rfl (by decide) Tryz.ntmps140 (by simp) Tryz.results140 ?_
  repeat' (first
 |refine aK fun K hK=>?_|refine Step.by1 ?_|refine sE (by decide) ?_|refine cz rfl ?_|refine Fork.by2 (fun h=>?_) fun h=>?_
 |(refine aR ?_;simp [vl, NetD.cells])
 |(refine Split.by2 (fun h=>?_) (fun h=>?_)<;>(simp [h, vl, NetD.cells]))
 |(apply hK;clear hK K)|refine AWh ‹_› ?_)
  refine aS1 (r := wrongB n way) n.autos 5 [1, 2] (anyL (wrongA n way)) rfl (by apply Weak.mk' <;> simp [vl, NetD.cells]) ?_ ?_
  · intro i a _ hlt ha hF
    have hoa := h5 a (ha ▸ List.getElem_mem hlt)
    obtain ⟨_, ⟨hl1, hl2⟩, he1, he2⟩ := hoa
    rw [anC] at hF
    have hw : wrongA n way a = (anyL (locW n way) a.locs || anyL (edW n a way) a.edges) := rfl
    rw [hw] at hF
    have hlt' : (i : Int) < n.autos.length := by omega
    have w0 : IntKind.i64.wrap ((i : Int) + 1) = i + 1 := wI (by omega) (by omega)
    repeat' (first
 |refine aK fun K hK=>?_|refine Step.by1 ?_|refine sE (by decide) ?_|refine cz rfl ?_|refine Fork.by2 (fun h=>?_) fun h=>?_
 |(refine aR ?_;simp [vl, NetD.cells, AutoD.cells, hlt, hlt', ha])
 |(refine Split.by2 (fun h=>?_) (fun h=>?_)<;>(simp [h, vl, NetD.cells, AutoD.cells, hlt, hlt', ha]))
 |(apply hK;clear hK K)|refine AWh ‹_› ?_)
    refine aS1 (r := anyL (locW n way) a.locs) a.locs 7 [1, 2, 5, 6] (anyL (locW n way)) rfl (by apply Weak.mk' <;> simp [vl, NetD.cells, AutoD.cells]) ?_ ?_
    · intro k x _ hkt hx hG
      rw [anC] at hG
      have hox := hl2 x (hx ▸ List.getElem_mem hkt)
      have hc := r_guards n x.inv way (by have := hox.2.2.1; omega)
      have hlw : locW n way x = (decide (way = 122) && decide (2 < x.kind) || anyL (wayG n way) x.inv) := rfl
      have hkt' : (k : Int) < a.locs.length := by omega
      have w1 : IntKind.i64.wrap ((k : Int) + 1) = k + 1 := wI (by omega) (by omega)
      simp only [NetD.cells, vl] at hc
      generalize anyL (wayG n way) x.inv = kb at *
      by_cases h122 : way = 122
      · subst h122
        repeat' (first
 |refine aK fun K hK=>?_|refine Step.by1 ?_|refine sE (by decide) ?_|refine cz rfl ?_|refine Fork.by2 (fun h=>?_) fun h=>?_
 |((first|refine aR ?_|refine aX (id:=8) 22 mixed (by decide) ?_|refine aP1 (f:=153) rfl rfl (hc) rfl rfl rfl ?_|refine aC (f:=153) rfl rfl (hc) rfl rfl rfl ?_);simp [vl, NetD.cells, AutoD.cells, LocD.cells, hkt, hkt', hx, w1])
 |(refine Split.by2 (fun h=>?_) (fun h=>?_)<;>(simp [h, vl, NetD.cells, AutoD.cells, LocD.cells, hkt, hkt', hx, w1]))
 |(apply hK;clear hK K)|refine AWh ‹_› ?_)
        all_goals (try clear hc)
        all_goals first
          | exact r1q (cE (by rw [← hF, ← hG, hlw]; simp [*]; done) rfl)
          | (refine ⟨by rw [← hG, hlw]; simp [*]; done, ?_⟩; apply Weak.mk' <;> simp [vl, NetD.cells, AutoD.cells])
      · repeat' (first
 |refine aK fun K hK=>?_|refine Step.by1 ?_|refine sE (by decide) ?_|refine cz rfl ?_|refine Fork.by2 (fun h=>?_) fun h=>?_
 |((first|refine aR ?_|refine aX (id:=8) 22 mixed (by decide) ?_|refine aP1 (f:=153) rfl rfl (hc) rfl rfl rfl ?_|refine aC (f:=153) rfl rfl (hc) rfl rfl rfl ?_);simp [vl, NetD.cells, AutoD.cells, LocD.cells, hkt, hkt', hx, w1, h122])
 |(refine Split.by2 (fun h=>?_) (fun h=>?_)<;>(simp [h, vl, NetD.cells, AutoD.cells, LocD.cells, hkt, hkt', hx, w1, h122]))
 |(apply hK;clear hK K)|refine AWh ‹_› ?_)
        all_goals (try clear hc)
        all_goals first
          | exact r1q (cE (by rw [← hF, ← hG, hlw]; simp [*]; done) rfl)
          | (refine ⟨by rw [← hG, hlw]; simp [*]; done, ?_⟩; apply Weak.mk' <;> simp [vl, NetD.cells, AutoD.cells])
    · intro hG
      rw [← hG, anyL_nil, Bool.false_or] at hF
      repeat' (first
 |refine aK fun K hK=>?_|refine Step.by1 ?_|refine sE (by decide) ?_|refine cz rfl ?_|refine Fork.by2 (fun h=>?_) fun h=>?_
 |(refine aR ?_;simp [vl, NetD.cells, AutoD.cells])
 |(refine Split.by2 (fun h=>?_) (fun h=>?_)<;>(simp [h, vl, NetD.cells, AutoD.cells]))
 |(apply hK;clear hK K)|refine AWh ‹_› ?_)
      refine aS1 (r := anyL (edW n a way) a.edges) a.edges 8 [1, 2, 5, 6] (anyL (edW n a way)) rfl (by apply Weak.mk' <;> simp [vl, NetD.cells, AutoD.cells]) ?_ ?_
      · intro m y _ hmt hy hM
        rw [anC] at hM
        have hoy := he2 y (hy ▸ List.getElem_mem hmt)
        have hc := r_guards n y.guards way (by have := hoy.2.2.1.1; omega)
        have hc2 := r_edge n a y way hoy
        have hew : edW n a way y = (anyL (wayG n way) y.guards || edgeW n a way y) := rfl
        have hmt' : (m : Int) < a.edges.length := by omega
        have w1 : IntKind.i64.wrap ((m : Int) + 1) = m + 1 := wI (by omega) (by omega)
        simp only [NetD.cells, AutoD.cells, EdgeD.cells, vl] at hc hc2
        generalize anyL (wayG n way) y.guards = kb at *
        generalize edgeW n a way y = kc at *
        repeat' (first
 |refine aK fun K hK=>?_|refine Step.by1 ?_|refine sE (by decide) ?_|refine cz rfl ?_|refine Fork.by2 (fun h=>?_) fun h=>?_
 |((first|refine aR ?_|refine aX (id:=13) 20 mixed (by decide) ?_|refine aP1 (f:=153) rfl rfl (hc) rfl rfl rfl ?_|refine aP1 (f:=198) rfl rfl (hc2) rfl rfl rfl ?_|refine aC (f:=153) rfl rfl (hc) rfl rfl rfl ?_);simp [vl, NetD.cells, AutoD.cells, EdgeD.cells, hmt, hmt', hy, w1])
 |(refine Split.by2 (fun h=>?_) (fun h=>?_)<;>(simp [h, vl, NetD.cells, AutoD.cells, EdgeD.cells, hmt, hmt', hy, w1]))
 |(apply hK;clear hK K)|refine AWh ‹_› ?_)
        all_goals (try clear hc hc2)
        all_goals first
          | exact r1q (cE (by rw [← hF, ← hM, hew]; simp [*]; done) rfl)
          | (refine ⟨by rw [← hM, hew]; simp [*]; done, ?_⟩; apply Weak.mk' <;> simp [vl, NetD.cells, AutoD.cells])
      · intro hM
        rw [← hM, anyL_nil, Bool.false_or] at hF
        repeat' (first
 |refine aK fun K hK=>?_|refine Step.by1 ?_|refine sE (by decide) ?_|refine cz rfl ?_|refine Fork.by2 (fun h=>?_) fun h=>?_
 |(refine aR ?_;simp [vl, NetD.cells, w0])
 |(refine Split.by2 (fun h=>?_) (fun h=>?_)<;>(simp [h, vl, NetD.cells, w0]))
 |(apply hK;clear hK K)|refine AWh ‹_› ?_)
        refine ⟨hF, ?_⟩; apply Weak.mk' <;> simp [vl, NetD.cells]
  · intro hF
    repeat' (first
 |refine aK fun K hK=>?_|refine Step.by1 ?_|refine sE (by decide) ?_|refine cz rfl ?_|refine Fork.by2 (fun h=>?_) fun h=>?_
 |(refine aR ?_;simp [vl, NetD.cells])
 |(refine Split.by2 (fun h=>?_) (fun h=>?_)<;>(simp [h, vl, NetD.cells]))
 |(apply hK;clear hK K)|refine AWh ‹_› ?_)
    exact r1q (cE (by rw [← hF]; rfl) rfl)
set_option maxRecDepth 20000 in
set_option maxHeartbeats 16000000 in
theorem r_Whole (n : NetD) (hn : n.ok) : PC 67 [.agg n.cells] (.int .i64 (wholeE n)) := by
  have hL := r_long n hn
  have hM := r_wrongNames n hn
  have hW := fun way => r_wrong n way hn
  obtain ⟨r, hr⟩ : ∃ r, wholeE n = r := ⟨_, rfl⟩
  rw [hr]
  rw [wholeE_ref, fC] at hr
  have e0 : someE n = if n.autos.length = 0 ∨ anyL noLocs n.autos = true then 2 else 0 := rfl
  have e1 : sizesE n = if sizeNet n = true then 6 else 0 := rfl
  have e2 : namesE n = if namesB n = true then 112 else 0 := rfl
  have e3 : varE n.vars = if anyL varV n.vars = true then 124 else 0 := rfl
  have l1 := hn.2.2.2.1
  have l2 := hn.2.1.1
  obtain ⟨_, _, _, h4, h5⟩ := hn
  rw [e0, e1, e2, e3] at hr
  clear e0 e1 e2 e3
  generalize sizeNet n = b1 at *
  generalize namesB n = b2 at *
  have hW122 := hW 122
  have hW123 := hW 123
  have hW12 := hW 12
  have hW7 := hW 7
  have hW121 := hW 121
  clear hW
  generalize wrongB n 122 = v1 at *
  generalize wrongB n 123 = v2 at *
  generalize wrongB n 12 = v3 at *
  generalize wrongB n 7 = v4 at *
  generalize wrongB n 121 = v5 at *
  simp only [vl, NetD.cells] at hL hM hW122 hW123 hW12 hW7 hW121
  refine pB Tryz.func67 rfl (by decide) Tryz.ntmps67 (by simp) Tryz.results67 ?_
  by_cases h0 : n.autos.length = 0
  · rw [if_pos (by simp [h0]), if_pos (.inl h0)] at hr
    repeat' (first
 |refine aK fun K hK=>?_|refine Step.by1 ?_|refine sE (by decide) ?_|refine cz rfl ?_|refine Fork.by2 (fun h=>?_) fun h=>?_
 |(refine aR ?_;simp [vl, NetD.cells, h0])
 |(refine Split.by2 (fun h=>?_) (fun h=>?_)<;>(simp [h, vl, NetD.cells, h0]))
 |(apply hK;clear hK K)|refine AWh ‹_› ?_)
    exact r1q (cE (by rw [← hr]; rfl) rfl)
  · have h0' : ¬ (n.autos.length : Int) = 0 := by omega
    obtain ⟨X, hX⟩ : ∃ X, firstE [if b1 = true then 6 else 0, if b2 = true then 112 else 0, if anyL varV n.vars = true then 124 else 0, if v1 = true then 122 else 0, if v2 = true then 123 else 0, if v3 = true then 12 else 0, if v4 = true then 7 else 0, if v5 = true then 121 else 0] = X := ⟨_, rfl⟩
    rw [hX] at hr
    obtain ⟨E, hE⟩ : ∃ E : List AutoD → Int, E = fun l => if anyL noLocs l = true then 2 else X := ⟨_, rfl⟩
    have hEc : ∀ a l, E (a :: l) = if noLocs a = true then 2 else E l := fun a l => by subst hE; by_cases h : noLocs a = true <;> simp [anC, h]
    have hEn : E n.autos = r := by subst hE; rw [← hr]; by_cases h : anyL noLocs n.autos = true <;> simp [h, h0]
    have hE0 : E [] = X := by subst hE; rfl
    clear hr hE
    repeat' (first
 |refine aK fun K hK=>?_|refine Step.by1 ?_|refine sE (by decide) ?_|refine cz rfl ?_|refine Fork.by2 (fun h=>?_) fun h=>?_
 |(refine aR ?_;simp [vl, NetD.cells, h0, h0'])
 |(refine Split.by2 (fun h=>?_) (fun h=>?_)<;>(simp [h, vl, NetD.cells, h0, h0']))
 |(apply hK;clear hK K)|refine AWh ‹_› ?_)
    refine aS1 (r := r) n.autos 3 [1] E hEn (by apply Weak.mk' <;> simp [vl, NetD.cells]) ?_ ?_
    · intro i a _ hlt ha hF
      rw [hEc] at hF
      have hoa := h5 a (ha ▸ List.getElem_mem hlt)
      have hal : a.locs.length ≤ 1048576 := hoa.2.1.1
      have hlt' : (i : Int) < n.autos.length := by omega
      have w1 : IntKind.i64.wrap ((i : Int) + 1) = i + 1 := wI (by omega) (by omega)
      have hnl : noLocs a = decide (a.locs.length = 0) := rfl
      by_cases hz : a.locs.length = 0
      · rw [if_pos (by rw [hnl]; simp [hz])] at hF
        repeat' (first
 |refine aK fun K hK=>?_|refine Step.by1 ?_|refine sE (by decide) ?_|refine cz rfl ?_|refine Fork.by2 (fun h=>?_) fun h=>?_
 |(refine aR ?_;simp [vl, NetD.cells, AutoD.cells, hlt, hlt', ha, hz])
 |(refine Split.by2 (fun h=>?_) (fun h=>?_)<;>(simp [h, vl, NetD.cells, AutoD.cells, hlt, hlt', ha, hz]))
 |(apply hK;clear hK K)|refine AWh ‹_› ?_)
        exact r1q (cE (by rw [← hF]; rfl) rfl)
      · have hz' : ¬ (a.locs.length : Int) = 0 := by omega
        rw [if_neg (by rw [hnl]; simp [hz])] at hF
        repeat' (first
 |refine aK fun K hK=>?_|refine Step.by1 ?_|refine sE (by decide) ?_|refine cz rfl ?_|refine Fork.by2 (fun h=>?_) fun h=>?_
 |(refine aR ?_;simp [vl, NetD.cells, AutoD.cells, hlt, hlt', ha, hz, hz', w1])
 |(refine Split.by2 (fun h=>?_) (fun h=>?_)<;>(simp [h, vl, NetD.cells, AutoD.cells, hlt, hlt', ha, hz, hz', w1]))
 |(apply hK;clear hK K)|refine AWh ‹_› ?_)
        refine ⟨hF, ?_⟩; apply Weak.mk' <;> simp [vl, NetD.cells]
    · intro hF
      rw [hE0] at hF
      subst hF
      rw [fC] at hX
      clear hEc hEn hE0
      cases b1
      · rw [if_neg (by simp)] at hX
        rw [fC] at hX
        cases b2
        · rw [if_neg (by simp)] at hX
          rw [fC] at hX
          obtain ⟨Y, hY⟩ : ∃ Y, firstE [if v1 = true then 122 else 0, if v2 = true then 123 else 0, if v3 = true then 12 else 0, if v4 = true then 7 else 0, if v5 = true then 121 else 0] = Y := ⟨_, rfl⟩
          rw [hY] at hX
          obtain ⟨E2, hE2⟩ : ∃ E : List VarD → Int, E = fun l => if anyL varV l = true then 124 else Y := ⟨_, rfl⟩
          have hEc : ∀ a l, E2 (a :: l) = if varV a = true then 124 else E2 l := fun a l => by subst hE2; by_cases h : varV a = true <;> simp [anC, h]
          have hEn : E2 n.vars = X := by subst hE2; rw [← hX]; by_cases h : anyL varV n.vars = true <;> simp [h]
          have hE0 : E2 [] = Y := by subst hE2; rfl
          clear hX hE2
          repeat' (first
 |refine aK fun K hK=>?_|refine Step.by1 ?_|refine sE (by decide) ?_|refine cz rfl ?_|refine Fork.by2 (fun h=>?_) fun h=>?_
 |((first|refine aR ?_|refine aC (f:=137) rfl rfl (hL) rfl rfl rfl ?_|refine aC (f:=138) rfl rfl (hM) rfl rfl rfl ?_);simp [vl, NetD.cells])
 |(refine Split.by2 (fun h=>?_) (fun h=>?_)<;>(simp [h, vl, NetD.cells]))
 |(apply hK;clear hK K)|refine AWh ‹_› ?_)
          refine aS1 (r := X) n.vars 4 [1] E2 hEn (by apply Weak.mk' <;> simp [vl, NetD.cells]) ?_ ?_
          · intro i x _ hlt hx hF
            rw [hEc] at hF
            have hlt' : (i : Int) < n.vars.length := by omega
            have w1 : IntKind.i64.wrap ((i : Int) + 1) = i + 1 := wI (by omega) (by omega)
            obtain ⟨k1, q1, hv1⟩ : ∃ b, (b = true ↔ (-1048576 ≤ x.lo ∧ x.lo ≤ 1048576)) ∧ PC 139 [.int .i64 x.lo] (.bool b) := ⟨_, by simp, r_isValue x.lo⟩
            obtain ⟨k2, q2, hv2⟩ : ∃ b, (b = true ↔ (-1048576 ≤ x.init ∧ x.init ≤ 1048576)) ∧ PC 139 [.int .i64 x.init] (.bool b) := ⟨_, by simp, r_isValue x.init⟩
            obtain ⟨k3, q3, hv3⟩ : ∃ b, (b = true ↔ (-1048576 ≤ x.hi ∧ x.hi ≤ 1048576)) ∧ PC 139 [.int .i64 x.hi] (.bool b) := ⟨_, by simp, r_isValue x.hi⟩
            have hvv : varV x = true ↔ (x.init < x.lo ∨ x.hi < x.init ∨ x.lo < -1048576 ∨ 1048576 < x.hi) := by simp [varV]
            cases k1 <;> cases k2 <;> cases k3
            all_goals
              simp only [Bool.false_eq_true, false_iff, true_iff] at q1 q2 q3
              repeat' (first
 |refine aK fun K hK=>?_|refine Step.by1 ?_|refine sE (by decide) ?_|refine cz rfl ?_|refine Fork.by2 (fun h=>?_) fun h=>?_
 |((first|refine aR ?_|refine aC (f:=139) rfl rfl (hv1) rfl rfl rfl ?_|refine aC (f:=139) rfl rfl (hv2) rfl rfl rfl ?_|refine aC (f:=139) rfl rfl (hv3) rfl rfl rfl ?_);simp [vl, NetD.cells, VarD.cells, hlt, hlt', hx, w1])
 |(refine Split.by2 (fun h=>?_) (fun h=>?_)<;>(simp [h, vl, NetD.cells, VarD.cells, hlt, hlt', hx, w1]))
 |(apply hK;clear hK K)|refine AWh ‹_› ?_)
              all_goals (try clear hv1 hv2 hv3)
              all_goals first
                | exact r1q (cE (by rw [← hF, if_pos (hvv.2 (by omega))]; rfl) rfl)
                | (refine ⟨by rw [← hF, if_neg (fun h => by have := hvv.1 h; omega)], ?_⟩; apply Weak.mk' <;> simp [vl, NetD.cells])
                | (exfalso; omega)
          · intro hF
            rw [hE0] at hF
            subst hF
            clear hEc hEn hE0
            repeat' (first
 |refine aK fun K hK=>?_|refine Step.by1 ?_|refine sE (by decide) ?_|refine cz rfl ?_|refine Fork.by2 (fun h=>?_) fun h=>?_
 |(refine aR ?_;simp [vl, NetD.cells])
 |(refine Split.by2 (fun h=>?_) (fun h=>?_)<;>(simp [h, vl, NetD.cells]))
 |(apply hK;clear hK K)|refine AWh ‹_› ?_)
            refine aL [1, 6] (fun i : Nat => [(7, .int .i64 i)]) (fun _ => [.var n.cells, .row 30 0 0 true [[.int .i64 122], [.int .i64 123], [.int .i64 12], [.int .i64 7], [.int .i64 121]]])
              (fun i => i ≤ 5 ∧ firstE ([if v1 = true then 122 else 0, if v2 = true then 123 else 0, if v3 = true then 12 else 0, if v4 = true then 7 else 0, if v5 = true then 121 else 0].drop i) = Y) (fun i => 5 - i) 0 ⟨Nat.zero_le _, hY⟩ (by apply Weak.mk' <;> simp [vl, NetD.cells]) (fun _ _ => rfl) ?_
            clear hY
            rintro i ⟨hi, hF⟩
            rcases i with _ | _ | _ | _ | _ | _ | i
            · rw [show [if v1 = true then (122 : Int) else 0, if v2 = true then 123 else 0, if v3 = true then 12 else 0, if v4 = true then 7 else 0, if v5 = true then 121 else 0].drop 0 = (if v1 = true then 122 else 0) :: [if v1 = true then (122 : Int) else 0, if v2 = true then 123 else 0, if v3 = true then 12 else 0, if v4 = true then 7 else 0, if v5 = true then 121 else 0].drop 1 from rfl, fC] at hF
              cases v1
              · rw [if_neg (by simp)] at hF
                repeat' (first
 |refine aK fun K hK=>?_|refine Step.by1 ?_|refine sE (by decide) ?_|refine cz rfl ?_|refine Fork.by2 (fun h=>?_) fun h=>?_
 |((first|refine aR ?_|refine aX (id:=22) 6 mixed (by decide) ?_|refine aP1 (f:=140) rfl rfl (hW122) rfl rfl rfl ?_);simp [vl, NetD.cells, wI];try (simp (disch:=omega) only [wI];try simp [vl, NetD.cells, wI]))
 |(refine Split.by2 (fun h=>?_) (fun h=>?_)<;>(simp [h, vl, NetD.cells, wI];try (simp (disch:=omega) only [wI];try simp [vl, NetD.cells, wI])))
 |(apply hK;clear hK K)|refine AWh ‹_› ?_)
                refine ⟨1, ⟨by omega, hF⟩, by omega, ?_⟩; apply Weak.mk' <;> simp [vl, NetD.cells]
              · rw [if_pos (by simp)] at hF
                repeat' (first
 |refine aK fun K hK=>?_|refine Step.by1 ?_|refine sE (by decide) ?_|refine cz rfl ?_|refine Fork.by2 (fun h=>?_) fun h=>?_
 |((first|refine aR ?_|refine aX (id:=22) 6 mixed (by decide) ?_|refine aP1 (f:=140) rfl rfl (hW122) rfl rfl rfl ?_);simp [vl, NetD.cells, wI];try (simp (disch:=omega) only [wI];try simp [vl, NetD.cells, wI]))
 |(refine Split.by2 (fun h=>?_) (fun h=>?_)<;>(simp [h, vl, NetD.cells, wI];try (simp (disch:=omega) only [wI];try simp [vl, NetD.cells, wI])))
 |(apply hK;clear hK K)|refine AWh ‹_› ?_)
                exact r1q (cE (by rw [← hF]; rfl) rfl)
            · rw [show [if v1 = true then (122 : Int) else 0, if v2 = true then 123 else 0, if v3 = true then 12 else 0, if v4 = true then 7 else 0, if v5 = true then 121 else 0].drop 1 = (if v2 = true then 123 else 0) :: [if v1 = true then (122 : Int) else 0, if v2 = true then 123 else 0, if v3 = true then 12 else 0, if v4 = true then 7 else 0, if v5 = true then 121 else 0].drop 2 from rfl, fC] at hF
              cases v2
              · rw [if_neg (by simp)] at hF
                repeat' (first
 |refine aK fun K hK=>?_|refine Step.by1 ?_|refine sE (by decide) ?_|refine cz rfl ?_|refine Fork.by2 (fun h=>?_) fun h=>?_
 |((first|refine aR ?_|refine aX (id:=22) 6 mixed (by decide) ?_|refine aP1 (f:=140) rfl rfl (hW123) rfl rfl rfl ?_);simp [vl, NetD.cells, wI];try (simp (disch:=omega) only [wI];try simp [vl, NetD.cells, wI]))
 |(refine Split.by2 (fun h=>?_) (fun h=>?_)<;>(simp [h, vl, NetD.cells, wI];try (simp (disch:=omega) only [wI];try simp [vl, NetD.cells, wI])))
 |(apply hK;clear hK K)|refine AWh ‹_› ?_)
                refine ⟨2, ⟨by omega, hF⟩, by omega, ?_⟩; apply Weak.mk' <;> simp [vl, NetD.cells]
              · rw [if_pos (by simp)] at hF
                repeat' (first
 |refine aK fun K hK=>?_|refine Step.by1 ?_|refine sE (by decide) ?_|refine cz rfl ?_|refine Fork.by2 (fun h=>?_) fun h=>?_
 |((first|refine aR ?_|refine aX (id:=22) 6 mixed (by decide) ?_|refine aP1 (f:=140) rfl rfl (hW123) rfl rfl rfl ?_);simp [vl, NetD.cells, wI];try (simp (disch:=omega) only [wI];try simp [vl, NetD.cells, wI]))
 |(refine Split.by2 (fun h=>?_) (fun h=>?_)<;>(simp [h, vl, NetD.cells, wI];try (simp (disch:=omega) only [wI];try simp [vl, NetD.cells, wI])))
 |(apply hK;clear hK K)|refine AWh ‹_› ?_)
                exact r1q (cE (by rw [← hF]; rfl) rfl)
            · rw [show [if v1 = true then (122 : Int) else 0, if v2 = true then 123 else 0, if v3 = true then 12 else 0, if v4 = true then 7 else 0, if v5 = true then 121 else 0].drop 2 = (if v3 = true then 12 else 0) :: [if v1 = true then (122 : Int) else 0, if v2 = true then 123 else 0, if v3 = true then 12 else 0, if v4 = true then 7 else 0, if v5 = true then 121 else 0].drop 3 from rfl, fC] at hF
              cases v3
              · rw [if_neg (by simp)] at hF
                repeat' (first
 |refine aK fun K hK=>?_|refine Step.by1 ?_|refine sE (by decide) ?_|refine cz rfl ?_|refine Fork.by2 (fun h=>?_) fun h=>?_
 |((first|refine aR ?_|refine aX (id:=22) 6 mixed (by decide) ?_|refine aP1 (f:=140) rfl rfl (hW12) rfl rfl rfl ?_);simp [vl, NetD.cells, wI];try (simp (disch:=omega) only [wI];try simp [vl, NetD.cells, wI]))
 |(refine Split.by2 (fun h=>?_) (fun h=>?_)<;>(simp [h, vl, NetD.cells, wI];try (simp (disch:=omega) only [wI];try simp [vl, NetD.cells, wI])))
 |(apply hK;clear hK K)|refine AWh ‹_› ?_)
                refine ⟨3, ⟨by omega, hF⟩, by omega, ?_⟩; apply Weak.mk' <;> simp [vl, NetD.cells]
              · rw [if_pos (by simp)] at hF
                repeat' (first
 |refine aK fun K hK=>?_|refine Step.by1 ?_|refine sE (by decide) ?_|refine cz rfl ?_|refine Fork.by2 (fun h=>?_) fun h=>?_
 |((first|refine aR ?_|refine aX (id:=22) 6 mixed (by decide) ?_|refine aP1 (f:=140) rfl rfl (hW12) rfl rfl rfl ?_);simp [vl, NetD.cells, wI];try (simp (disch:=omega) only [wI];try simp [vl, NetD.cells, wI]))
 |(refine Split.by2 (fun h=>?_) (fun h=>?_)<;>(simp [h, vl, NetD.cells, wI];try (simp (disch:=omega) only [wI];try simp [vl, NetD.cells, wI])))
 |(apply hK;clear hK K)|refine AWh ‹_› ?_)
                exact r1q (cE (by rw [← hF]; rfl) rfl)
            · rw [show [if v1 = true then (122 : Int) else 0, if v2 = true then 123 else 0, if v3 = true then 12 else 0, if v4 = true then 7 else 0, if v5 = true then 121 else 0].drop 3 = (if v4 = true then 7 else 0) :: [if v1 = true then (122 : Int) else 0, if v2 = true then 123 else 0, if v3 = true then 12 else 0, if v4 = true then 7 else 0, if v5 = true then 121 else 0].drop 4 from rfl, fC] at hF
              cases v4
              · rw [if_neg (by simp)] at hF
                repeat' (first
 |refine aK fun K hK=>?_|refine Step.by1 ?_|refine sE (by decide) ?_|refine cz rfl ?_|refine Fork.by2 (fun h=>?_) fun h=>?_
 |((first|refine aR ?_|refine aX (id:=22) 6 mixed (by decide) ?_|refine aP1 (f:=140) rfl rfl (hW7) rfl rfl rfl ?_);simp [vl, NetD.cells, wI];try (simp (disch:=omega) only [wI];try simp [vl, NetD.cells, wI]))
 |(refine Split.by2 (fun h=>?_) (fun h=>?_)<;>(simp [h, vl, NetD.cells, wI];try (simp (disch:=omega) only [wI];try simp [vl, NetD.cells, wI])))
 |(apply hK;clear hK K)|refine AWh ‹_› ?_)
                refine ⟨4, ⟨by omega, hF⟩, by omega, ?_⟩; apply Weak.mk' <;> simp [vl, NetD.cells]
              · rw [if_pos (by simp)] at hF
                repeat' (first
 |refine aK fun K hK=>?_|refine Step.by1 ?_|refine sE (by decide) ?_|refine cz rfl ?_|refine Fork.by2 (fun h=>?_) fun h=>?_
 |((first|refine aR ?_|refine aX (id:=22) 6 mixed (by decide) ?_|refine aP1 (f:=140) rfl rfl (hW7) rfl rfl rfl ?_);simp [vl, NetD.cells, wI];try (simp (disch:=omega) only [wI];try simp [vl, NetD.cells, wI]))
 |(refine Split.by2 (fun h=>?_) (fun h=>?_)<;>(simp [h, vl, NetD.cells, wI];try (simp (disch:=omega) only [wI];try simp [vl, NetD.cells, wI])))
 |(apply hK;clear hK K)|refine AWh ‹_› ?_)
                exact r1q (cE (by rw [← hF]; rfl) rfl)
            · rw [show [if v1 = true then (122 : Int) else 0, if v2 = true then 123 else 0, if v3 = true then 12 else 0, if v4 = true then 7 else 0, if v5 = true then 121 else 0].drop 4 = (if v5 = true then 121 else 0) :: [if v1 = true then (122 : Int) else 0, if v2 = true then 123 else 0, if v3 = true then 12 else 0, if v4 = true then 7 else 0, if v5 = true then 121 else 0].drop 5 from rfl, fC] at hF
              cases v5
              · rw [if_neg (by simp)] at hF
                repeat' (first
 |refine aK fun K hK=>?_|refine Step.by1 ?_|refine sE (by decide) ?_|refine cz rfl ?_|refine Fork.by2 (fun h=>?_) fun h=>?_
 |((first|refine aR ?_|refine aX (id:=22) 6 mixed (by decide) ?_|refine aP1 (f:=140) rfl rfl (hW121) rfl rfl rfl ?_);simp [vl, NetD.cells, wI];try (simp (disch:=omega) only [wI];try simp [vl, NetD.cells, wI]))
 |(refine Split.by2 (fun h=>?_) (fun h=>?_)<;>(simp [h, vl, NetD.cells, wI];try (simp (disch:=omega) only [wI];try simp [vl, NetD.cells, wI])))
 |(apply hK;clear hK K)|refine AWh ‹_› ?_)
                refine ⟨5, ⟨by omega, hF⟩, by omega, ?_⟩; apply Weak.mk' <;> simp [vl, NetD.cells]
              · rw [if_pos (by simp)] at hF
                repeat' (first
 |refine aK fun K hK=>?_|refine Step.by1 ?_|refine sE (by decide) ?_|refine cz rfl ?_|refine Fork.by2 (fun h=>?_) fun h=>?_
 |((first|refine aR ?_|refine aX (id:=22) 6 mixed (by decide) ?_|refine aP1 (f:=140) rfl rfl (hW121) rfl rfl rfl ?_);simp [vl, NetD.cells, wI];try (simp (disch:=omega) only [wI];try simp [vl, NetD.cells, wI]))
 |(refine Split.by2 (fun h=>?_) (fun h=>?_)<;>(simp [h, vl, NetD.cells, wI];try (simp (disch:=omega) only [wI];try simp [vl, NetD.cells, wI])))
 |(apply hK;clear hK K)|refine AWh ‹_› ?_)
                exact r1q (cE (by rw [← hF]; rfl) rfl)
            · repeat' (first
 |refine aK fun K hK=>?_|refine Step.by1 ?_|refine sE (by decide) ?_|refine cz rfl ?_|refine Fork.by2 (fun h=>?_) fun h=>?_
 |(refine aR ?_;simp [vl, NetD.cells])
 |(refine Split.by2 (fun h=>?_) (fun h=>?_)<;>(simp [h, vl, NetD.cells]))
 |(apply hK;clear hK K)|refine AWh ‹_› ?_)
              exact r1q (cE (by rw [← hF]; rfl) rfl)
            · omega
        · rw [if_pos (by simp)] at hX
          repeat' (first
 |refine aK fun K hK=>?_|refine Step.by1 ?_|refine sE (by decide) ?_|refine cz rfl ?_|refine Fork.by2 (fun h=>?_) fun h=>?_
 |((first|refine aR ?_|refine aC (f:=137) rfl rfl (hL) rfl rfl rfl ?_|refine aC (f:=138) rfl rfl (hM) rfl rfl rfl ?_);simp [vl, NetD.cells])
 |(refine Split.by2 (fun h=>?_) (fun h=>?_)<;>(simp [h, vl, NetD.cells]))
 |(apply hK;clear hK K)|refine AWh ‹_› ?_)
          exact r1q (cE (by rw [← hX]; rfl) rfl)
      · rw [if_pos (by simp)] at hX
        repeat' (first
 |refine aK fun K hK=>?_|refine Step.by1 ?_|refine sE (by decide) ?_|refine cz rfl ?_|refine Fork.by2 (fun h=>?_) fun h=>?_
 |((first|refine aR ?_|refine aC (f:=137) rfl rfl (hL) rfl rfl rfl ?_);simp [vl, NetD.cells])
 |(refine Split.by2 (fun h=>?_) (fun h=>?_)<;>(simp [h, vl, NetD.cells]))
 |(apply hK;clear hK K)|refine AWh ‹_› ?_)
        exact r1q (cE (by rw [← hX]; rfl) rfl)
def edG (x : EdgeD) : Int := if greatE x.guards ≠ 0 then greatE x.guards else greatSE x.sets
def whereE (n : NetD) : (Int × Int × Int) × Int :=
  if wholeE n ≠ 0 then ((0, 0, 0), wholeE n)
  else if (searchE (fun l => diagE l.inv) (fun x => diagE x.guards) n.autos 0).2 ≠ 0 then searchE (fun l => diagE l.inv) (fun x => diagE x.guards) n.autos 0
  else searchE (fun l => greatE l.inv) edG n.autos 0
def netE (n : NetD) : Int := (whereE n).2
theorem c_Where1 (x : LocD) (hx : x.ok) : PC 60 [.agg x.cells] (.int .i64 (diagE x.inv)) := by
  have hc := c_diagE x.inv (by have := hx.2.2.1; omega)
  simp only [vl] at hc
  refine pB Tryz.func60 rfl (by decide) Tryz.ntmps60 (by simp) Tryz.results60 ?_
  repeat' (first
 |refine aK fun K hK=>?_|refine Step.by1 ?_|refine sE (by decide) ?_|refine cz rfl ?_|refine Fork.by2 (fun h=>?_) fun h=>?_
 |((first|refine aR ?_|refine aC (f:=61) rfl rfl (hc) rfl rfl rfl ?_);simp [vl, LocD.cells])
 |(refine Split.by2 (fun h=>?_) (fun h=>?_)<;>(simp [h, vl, LocD.cells]))
 |(apply hK;clear hK K)|refine AWh ‹_› ?_)
  exact r1q (cE rfl rfl)
theorem c_Where2 (x : EdgeD) (hx : x.ok) : PC 62 [.agg x.cells] (.int .i64 (diagE x.guards)) := by
  have hc := c_diagE x.guards (by have := hx.2.2.1.1; omega)
  simp only [vl] at hc
  refine pB Tryz.func62 rfl (by decide) Tryz.ntmps62 (by simp) Tryz.results62 ?_
  repeat' (first
 |refine aK fun K hK=>?_|refine Step.by1 ?_|refine sE (by decide) ?_|refine cz rfl ?_|refine Fork.by2 (fun h=>?_) fun h=>?_
 |((first|refine aR ?_|refine aC (f:=61) rfl rfl (hc) rfl rfl rfl ?_);simp [vl, EdgeD.cells])
 |(refine Split.by2 (fun h=>?_) (fun h=>?_)<;>(simp [h, vl, EdgeD.cells]))
 |(apply hK;clear hK K)|refine AWh ‹_› ?_)
  exact r1q (cE rfl rfl)
theorem c_Where3 (x : LocD) (hx : x.ok) : PC 63 [.agg x.cells] (.int .i64 (greatE x.inv)) := by
  have hc := c_greatE x.inv (by have := hx.2.2.1; omega)
  simp only [vl] at hc
  refine pB Tryz.func63 rfl (by decide) Tryz.ntmps63 (by simp) Tryz.results63 ?_
  repeat' (first
 |refine aK fun K hK=>?_|refine Step.by1 ?_|refine sE (by decide) ?_|refine cz rfl ?_|refine Fork.by2 (fun h=>?_) fun h=>?_
 |((first|refine aR ?_|refine aC (f:=64) rfl rfl (hc) rfl rfl rfl ?_);simp [vl, LocD.cells])
 |(refine Split.by2 (fun h=>?_) (fun h=>?_)<;>(simp [h, vl, LocD.cells]))
 |(apply hK;clear hK K)|refine AWh ‹_› ?_)
  exact r1q (cE rfl rfl)
theorem c_Where4 (x : EdgeD) (hx : x.ok) : PC 65 [.agg x.cells] (.int .i64 (edG x)) := by
  have hc := c_greatE x.guards (by have := hx.2.2.1.1; omega)
  have hc2 := c_greatSE x.sets (by have := hx.2.2.2.2.2.2.1; omega)
  obtain ⟨r, hr⟩ : ∃ r, edG x = r := ⟨_, rfl⟩
  rw [hr]
  unfold edG at hr
  simp only [vl] at hc hc2
  generalize greatE x.guards = k1 at *
  generalize greatSE x.sets = k2 at *
  refine pB Tryz.func65 rfl (by decide) Tryz.ntmps65 (by simp) Tryz.results65 ?_
  by_cases hz : k1 = 0
  · rw [if_neg (by simp [hz])] at hr
    rw [hz] at hc
    repeat' (first
 |refine aK fun K hK=>?_|refine Step.by1 ?_|refine sE (by decide) ?_|refine cz rfl ?_|refine Fork.by2 (fun h=>?_) fun h=>?_
 |((first|refine aR ?_|refine aC (f:=64) rfl rfl (hc) rfl rfl rfl ?_|refine aC (f:=66) rfl rfl (hc2) rfl rfl rfl ?_);simp [vl, EdgeD.cells])
 |(refine Split.by2 (fun h=>?_) (fun h=>?_)<;>(simp [h, vl, EdgeD.cells]))
 |(apply hK;clear hK K)|refine AWh ‹_› ?_)
    exact r1q (cE (by rw [← hr]; rfl) rfl)
  · rw [if_pos hz] at hr
    repeat' (first
 |refine aK fun K hK=>?_|refine Step.by1 ?_|refine sE (by decide) ?_|refine cz rfl ?_|refine Fork.by2 (fun h=>?_) fun h=>?_
 |((first|refine aR ?_|refine aC (f:=64) rfl rfl (hc) rfl rfl rfl ?_);simp [vl, EdgeD.cells, hz])
 |(refine Split.by2 (fun h=>?_) (fun h=>?_)<;>(simp [h, vl, EdgeD.cells, hz]))
 |(apply hK;clear hK K)|refine AWh ‹_› ?_)
    exact r1q (cE (by rw [← hr]; rfl) rfl)
set_option maxRecDepth 20000 in
set_option maxHeartbeats 8000000 in
theorem c_Where (n : NetD) (hn : n.ok) : PC 12 [.agg n.cells] (spotE (whereE n)) := by
  have hW := c_Whole n hn
  have hS := c_search n hn 60 62 (fun l => diagE l.inv) (fun x => diagE x.guards) (fun a ha x hx => c_Where1 x ((hn.2.2.2.2 a ha).2.1.2 x hx)) (fun a ha x hx => c_Where2 x ((hn.2.2.2.2 a ha).2.2.2 x hx))
  have hT := c_search n hn 63 65 (fun l => greatE l.inv) edG (fun a ha x hx => c_Where3 x ((hn.2.2.2.2 a ha).2.1.2 x hx)) (fun a ha x hx => c_Where4 x ((hn.2.2.2.2 a ha).2.2.2 x hx))
  obtain ⟨r, hr⟩ : ∃ r, whereE n = r := ⟨_, rfl⟩
  rw [hr]
  unfold whereE at hr
  generalize wholeE n = w at *
  generalize searchE (fun l => diagE l.inv) (fun x => diagE x.guards) n.autos 0 = s at *
  generalize searchE (fun l => greatE l.inv) edG n.autos 0 = t at *
  obtain ⟨⟨s1, s2, s3⟩, s4⟩ := s
  obtain ⟨⟨t1, t2, t3⟩, t4⟩ := t
  simp only [vl, NetD.cells, spotE, spotV] at hW hS hT
  simp only at hr
  refine pB Tryz.func12 rfl (by decide) Tryz.ntmps12 (by simp) Tryz.results12 ?_
  by_cases hw : w = 0
  · subst hw
    rw [if_neg (by simp)] at hr
    by_cases hs : s4 = 0
    · subst hs
      rw [if_neg (by simp)] at hr
      subst hr
      repeat' (first
 |refine aK fun K hK=>?_|refine Step.by1 ?_|refine sE (by decide) ?_|refine cz rfl ?_|refine Fork.by2 (fun h=>?_) fun h=>?_
 |((first|refine aR ?_|refine aC (f:=58) rfl rfl (hW) rfl rfl rfl ?_|refine aC (f:=59) rfl rfl (hS) rfl rfl rfl ?_|refine aC (f:=59) rfl rfl (hT) rfl rfl rfl ?_);simp [vl, NetD.cells])
 |(refine Split.by2 (fun h=>?_) (fun h=>?_)<;>(simp [h, vl, NetD.cells]))
 |(apply hK;clear hK K)|refine AWh ‹_› ?_)
      exact retq2ct rfl (by simp) (cE (by simp [spotE, spotV]) (by simp))
    · rw [if_pos hs] at hr
      subst hr
      repeat' (first
 |refine aK fun K hK=>?_|refine Step.by1 ?_|refine sE (by decide) ?_|refine cz rfl ?_|refine Fork.by2 (fun h=>?_) fun h=>?_
 |((first|refine aR ?_|refine aC (f:=58) rfl rfl (hW) rfl rfl rfl ?_|refine aC (f:=59) rfl rfl (hS) rfl rfl rfl ?_);simp [vl, NetD.cells, hs])
 |(refine Split.by2 (fun h=>?_) (fun h=>?_)<;>(simp [h, vl, NetD.cells, hs]))
 |(apply hK;clear hK K)|refine AWh ‹_› ?_)
      exact retq2ct rfl (by simp) (cE (by simp [spotE, spotV]) (by simp))
  · rw [if_pos hw] at hr
    subst hr
    repeat' (first
 |refine aK fun K hK=>?_|refine Step.by1 ?_|refine sE (by decide) ?_|refine cz rfl ?_|refine Fork.by2 (fun h=>?_) fun h=>?_
 |((first|refine aR ?_|refine aC (f:=58) rfl rfl (hW) rfl rfl rfl ?_);simp [vl, NetD.cells, hw])
 |(refine Split.by2 (fun h=>?_) (fun h=>?_)<;>(simp [h, vl, NetD.cells, hw]))
 |(apply hK;clear hK K)|refine AWh ‹_› ?_)
    exact retq2ct rfl (by simp) (cE (by simp [spotE, spotV]) (by simp))
theorem c_Net (n : NetD) (hn : n.ok) : PC 15 [.agg n.cells] (.int .i64 (netE n)) := by
  have hW := c_Where n hn
  unfold netE
  generalize whereE n = s at *
  obtain ⟨⟨s1, s2, s3⟩, s4⟩ := s
  simp only [vl, NetD.cells, spotE, spotV] at hW
  refine pB Tryz.func15 rfl (by decide) Tryz.ntmps15 (by simp) Tryz.results15 ?_
  repeat' (first
 |refine aK fun K hK=>?_|refine Step.by1 ?_|refine sE (by decide) ?_|refine cz rfl ?_|refine Fork.by2 (fun h=>?_) fun h=>?_
 |((first|refine aR ?_|refine aC (f:=12) rfl rfl (hW) rfl rfl rfl ?_);simp [vl, NetD.cells])
 |(refine Split.by2 (fun h=>?_) (fun h=>?_)<;>(simp [h, vl, NetD.cells]))
 |(apply hK;clear hK K)|refine AWh ‹_› ?_)
  exact r1q (cE rfl rfl)
theorem leaves_drop {h x : List B} : Go.AM.Leaves h (h ++ x) h := ⟨Nat.le_refl _, by simp, fun b y hy => .inr ⟨by
  rw [List.getElem?_append_left (List.getElem?_eq_some_iff.1 hy).1]; exact hy, .inl hy⟩⟩
def raise1 (so : Int → Bool) (o : List Int) (g : GuardD) : List Int :=
  if so g.cmp = true then o.set (g.clock - 1).toNat (if g.n > o.getD (g.clock - 1).toNat 0 then g.n else o.getD (g.clock - 1).toNat 0) else o
def raiseL (so : Int → Bool) (l : List GuardD) (o : List Int) : List Int := l.foldl (raise1 so) o
theorem raiseL_nil {so : Int → Bool} {o : List Int} : raiseL so [] o = o := rfl
theorem raiseL_cons {so : Int → Bool} {g : GuardD} {l : List GuardD} {o : List Int} : raiseL so (g :: l) o = raiseL so l (raise1 so o g) := rfl
theorem raise1_len {so : Int → Bool} {g : GuardD} {o : List Int} : (raise1 so o g).length = o.length := by unfold raise1; split <;> simp
theorem raiseL_len {so : Int → Bool} : ∀ {l : List GuardD} {o : List Int}, (raiseL so l o).length = o.length
  | [], o => rfl
  | g :: l, o => by rw [raiseL_cons, raiseL_len, raise1_len]
/-- A guard that is of the clocks. -/
def okG (N : Nat) (g : GuardD) : Prop := 1 ≤ g.clock ∧ g.clock ≤ N
theorem retg2c {P : Program} {st : St} {t u : Nat} {T : TypeId} {cs : List V} {off : Nat} {Q : V → List B → Prop} {h0 h' : List B} (hp : place st.h (lk st.tm t) = some (cs, off)) (ho : loadOk P T cs off) (hq : Q (.tup [loadV P T cs off, lk st.tm u]) h')
    (hv : (V.tup [loadV P T cs off, lk st.tm u]).lt h'.length = true) (hl : Go.AM.Leaves h0 st.h h') : RetG P #[.cell t T, .tmp u] Q h0 .ret st :=
  ⟨.inr rfl, _, h', ⟨[loadV P T cs off, lk st.tm u], rfl, ⟨cs, off, hp, ho, rfl⟩, rfl, trivial⟩, hq, hv, hl⟩
theorem raiseL_append {so : Int → Bool} {l l' : List GuardD} {o : List Int} : raiseL so (l ++ l') o = raiseL so l' (raiseL so l o) := by simp [raiseL]
end Go.Proofs.YtgmlimipejcpgaaGreatDoor
end
