/-
  YtgmlimipejcpgaaGreatDoorPart13: steps of the proof of a law of the program: what these texts prove holds under the hypotheses that their theorems name, and no others.
-/
import Derived.Test.YtgmlimipejcpgaaGreatDoorPart12
import Derived.Test.YtgmlimipejcpgaaGreatDoorPart11
import Derived.Test.YtgmlimipejcpgaaGreatDoorPart08
import Derived.Test.YtgmlimipejcpgaaGreatDoorPart07
section
set_option linter.unusedVariables false
set_option linter.unusedSimpArgs false
namespace Go.Proofs.YtgmlimipejcpgaaGreatDoor
open Go Go.AM Fx
set_option maxRecDepth 20000 in
set_option maxHeartbeats 16000000 in
theorem r_wrong (n : NetD) (way : Int) (hn : n.ok) : PC 140 [.agg n.cells, .int .i64 way] (.bool (wrongB n way)) := by
  obtain ⟨_, _, _, h4, h5⟩ := hn
  refine PCall_body Tryz.func140 rfl (by decide) Tryz.ntmps140 (by simp) Tryz.results140 ?_
  repeat' (first
 |refine AW_seq_k fun K hK=>?_|refine Step.by1 ?_|refine SBlock_exit_ne (by decide) ?_|refine cz rfl ?_|refine Fork.by2 (fun h=>?_) fun h=>?_
 |(refine AW_region_AO ?_;simp [vl, NetD.cells])
 |(refine Split.by2 (fun h=>?_) (fun h=>?_)<;>(simp [h, vl, NetD.cells]))
 |(apply hK;clear hK K)|refine AWh (by assumption) ?_)
  refine AW_scan (r := wrongB n way) n.autos 5 [1, 2] (anyL (wrongA n way)) rfl (by apply Weak.mk' <;> simp [vl, NetD.cells]) ?_ ?_
  · intro i a _ hlt ha hF
    have hoa := h5 a (ha ▸ List.getElem_mem hlt)
    obtain ⟨_, ⟨hl1, hl2⟩, he1, he2⟩ := hoa
    rw [anyL_cons] at hF
    have hw : wrongA n way a = (anyL (locW n way) a.locs || anyL (edW n a way) a.edges) := rfl
    rw [hw] at hF
    have hlt' : (i : Int) < n.autos.length := by omega
    have w0 : IntKind.i64.wrap ((i : Int) + 1) = i + 1 := wrap_i64 (by omega) (by omega)
    repeat' (first
 |refine AW_seq_k fun K hK=>?_|refine Step.by1 ?_|refine SBlock_exit_ne (by decide) ?_|refine cz rfl ?_|refine Fork.by2 (fun h=>?_) fun h=>?_
 |(refine AW_region_AO ?_;simp [vl, NetD.cells, AutoD.cells, hlt, hlt', ha])
 |(refine Split.by2 (fun h=>?_) (fun h=>?_)<;>(simp [h, vl, NetD.cells, AutoD.cells, hlt, hlt', ha]))
 |(apply hK;clear hK K)|refine AWh (by assumption) ?_)
    refine AW_scan (r := anyL (locW n way) a.locs) a.locs 7 [1, 2, 5, 6] (anyL (locW n way)) rfl (by apply Weak.mk' <;> simp [vl, NetD.cells, AutoD.cells]) ?_ ?_
    · intro k x _ hkt hx hG
      rw [anyL_cons] at hG
      have hox := hl2 x (hx ▸ List.getElem_mem hkt)
      have hc := r_guards n x.inv way (by have := hox.2.2.1; omega)
      have hlw : locW n way x = (decide (way = 122) && decide (2 < x.kind) || anyL (wayG n way) x.inv) := rfl
      have hkt' : (k : Int) < a.locs.length := by omega
      have w1 : IntKind.i64.wrap ((k : Int) + 1) = k + 1 := wrap_i64 (by omega) (by omega)
      simp only [NetD.cells, vl] at hc
      generalize anyL (wayG n way) x.inv = kb at *
      by_cases h122 : way = 122
      · subst h122
        repeat' (first
 |refine AW_seq_k fun K hK=>?_|refine Step.by1 ?_|refine SBlock_exit_ne (by decide) ?_|refine cz rfl ?_|refine Fork.by2 (fun h=>?_) fun h=>?_
 |((first|refine AW_region_AO ?_|refine AW_region_APx (id:=8) 22 mixed (by decide) ?_|refine AP_call1 (f:=153) rfl rfl (hc) rfl rfl rfl ?_|refine AS_call1 (f:=153) rfl rfl (hc) rfl rfl rfl ?_);simp [vl, NetD.cells, AutoD.cells, LocD.cells, hkt, hkt', hx, w1])
 |(refine Split.by2 (fun h=>?_) (fun h=>?_)<;>(simp [h, vl, NetD.cells, AutoD.cells, LocD.cells, hkt, hkt', hx, w1]))
 |(apply hK;clear hK K)|refine AWh (by assumption) ?_)
        all_goals (try clear hc)
        all_goals first
          | exact retq1 (conv_eq (by rw [← hF, ← hG, hlw]; simp [*]; done) rfl)
          | (refine ⟨by rw [← hG, hlw]; simp [*]; done, ?_⟩; apply Weak.mk' <;> simp [vl, NetD.cells, AutoD.cells])
          | trace_state
      · repeat' (first
 |refine AW_seq_k fun K hK=>?_|refine Step.by1 ?_|refine SBlock_exit_ne (by decide) ?_|refine cz rfl ?_|refine Fork.by2 (fun h=>?_) fun h=>?_
 |((first|refine AW_region_AO ?_|refine AW_region_APx (id:=8) 22 mixed (by decide) ?_|refine AP_call1 (f:=153) rfl rfl (hc) rfl rfl rfl ?_|refine AS_call1 (f:=153) rfl rfl (hc) rfl rfl rfl ?_);simp [vl, NetD.cells, AutoD.cells, LocD.cells, hkt, hkt', hx, w1, h122])
 |(refine Split.by2 (fun h=>?_) (fun h=>?_)<;>(simp [h, vl, NetD.cells, AutoD.cells, LocD.cells, hkt, hkt', hx, w1, h122]))
 |(apply hK;clear hK K)|refine AWh (by assumption) ?_)
        all_goals (try clear hc)
        all_goals first
          | exact retq1 (conv_eq (by rw [← hF, ← hG, hlw]; simp [*]; done) rfl)
          | (refine ⟨by rw [← hG, hlw]; simp [*]; done, ?_⟩; apply Weak.mk' <;> simp [vl, NetD.cells, AutoD.cells])
          | trace_state
    · intro hG
      rw [← hG, anyL_nil, Bool.false_or] at hF
      repeat' (first
 |refine AW_seq_k fun K hK=>?_|refine Step.by1 ?_|refine SBlock_exit_ne (by decide) ?_|refine cz rfl ?_|refine Fork.by2 (fun h=>?_) fun h=>?_
 |(refine AW_region_AO ?_;simp [vl, NetD.cells, AutoD.cells])
 |(refine Split.by2 (fun h=>?_) (fun h=>?_)<;>(simp [h, vl, NetD.cells, AutoD.cells]))
 |(apply hK;clear hK K)|refine AWh (by assumption) ?_)
      refine AW_scan (r := anyL (edW n a way) a.edges) a.edges 8 [1, 2, 5, 6] (anyL (edW n a way)) rfl (by apply Weak.mk' <;> simp [vl, NetD.cells, AutoD.cells]) ?_ ?_
      · intro m y _ hmt hy hM
        rw [anyL_cons] at hM
        have hoy := he2 y (hy ▸ List.getElem_mem hmt)
        have hc := r_guards n y.guards way (by have := hoy.2.2.1.1; omega)
        have hc2 := r_edge n a y way hoy
        have hew : edW n a way y = (anyL (wayG n way) y.guards || edgeW n a way y) := rfl
        have hmt' : (m : Int) < a.edges.length := by omega
        have w1 : IntKind.i64.wrap ((m : Int) + 1) = m + 1 := wrap_i64 (by omega) (by omega)
        simp only [NetD.cells, AutoD.cells, EdgeD.cells, vl] at hc hc2
        generalize anyL (wayG n way) y.guards = kb at *
        generalize edgeW n a way y = kc at *
        repeat' (first
 |refine AW_seq_k fun K hK=>?_|refine Step.by1 ?_|refine SBlock_exit_ne (by decide) ?_|refine cz rfl ?_|refine Fork.by2 (fun h=>?_) fun h=>?_
 |((first|refine AW_region_AO ?_|refine AW_region_APx (id:=13) 20 mixed (by decide) ?_|refine AP_call1 (f:=153) rfl rfl (hc) rfl rfl rfl ?_|refine AP_call1 (f:=198) rfl rfl (hc2) rfl rfl rfl ?_|refine AS_call1 (f:=153) rfl rfl (hc) rfl rfl rfl ?_);simp [vl, NetD.cells, AutoD.cells, EdgeD.cells, hmt, hmt', hy, w1])
 |(refine Split.by2 (fun h=>?_) (fun h=>?_)<;>(simp [h, vl, NetD.cells, AutoD.cells, EdgeD.cells, hmt, hmt', hy, w1]))
 |(apply hK;clear hK K)|refine AWh (by assumption) ?_)
        all_goals (try clear hc hc2)
        all_goals first
          | exact retq1 (conv_eq (by rw [← hF, ← hM, hew]; simp [*]; done) rfl)
          | (refine ⟨by rw [← hM, hew]; simp [*]; done, ?_⟩; apply Weak.mk' <;> simp [vl, NetD.cells, AutoD.cells])
          | trace_state
      · intro hM
        rw [← hM, anyL_nil, Bool.false_or] at hF
        repeat' (first
 |refine AW_seq_k fun K hK=>?_|refine Step.by1 ?_|refine SBlock_exit_ne (by decide) ?_|refine cz rfl ?_|refine Fork.by2 (fun h=>?_) fun h=>?_
 |(refine AW_region_AO ?_;simp [vl, NetD.cells, w0])
 |(refine Split.by2 (fun h=>?_) (fun h=>?_)<;>(simp [h, vl, NetD.cells, w0]))
 |(apply hK;clear hK K)|refine AWh (by assumption) ?_)
        refine ⟨hF, ?_⟩; apply Weak.mk' <;> simp [vl, NetD.cells]
  · intro hF
    repeat' (first
 |refine AW_seq_k fun K hK=>?_|refine Step.by1 ?_|refine SBlock_exit_ne (by decide) ?_|refine cz rfl ?_|refine Fork.by2 (fun h=>?_) fun h=>?_
 |(refine AW_region_AO ?_;simp [vl, NetD.cells])
 |(refine Split.by2 (fun h=>?_) (fun h=>?_)<;>(simp [h, vl, NetD.cells]))
 |(apply hK;clear hK K)|refine AWh (by assumption) ?_)
    exact retq1 (conv_eq (by rw [← hF]; rfl) rfl)
end Go.Proofs.YtgmlimipejcpgaaGreatDoor
end

section
set_option linter.unusedVariables false
set_option linter.unusedSimpArgs false
namespace Go.Proofs.YtgmlimipejcpgaaGreatDoor
open Go Go.AM Fx
set_option maxRecDepth 20000 in
set_option maxHeartbeats 16000000 in
theorem r_Whole (n : NetD) (hn : n.ok) : PC 67 [.agg n.cells] (.int .i64 (wholeE n)) := by
  have hL := r_long n hn
  have hM := r_wrongNames n hn
  have hW := fun way => r_wrong n way hn
  obtain ⟨r, hr⟩ : ∃ r, wholeE n = r := ⟨_, rfl⟩
  rw [hr]
  rw [wholeE_ref, firstE_cons] at hr
  have e0 : someE n = if n.autos.length = 0 ∨ anyL noLocs n.autos = true then 2 else 0 := rfl
  have e1 : sizesE n = if sizeNet n = true then 6 else 0 := rfl
  have e2 : namesE n = if namesB n = true then 112 else 0 := rfl
  have e3 : varE n.vars = if anyL varV n.vars = true then 124 else 0 := rfl
  have l1 := hn.2.2.2.1
  have l2 := hn.2.1.1
  obtain ⟨_, _, _, h4, h5⟩ := hn
  rw [e0, e1, e2, e3] at hr
  clear e0 e1 e2 e3
  generalize sizeNet n = b1 at *
  generalize namesB n = b2 at *
  have hW122 := hW 122
  have hW123 := hW 123
  have hW12 := hW 12
  have hW7 := hW 7
  have hW121 := hW 121
  clear hW
  generalize wrongB n 122 = v1 at *
  generalize wrongB n 123 = v2 at *
  generalize wrongB n 12 = v3 at *
  generalize wrongB n 7 = v4 at *
  generalize wrongB n 121 = v5 at *
  simp only [vl, NetD.cells] at hL hM hW122 hW123 hW12 hW7 hW121
  refine PCall_body Tryz.func67 rfl (by decide) Tryz.ntmps67 (by simp) Tryz.results67 ?_
  by_cases h0 : n.autos.length = 0
  · rw [if_pos (by simp [h0]), if_pos (.inl h0)] at hr
    repeat' (first
 |refine AW_seq_k fun K hK=>?_|refine Step.by1 ?_|refine SBlock_exit_ne (by decide) ?_|refine cz rfl ?_|refine Fork.by2 (fun h=>?_) fun h=>?_
 |(refine AW_region_AO ?_;simp [vl, NetD.cells, h0])
 |(refine Split.by2 (fun h=>?_) (fun h=>?_)<;>(simp [h, vl, NetD.cells, h0]))
 |(apply hK;clear hK K)|refine AWh (by assumption) ?_)
    exact retq1 (conv_eq (by rw [← hr]; rfl) rfl)
  · have h0' : ¬ (n.autos.length : Int) = 0 := by omega
    obtain ⟨X, hX⟩ : ∃ X, firstE [if b1 = true then 6 else 0, if b2 = true then 112 else 0, if anyL varV n.vars = true then 124 else 0, if v1 = true then 122 else 0, if v2 = true then 123 else 0, if v3 = true then 12 else 0, if v4 = true then 7 else 0, if v5 = true then 121 else 0] = X := ⟨_, rfl⟩
    rw [hX] at hr
    obtain ⟨E, hE⟩ : ∃ E : List AutoD → Int, E = fun l => if anyL noLocs l = true then 2 else X := ⟨_, rfl⟩
    have hEc : ∀ a l, E (a :: l) = if noLocs a = true then 2 else E l := fun a l => by subst hE; by_cases h : noLocs a = true <;> simp [anyL_cons, h]
    have hEn : E n.autos = r := by subst hE; rw [← hr]; by_cases h : anyL noLocs n.autos = true <;> simp [h, h0]
    have hE0 : E [] = X := by subst hE; rfl
    clear hr hE
    repeat' (first
 |refine AW_seq_k fun K hK=>?_|refine Step.by1 ?_|refine SBlock_exit_ne (by decide) ?_|refine cz rfl ?_|refine Fork.by2 (fun h=>?_) fun h=>?_
 |(refine AW_region_AO ?_;simp [vl, NetD.cells, h0, h0'])
 |(refine Split.by2 (fun h=>?_) (fun h=>?_)<;>(simp [h, vl, NetD.cells, h0, h0']))
 |(apply hK;clear hK K)|refine AWh (by assumption) ?_)
    refine AW_scan (r := r) n.autos 3 [1] E hEn (by apply Weak.mk' <;> simp [vl, NetD.cells]) ?_ ?_
    · intro i a _ hlt ha hF
      rw [hEc] at hF
      have hoa := h5 a (ha ▸ List.getElem_mem hlt)
      have hal : a.locs.length ≤ 1048576 := hoa.2.1.1
      have hlt' : (i : Int) < n.autos.length := by omega
      have w1 : IntKind.i64.wrap ((i : Int) + 1) = i + 1 := wrap_i64 (by omega) (by omega)
      have hnl : noLocs a = decide (a.locs.length = 0) := rfl
      by_cases hz : a.locs.length = 0
      · rw [if_pos (by rw [hnl]; simp [hz])] at hF
        repeat' (first
 |refine AW_seq_k fun K hK=>?_|refine Step.by1 ?_|refine SBlock_exit_ne (by decide) ?_|refine cz rfl ?_|refine Fork.by2 (fun h=>?_) fun h=>?_
 |(refine AW_region_AO ?_;simp [vl, NetD.cells, AutoD.cells, hlt, hlt', ha, hz])
 |(refine Split.by2 (fun h=>?_) (fun h=>?_)<;>(simp [h, vl, NetD.cells, AutoD.cells, hlt, hlt', ha, hz]))
 |(apply hK;clear hK K)|refine AWh (by assumption) ?_)
        exact retq1 (conv_eq (by rw [← hF]; rfl) rfl)
      · have hz' : ¬ (a.locs.length : Int) = 0 := by omega
        rw [if_neg (by rw [hnl]; simp [hz])] at hF
        repeat' (first
 |refine AW_seq_k fun K hK=>?_|refine Step.by1 ?_|refine SBlock_exit_ne (by decide) ?_|refine cz rfl ?_|refine Fork.by2 (fun h=>?_) fun h=>?_
 |(refine AW_region_AO ?_;simp [vl, NetD.cells, AutoD.cells, hlt, hlt', ha, hz, hz', w1])
 |(refine Split.by2 (fun h=>?_) (fun h=>?_)<;>(simp [h, vl, NetD.cells, AutoD.cells, hlt, hlt', ha, hz, hz', w1]))
 |(apply hK;clear hK K)|refine AWh (by assumption) ?_)
        refine ⟨hF, ?_⟩; apply Weak.mk' <;> simp [vl, NetD.cells]
    · intro hF
      rw [hE0] at hF
      subst hF
      rw [firstE_cons] at hX
      clear hEc hEn hE0
      cases b1
      · rw [if_neg (by simp)] at hX
        rw [firstE_cons] at hX
        cases b2
        · rw [if_neg (by simp)] at hX
          rw [firstE_cons] at hX
          obtain ⟨Y, hY⟩ : ∃ Y, firstE [if v1 = true then 122 else 0, if v2 = true then 123 else 0, if v3 = true then 12 else 0, if v4 = true then 7 else 0, if v5 = true then 121 else 0] = Y := ⟨_, rfl⟩
          rw [hY] at hX
          obtain ⟨E2, hE2⟩ : ∃ E : List VarD → Int, E = fun l => if anyL varV l = true then 124 else Y := ⟨_, rfl⟩
          have hEc : ∀ a l, E2 (a :: l) = if varV a = true then 124 else E2 l := fun a l => by subst hE2; by_cases h : varV a = true <;> simp [anyL_cons, h]
          have hEn : E2 n.vars = X := by subst hE2; rw [← hX]; by_cases h : anyL varV n.vars = true <;> simp [h]
          have hE0 : E2 [] = Y := by subst hE2; rfl
          clear hX hE2
          repeat' (first
 |refine AW_seq_k fun K hK=>?_|refine Step.by1 ?_|refine SBlock_exit_ne (by decide) ?_|refine cz rfl ?_|refine Fork.by2 (fun h=>?_) fun h=>?_
 |((first|refine AW_region_AO ?_|refine AS_call1 (f:=137) rfl rfl (hL) rfl rfl rfl ?_|refine AS_call1 (f:=138) rfl rfl (hM) rfl rfl rfl ?_);simp [vl, NetD.cells])
 |(refine Split.by2 (fun h=>?_) (fun h=>?_)<;>(simp [h, vl, NetD.cells]))
 |(apply hK;clear hK K)|refine AWh (by assumption) ?_)
          refine AW_scan (r := X) n.vars 4 [1] E2 hEn (by apply Weak.mk' <;> simp [vl, NetD.cells]) ?_ ?_
          · intro i x _ hlt hx hF
            rw [hEc] at hF
            have hlt' : (i : Int) < n.vars.length := by omega
            have w1 : IntKind.i64.wrap ((i : Int) + 1) = i + 1 := wrap_i64 (by omega) (by omega)
            obtain ⟨k1, q1, hv1⟩ : ∃ b, (b = true ↔ (-1048576 ≤ x.lo ∧ x.lo ≤ 1048576)) ∧ PC 139 [.int .i64 x.lo] (.bool b) := ⟨_, by simp, r_isValue x.lo⟩
            obtain ⟨k2, q2, hv2⟩ : ∃ b, (b = true ↔ (-1048576 ≤ x.init ∧ x.init ≤ 1048576)) ∧ PC 139 [.int .i64 x.init] (.bool b) := ⟨_, by simp, r_isValue x.init⟩
            obtain ⟨k3, q3, hv3⟩ : ∃ b, (b = true ↔ (-1048576 ≤ x.hi ∧ x.hi ≤ 1048576)) ∧ PC 139 [.int .i64 x.hi] (.bool b) := ⟨_, by simp, r_isValue x.hi⟩
            have hvv : varV x = true ↔ (x.init < x.lo ∨ x.hi < x.init ∨ x.lo < -1048576 ∨ 1048576 < x.hi) := by simp [varV]
            cases k1 <;> cases k2 <;> cases k3
            all_goals
              simp only [Bool.false_eq_true, false_iff, true_iff] at q1 q2 q3
              repeat' (first
 |refine AW_seq_k fun K hK=>?_|refine Step.by1 ?_|refine SBlock_exit_ne (by decide) ?_|refine cz rfl ?_|refine Fork.by2 (fun h=>?_) fun h=>?_
 |((first|refine AW_region_AO ?_|refine AS_call1 (f:=139) rfl rfl (hv1) rfl rfl rfl ?_|refine AS_call1 (f:=139) rfl rfl (hv2) rfl rfl rfl ?_|refine AS_call1 (f:=139) rfl rfl (hv3) rfl rfl rfl ?_);simp [vl, NetD.cells, VarD.cells, hlt, hlt', hx, w1])
 |(refine Split.by2 (fun h=>?_) (fun h=>?_)<;>(simp [h, vl, NetD.cells, VarD.cells, hlt, hlt', hx, w1]))
 |(apply hK;clear hK K)|refine AWh (by assumption) ?_)
              all_goals (try clear hv1 hv2 hv3)
              all_goals first
                | exact retq1 (conv_eq (by rw [← hF, if_pos (hvv.2 (by omega))]; rfl) rfl)
                | (refine ⟨by rw [← hF, if_neg (fun h => by have := hvv.1 h; omega)], ?_⟩; apply Weak.mk' <;> simp [vl, NetD.cells])
                | (exfalso; omega)
                | trace_state
          · intro hF
            rw [hE0] at hF
            subst hF
            clear hEc hEn hE0
            repeat' (first
 |refine AW_seq_k fun K hK=>?_|refine Step.by1 ?_|refine SBlock_exit_ne (by decide) ?_|refine cz rfl ?_|refine Fork.by2 (fun h=>?_) fun h=>?_
 |(refine AW_region_AO ?_;simp [vl, NetD.cells])
 |(refine Split.by2 (fun h=>?_) (fun h=>?_)<;>(simp [h, vl, NetD.cells]))
 |(apply hK;clear hK K)|refine AWh (by assumption) ?_)
            refine AW_loopL [1, 6] (fun i : Nat => [(7, .int .i64 i)]) (fun _ => [.var n.cells, .row 30 0 0 true [[.int .i64 122], [.int .i64 123], [.int .i64 12], [.int .i64 7], [.int .i64 121]]])
              (fun i => i ≤ 5 ∧ firstE ([if v1 = true then 122 else 0, if v2 = true then 123 else 0, if v3 = true then 12 else 0, if v4 = true then 7 else 0, if v5 = true then 121 else 0].drop i) = Y) (fun i => 5 - i) 0 ⟨Nat.zero_le _, hY⟩ (by apply Weak.mk' <;> simp [vl, NetD.cells]) (fun _ _ => rfl) ?_
            clear hY
            rintro i ⟨hi, hF⟩
            rcases i with _ | _ | _ | _ | _ | _ | i
            · rw [show [if v1 = true then (122 : Int) else 0, if v2 = true then 123 else 0, if v3 = true then 12 else 0, if v4 = true then 7 else 0, if v5 = true then 121 else 0].drop 0 = (if v1 = true then 122 else 0) :: [if v1 = true then (122 : Int) else 0, if v2 = true then 123 else 0, if v3 = true then 12 else 0, if v4 = true then 7 else 0, if v5 = true then 121 else 0].drop 1 from rfl, firstE_cons] at hF
              cases v1
              · rw [if_neg (by simp)] at hF
                repeat' (first
 |refine AW_seq_k fun K hK=>?_|refine Step.by1 ?_|refine SBlock_exit_ne (by decide) ?_|refine cz rfl ?_|refine Fork.by2 (fun h=>?_) fun h=>?_
 |((first|refine AW_region_AO ?_|refine AW_region_APx (id:=22) 6 mixed (by decide) ?_|refine AP_call1 (f:=140) rfl rfl (hW122) rfl rfl rfl ?_);simp [vl, NetD.cells, wrap_i64];try (simp (disch:=omega) only [wrap_i64];try simp [vl, NetD.cells, wrap_i64]))
 |(refine Split.by2 (fun h=>?_) (fun h=>?_)<;>(simp [h, vl, NetD.cells, wrap_i64];try (simp (disch:=omega) only [wrap_i64];try simp [vl, NetD.cells, wrap_i64])))
 |(apply hK;clear hK K)|refine AWh (by assumption) ?_)
                refine ⟨1, ⟨by omega, hF⟩, by omega, ?_⟩; apply Weak.mk' <;> simp [vl, NetD.cells]
              · rw [if_pos (by simp)] at hF
                repeat' (first
 |refine AW_seq_k fun K hK=>?_|refine Step.by1 ?_|refine SBlock_exit_ne (by decide) ?_|refine cz rfl ?_|refine Fork.by2 (fun h=>?_) fun h=>?_
 |((first|refine AW_region_AO ?_|refine AW_region_APx (id:=22) 6 mixed (by decide) ?_|refine AP_call1 (f:=140) rfl rfl (hW122) rfl rfl rfl ?_);simp [vl, NetD.cells, wrap_i64];try (simp (disch:=omega) only [wrap_i64];try simp [vl, NetD.cells, wrap_i64]))
 |(refine Split.by2 (fun h=>?_) (fun h=>?_)<;>(simp [h, vl, NetD.cells, wrap_i64];try (simp (disch:=omega) only [wrap_i64];try simp [vl, NetD.cells, wrap_i64])))
 |(apply hK;clear hK K)|refine AWh (by assumption) ?_)
                exact retq1 (conv_eq (by rw [← hF]; rfl) rfl)
            · rw [show [if v1 = true then (122 : Int) else 0, if v2 = true then 123 else 0, if v3 = true then 12 else 0, if v4 = true then 7 else 0, if v5 = true then 121 else 0].drop 1 = (if v2 = true then 123 else 0) :: [if v1 = true then (122 : Int) else 0, if v2 = true then 123 else 0, if v3 = true then 12 else 0, if v4 = true then 7 else 0, if v5 = true then 121 else 0].drop 2 from rfl, firstE_cons] at hF
              cases v2
              · rw [if_neg (by simp)] at hF
                repeat' (first
 |refine AW_seq_k fun K hK=>?_|refine Step.by1 ?_|refine SBlock_exit_ne (by decide) ?_|refine cz rfl ?_|refine Fork.by2 (fun h=>?_) fun h=>?_
 |((first|refine AW_region_AO ?_|refine AW_region_APx (id:=22) 6 mixed (by decide) ?_|refine AP_call1 (f:=140) rfl rfl (hW123) rfl rfl rfl ?_);simp [vl, NetD.cells, wrap_i64];try (simp (disch:=omega) only [wrap_i64];try simp [vl, NetD.cells, wrap_i64]))
 |(refine Split.by2 (fun h=>?_) (fun h=>?_)<;>(simp [h, vl, NetD.cells, wrap_i64];try (simp (disch:=omega) only [wrap_i64];try simp [vl, NetD.cells, wrap_i64])))
 |(apply hK;clear hK K)|refine AWh (by assumption) ?_)
                refine ⟨2, ⟨by omega, hF⟩, by omega, ?_⟩; apply Weak.mk' <;> simp [vl, NetD.cells]
              · rw [if_pos (by simp)] at hF
                repeat' (first
 |refine AW_seq_k fun K hK=>?_|refine Step.by1 ?_|refine SBlock_exit_ne (by decide) ?_|refine cz rfl ?_|refine Fork.by2 (fun h=>?_) fun h=>?_
 |((first|refine AW_region_AO ?_|refine AW_region_APx (id:=22) 6 mixed (by decide) ?_|refine AP_call1 (f:=140) rfl rfl (hW123) rfl rfl rfl ?_);simp [vl, NetD.cells, wrap_i64];try (simp (disch:=omega) only [wrap_i64];try simp [vl, NetD.cells, wrap_i64]))
 |(refine Split.by2 (fun h=>?_) (fun h=>?_)<;>(simp [h, vl, NetD.cells, wrap_i64];try (simp (disch:=omega) only [wrap_i64];try simp [vl, NetD.cells, wrap_i64])))
 |(apply hK;clear hK K)|refine AWh (by assumption) ?_)
                exact retq1 (conv_eq (by rw [← hF]; rfl) rfl)
            · rw [show [if v1 = true then (122 : Int) else 0, if v2 = true then 123 else 0, if v3 = true then 12 else 0, if v4 = true then 7 else 0, if v5 = true then 121 else 0].drop 2 = (if v3 = true then 12 else 0) :: [if v1 = true then (122 : Int) else 0, if v2 = true then 123 else 0, if v3 = true then 12 else 0, if v4 = true then 7 else 0, if v5 = true then 121 else 0].drop 3 from rfl, firstE_cons] at hF
              cases v3
              · rw [if_neg (by simp)] at hF
                repeat' (first
 |refine AW_seq_k fun K hK=>?_|refine Step.by1 ?_|refine SBlock_exit_ne (by decide) ?_|refine cz rfl ?_|refine Fork.by2 (fun h=>?_) fun h=>?_
 |((first|refine AW_region_AO ?_|refine AW_region_APx (id:=22) 6 mixed (by decide) ?_|refine AP_call1 (f:=140) rfl rfl (hW12) rfl rfl rfl ?_);simp [vl, NetD.cells, wrap_i64];try (simp (disch:=omega) only [wrap_i64];try simp [vl, NetD.cells, wrap_i64]))
 |(refine Split.by2 (fun h=>?_) (fun h=>?_)<;>(simp [h, vl, NetD.cells, wrap_i64];try (simp (disch:=omega) only [wrap_i64];try simp [vl, NetD.cells, wrap_i64])))
 |(apply hK;clear hK K)|refine AWh (by assumption) ?_)
                refine ⟨3, ⟨by omega, hF⟩, by omega, ?_⟩; apply Weak.mk' <;> simp [vl, NetD.cells]
              · rw [if_pos (by simp)] at hF
                repeat' (first
 |refine AW_seq_k fun K hK=>?_|refine Step.by1 ?_|refine SBlock_exit_ne (by decide) ?_|refine cz rfl ?_|refine Fork.by2 (fun h=>?_) fun h=>?_
 |((first|refine AW_region_AO ?_|refine AW_region_APx (id:=22) 6 mixed (by decide) ?_|refine AP_call1 (f:=140) rfl rfl (hW12) rfl rfl rfl ?_);simp [vl, NetD.cells, wrap_i64];try (simp (disch:=omega) only [wrap_i64];try simp [vl, NetD.cells, wrap_i64]))
 |(refine Split.by2 (fun h=>?_) (fun h=>?_)<;>(simp [h, vl, NetD.cells, wrap_i64];try (simp (disch:=omega) only [wrap_i64];try simp [vl, NetD.cells, wrap_i64])))
 |(apply hK;clear hK K)|refine AWh (by assumption) ?_)
                exact retq1 (conv_eq (by rw [← hF]; rfl) rfl)
            · rw [show [if v1 = true then (122 : Int) else 0, if v2 = true then 123 else 0, if v3 = true then 12 else 0, if v4 = true then 7 else 0, if v5 = true then 121 else 0].drop 3 = (if v4 = true then 7 else 0) :: [if v1 = true then (122 : Int) else 0, if v2 = true then 123 else 0, if v3 = true then 12 else 0, if v4 = true then 7 else 0, if v5 = true then 121 else 0].drop 4 from rfl, firstE_cons] at hF
              cases v4
              · rw [if_neg (by simp)] at hF
                repeat' (first
 |refine AW_seq_k fun K hK=>?_|refine Step.by1 ?_|refine SBlock_exit_ne (by decide) ?_|refine cz rfl ?_|refine Fork.by2 (fun h=>?_) fun h=>?_
 |((first|refine AW_region_AO ?_|refine AW_region_APx (id:=22) 6 mixed (by decide) ?_|refine AP_call1 (f:=140) rfl rfl (hW7) rfl rfl rfl ?_);simp [vl, NetD.cells, wrap_i64];try (simp (disch:=omega) only [wrap_i64];try simp [vl, NetD.cells, wrap_i64]))
 |(refine Split.by2 (fun h=>?_) (fun h=>?_)<;>(simp [h, vl, NetD.cells, wrap_i64];try (simp (disch:=omega) only [wrap_i64];try simp [vl, NetD.cells, wrap_i64])))
 |(apply hK;clear hK K)|refine AWh (by assumption) ?_)
                refine ⟨4, ⟨by omega, hF⟩, by omega, ?_⟩; apply Weak.mk' <;> simp [vl, NetD.cells]
              · rw [if_pos (by simp)] at hF
                repeat' (first
 |refine AW_seq_k fun K hK=>?_|refine Step.by1 ?_|refine SBlock_exit_ne (by decide) ?_|refine cz rfl ?_|refine Fork.by2 (fun h=>?_) fun h=>?_
 |((first|refine AW_region_AO ?_|refine AW_region_APx (id:=22) 6 mixed (by decide) ?_|refine AP_call1 (f:=140) rfl rfl (hW7) rfl rfl rfl ?_);simp [vl, NetD.cells, wrap_i64];try (simp (disch:=omega) only [wrap_i64];try simp [vl, NetD.cells, wrap_i64]))
 |(refine Split.by2 (fun h=>?_) (fun h=>?_)<;>(simp [h, vl, NetD.cells, wrap_i64];try (simp (disch:=omega) only [wrap_i64];try simp [vl, NetD.cells, wrap_i64])))
 |(apply hK;clear hK K)|refine AWh (by assumption) ?_)
                exact retq1 (conv_eq (by rw [← hF]; rfl) rfl)
            · rw [show [if v1 = true then (122 : Int) else 0, if v2 = true then 123 else 0, if v3 = true then 12 else 0, if v4 = true then 7 else 0, if v5 = true then 121 else 0].drop 4 = (if v5 = true then 121 else 0) :: [if v1 = true then (122 : Int) else 0, if v2 = true then 123 else 0, if v3 = true then 12 else 0, if v4 = true then 7 else 0, if v5 = true then 121 else 0].drop 5 from rfl, firstE_cons] at hF
              cases v5
              · rw [if_neg (by simp)] at hF
                repeat' (first
 |refine AW_seq_k fun K hK=>?_|refine Step.by1 ?_|refine SBlock_exit_ne (by decide) ?_|refine cz rfl ?_|refine Fork.by2 (fun h=>?_) fun h=>?_
 |((first|refine AW_region_AO ?_|refine AW_region_APx (id:=22) 6 mixed (by decide) ?_|refine AP_call1 (f:=140) rfl rfl (hW121) rfl rfl rfl ?_);simp [vl, NetD.cells, wrap_i64];try (simp (disch:=omega) only [wrap_i64];try simp [vl, NetD.cells, wrap_i64]))
 |(refine Split.by2 (fun h=>?_) (fun h=>?_)<;>(simp [h, vl, NetD.cells, wrap_i64];try (simp (disch:=omega) only [wrap_i64];try simp [vl, NetD.cells, wrap_i64])))
 |(apply hK;clear hK K)|refine AWh (by assumption) ?_)
                refine ⟨5, ⟨by omega, hF⟩, by omega, ?_⟩; apply Weak.mk' <;> simp [vl, NetD.cells]
              · rw [if_pos (by simp)] at hF
                repeat' (first
 |refine AW_seq_k fun K hK=>?_|refine Step.by1 ?_|refine SBlock_exit_ne (by decide) ?_|refine cz rfl ?_|refine Fork.by2 (fun h=>?_) fun h=>?_
 |((first|refine AW_region_AO ?_|refine AW_region_APx (id:=22) 6 mixed (by decide) ?_|refine AP_call1 (f:=140) rfl rfl (hW121) rfl rfl rfl ?_);simp [vl, NetD.cells, wrap_i64];try (simp (disch:=omega) only [wrap_i64];try simp [vl, NetD.cells, wrap_i64]))
 |(refine Split.by2 (fun h=>?_) (fun h=>?_)<;>(simp [h, vl, NetD.cells, wrap_i64];try (simp (disch:=omega) only [wrap_i64];try simp [vl, NetD.cells, wrap_i64])))
 |(apply hK;clear hK K)|refine AWh (by assumption) ?_)
                exact retq1 (conv_eq (by rw [← hF]; rfl) rfl)
            · repeat' (first
 |refine AW_seq_k fun K hK=>?_|refine Step.by1 ?_|refine SBlock_exit_ne (by decide) ?_|refine cz rfl ?_|refine Fork.by2 (fun h=>?_) fun h=>?_
 |(refine AW_region_AO ?_;simp [vl, NetD.cells])
 |(refine Split.by2 (fun h=>?_) (fun h=>?_)<;>(simp [h, vl, NetD.cells]))
 |(apply hK;clear hK K)|refine AWh (by assumption) ?_)
              exact retq1 (conv_eq (by rw [← hF]; rfl) rfl)
            · omega
        · rw [if_pos (by simp)] at hX
          repeat' (first
 |refine AW_seq_k fun K hK=>?_|refine Step.by1 ?_|refine SBlock_exit_ne (by decide) ?_|refine cz rfl ?_|refine Fork.by2 (fun h=>?_) fun h=>?_
 |((first|refine AW_region_AO ?_|refine AS_call1 (f:=137) rfl rfl (hL) rfl rfl rfl ?_|refine AS_call1 (f:=138) rfl rfl (hM) rfl rfl rfl ?_);simp [vl, NetD.cells])
 |(refine Split.by2 (fun h=>?_) (fun h=>?_)<;>(simp [h, vl, NetD.cells]))
 |(apply hK;clear hK K)|refine AWh (by assumption) ?_)
          exact retq1 (conv_eq (by rw [← hX]; rfl) rfl)
      · rw [if_pos (by simp)] at hX
        repeat' (first
 |refine AW_seq_k fun K hK=>?_|refine Step.by1 ?_|refine SBlock_exit_ne (by decide) ?_|refine cz rfl ?_|refine Fork.by2 (fun h=>?_) fun h=>?_
 |((first|refine AW_region_AO ?_|refine AS_call1 (f:=137) rfl rfl (hL) rfl rfl rfl ?_);simp [vl, NetD.cells])
 |(refine Split.by2 (fun h=>?_) (fun h=>?_)<;>(simp [h, vl, NetD.cells]))
 |(apply hK;clear hK K)|refine AWh (by assumption) ?_)
        exact retq1 (conv_eq (by rw [← hX]; rfl) rfl)
end Go.Proofs.YtgmlimipejcpgaaGreatDoor
end

section
set_option linter.unusedVariables false
set_option linter.unusedSimpArgs false
namespace Go.Proofs.YtgmlimipejcpgaaGreatDoor
open Go Go.AM Fx
def edG (x : EdgeD) : Int := if greatE x.guards ≠ 0 then greatE x.guards else greatSE x.sets
def whereE (n : NetD) : (Int × Int × Int) × Int :=
  if wholeE n ≠ 0 then ((0, 0, 0), wholeE n)
  else if (searchE (fun l => diagE l.inv) (fun x => diagE x.guards) n.autos 0).2 ≠ 0 then searchE (fun l => diagE l.inv) (fun x => diagE x.guards) n.autos 0
  else searchE (fun l => greatE l.inv) edG n.autos 0
def netE (n : NetD) : Int := (whereE n).2
theorem c_Where1 (x : LocD) (hx : x.ok) : PC 60 [.agg x.cells] (.int .i64 (diagE x.inv)) := by
  have hc := c_diagE x.inv (by have := hx.2.2.1; omega)
  simp only [vl] at hc
  refine PCall_body Tryz.func60 rfl (by decide) Tryz.ntmps60 (by simp) Tryz.results60 ?_
  repeat' (first
 |refine AW_seq_k fun K hK=>?_|refine Step.by1 ?_|refine SBlock_exit_ne (by decide) ?_|refine cz rfl ?_|refine Fork.by2 (fun h=>?_) fun h=>?_
 |((first|refine AW_region_AO ?_|refine AS_call1 (f:=61) rfl rfl (hc) rfl rfl rfl ?_);simp [vl, LocD.cells])
 |(refine Split.by2 (fun h=>?_) (fun h=>?_)<;>(simp [h, vl, LocD.cells]))
 |(apply hK;clear hK K)|refine AWh (by assumption) ?_)
  exact retq1 (conv_eq rfl rfl)
theorem c_Where2 (x : EdgeD) (hx : x.ok) : PC 62 [.agg x.cells] (.int .i64 (diagE x.guards)) := by
  have hc := c_diagE x.guards (by have := hx.2.2.1.1; omega)
  simp only [vl] at hc
  refine PCall_body Tryz.func62 rfl (by decide) Tryz.ntmps62 (by simp) Tryz.results62 ?_
  repeat' (first
 |refine AW_seq_k fun K hK=>?_|refine Step.by1 ?_|refine SBlock_exit_ne (by decide) ?_|refine cz rfl ?_|refine Fork.by2 (fun h=>?_) fun h=>?_
 |((first|refine AW_region_AO ?_|refine AS_call1 (f:=61) rfl rfl (hc) rfl rfl rfl ?_);simp [vl, EdgeD.cells])
 |(refine Split.by2 (fun h=>?_) (fun h=>?_)<;>(simp [h, vl, EdgeD.cells]))
 |(apply hK;clear hK K)|refine AWh (by assumption) ?_)
  exact retq1 (conv_eq rfl rfl)
theorem c_Where3 (x : LocD) (hx : x.ok) : PC 63 [.agg x.cells] (.int .i64 (greatE x.inv)) := by
  have hc := c_greatE x.inv (by have := hx.2.2.1; omega)
  simp only [vl] at hc
  refine PCall_body Tryz.func63 rfl (by decide) Tryz.ntmps63 (by simp) Tryz.results63 ?_
  repeat' (first
 |refine AW_seq_k fun K hK=>?_|refine Step.by1 ?_|refine SBlock_exit_ne (by decide) ?_|refine cz rfl ?_|refine Fork.by2 (fun h=>?_) fun h=>?_
 |((first|refine AW_region_AO ?_|refine AS_call1 (f:=64) rfl rfl (hc) rfl rfl rfl ?_);simp [vl, LocD.cells])
 |(refine Split.by2 (fun h=>?_) (fun h=>?_)<;>(simp [h, vl, LocD.cells]))
 |(apply hK;clear hK K)|refine AWh (by assumption) ?_)
  exact retq1 (conv_eq rfl rfl)
theorem c_Where4 (x : EdgeD) (hx : x.ok) : PC 65 [.agg x.cells] (.int .i64 (edG x)) := by
  have hc := c_greatE x.guards (by have := hx.2.2.1.1; omega)
  have hc2 := c_greatSE x.sets (by have := hx.2.2.2.2.2.2.1; omega)
  obtain ⟨r, hr⟩ : ∃ r, edG x = r := ⟨_, rfl⟩
  rw [hr]
  unfold edG at hr
  simp only [vl] at hc hc2
  generalize greatE x.guards = k1 at *
  generalize greatSE x.sets = k2 at *
  refine PCall_body Tryz.func65 rfl (by decide) Tryz.ntmps65 (by simp) Tryz.results65 ?_
  by_cases hz : k1 = 0
  · rw [if_neg (by simp [hz])] at hr
    rw [hz] at hc
    repeat' (first
 |refine AW_seq_k fun K hK=>?_|refine Step.by1 ?_|refine SBlock_exit_ne (by decide) ?_|refine cz rfl ?_|refine Fork.by2 (fun h=>?_) fun h=>?_
 |((first|refine AW_region_AO ?_|refine AS_call1 (f:=64) rfl rfl (hc) rfl rfl rfl ?_|refine AS_call1 (f:=66) rfl rfl (hc2) rfl rfl rfl ?_);simp [vl, EdgeD.cells])
 |(refine Split.by2 (fun h=>?_) (fun h=>?_)<;>(simp [h, vl, EdgeD.cells]))
 |(apply hK;clear hK K)|refine AWh (by assumption) ?_)
    exact retq1 (conv_eq (by rw [← hr]; rfl) rfl)
  · rw [if_pos hz] at hr
    repeat' (first
 |refine AW_seq_k fun K hK=>?_|refine Step.by1 ?_|refine SBlock_exit_ne (by decide) ?_|refine cz rfl ?_|refine Fork.by2 (fun h=>?_) fun h=>?_
 |((first|refine AW_region_AO ?_|refine AS_call1 (f:=64) rfl rfl (hc) rfl rfl rfl ?_);simp [vl, EdgeD.cells, hz])
 |(refine Split.by2 (fun h=>?_) (fun h=>?_)<;>(simp [h, vl, EdgeD.cells, hz]))
 |(apply hK;clear hK K)|refine AWh (by assumption) ?_)
    exact retq1 (conv_eq (by rw [← hr]; rfl) rfl)
set_option maxRecDepth 20000 in
set_option maxHeartbeats 8000000 in
theorem c_Where (n : NetD) (hn : n.ok) : PC 12 [.agg n.cells] (spotE (whereE n)) := by
  have hW := c_Whole n hn
  have hS := c_search n hn 60 62 (fun l => diagE l.inv) (fun x => diagE x.guards) (fun a ha x hx => c_Where1 x ((hn.2.2.2.2 a ha).2.1.2 x hx)) (fun a ha x hx => c_Where2 x ((hn.2.2.2.2 a ha).2.2.2 x hx))
  have hT := c_search n hn 63 65 (fun l => greatE l.inv) edG (fun a ha x hx => c_Where3 x ((hn.2.2.2.2 a ha).2.1.2 x hx)) (fun a ha x hx => c_Where4 x ((hn.2.2.2.2 a ha).2.2.2 x hx))
  obtain ⟨r, hr⟩ : ∃ r, whereE n = r := ⟨_, rfl⟩
  rw [hr]
  unfold whereE at hr
  generalize wholeE n = w at *
  generalize searchE (fun l => diagE l.inv) (fun x => diagE x.guards) n.autos 0 = s at *
  generalize searchE (fun l => greatE l.inv) edG n.autos 0 = t at *
  obtain ⟨⟨s1, s2, s3⟩, s4⟩ := s
  obtain ⟨⟨t1, t2, t3⟩, t4⟩ := t
  simp only [vl, NetD.cells, spotE, spotV] at hW hS hT
  simp only at hr
  refine PCall_body Tryz.func12 rfl (by decide) Tryz.ntmps12 (by simp) Tryz.results12 ?_
  by_cases hw : w = 0
  · subst hw
    rw [if_neg (by simp)] at hr
    by_cases hs : s4 = 0
    · subst hs
      rw [if_neg (by simp)] at hr
      subst hr
      repeat' (first
 |refine AW_seq_k fun K hK=>?_|refine Step.by1 ?_|refine SBlock_exit_ne (by decide) ?_|refine cz rfl ?_|refine Fork.by2 (fun h=>?_) fun h=>?_
 |((first|refine AW_region_AO ?_|refine AS_call1 (f:=58) rfl rfl (hW) rfl rfl rfl ?_|refine AS_call1 (f:=59) rfl rfl (hS) rfl rfl rfl ?_|refine AS_call1 (f:=59) rfl rfl (hT) rfl rfl rfl ?_);simp [vl, NetD.cells])
 |(refine Split.by2 (fun h=>?_) (fun h=>?_)<;>(simp [h, vl, NetD.cells]))
 |(apply hK;clear hK K)|refine AWh (by assumption) ?_)
      exact retq2ct rfl (by simp) (conv_eq (by simp [spotE, spotV]) (by simp))
    · rw [if_pos hs] at hr
      subst hr
      repeat' (first
 |refine AW_seq_k fun K hK=>?_|refine Step.by1 ?_|refine SBlock_exit_ne (by decide) ?_|refine cz rfl ?_|refine Fork.by2 (fun h=>?_) fun h=>?_
 |((first|refine AW_region_AO ?_|refine AS_call1 (f:=58) rfl rfl (hW) rfl rfl rfl ?_|refine AS_call1 (f:=59) rfl rfl (hS) rfl rfl rfl ?_);simp [vl, NetD.cells, hs])
 |(refine Split.by2 (fun h=>?_) (fun h=>?_)<;>(simp [h, vl, NetD.cells, hs]))
 |(apply hK;clear hK K)|refine AWh (by assumption) ?_)
      exact retq2ct rfl (by simp) (conv_eq (by simp [spotE, spotV]) (by simp))
  · rw [if_pos hw] at hr
    subst hr
    repeat' (first
 |refine AW_seq_k fun K hK=>?_|refine Step.by1 ?_|refine SBlock_exit_ne (by decide) ?_|refine cz rfl ?_|refine Fork.by2 (fun h=>?_) fun h=>?_
 |((first|refine AW_region_AO ?_|refine AS_call1 (f:=58) rfl rfl (hW) rfl rfl rfl ?_);simp [vl, NetD.cells, hw])
 |(refine Split.by2 (fun h=>?_) (fun h=>?_)<;>(simp [h, vl, NetD.cells, hw]))
 |(apply hK;clear hK K)|refine AWh (by assumption) ?_)
    exact retq2ct rfl (by simp) (conv_eq (by simp [spotE, spotV]) (by simp))
theorem c_Net (n : NetD) (hn : n.ok) : PC 15 [.agg n.cells] (.int .i64 (netE n)) := by
  have hW := c_Where n hn
  unfold netE
  generalize whereE n = s at *
  obtain ⟨⟨s1, s2, s3⟩, s4⟩ := s
  simp only [vl, NetD.cells, spotE, spotV] at hW
  refine PCall_body Tryz.func15 rfl (by decide) Tryz.ntmps15 (by simp) Tryz.results15 ?_
  repeat' (first
 |refine AW_seq_k fun K hK=>?_|refine Step.by1 ?_|refine SBlock_exit_ne (by decide) ?_|refine cz rfl ?_|refine Fork.by2 (fun h=>?_) fun h=>?_
 |((first|refine AW_region_AO ?_|refine AS_call1 (f:=12) rfl rfl (hW) rfl rfl rfl ?_);simp [vl, NetD.cells])
 |(refine Split.by2 (fun h=>?_) (fun h=>?_)<;>(simp [h, vl, NetD.cells]))
 |(apply hK;clear hK K)|refine AWh (by assumption) ?_)
  exact retq1 (conv_eq rfl rfl)
end Go.Proofs.YtgmlimipejcpgaaGreatDoor
end

section
set_option linter.unusedVariables false
set_option linter.unusedSimpArgs false
namespace Go.Proofs.YtgmlimipejcpgaaGreatDoor
open Go Go.AM Fx
theorem leaves_drop {h x : List B} : Go.AM.Leaves h (h ++ x) h := ⟨Nat.le_refl _, by simp, fun b y hy => .inr ⟨by
  rw [List.getElem?_append_left (List.getElem?_eq_some_iff.1 hy).1]; exact hy, .inl hy⟩⟩
def raise1 (so : Int → Bool) (o : List Int) (g : GuardD) : List Int :=
  if so g.cmp = true then o.set (g.clock - 1).toNat (if g.n > o.getD (g.clock - 1).toNat 0 then g.n else o.getD (g.clock - 1).toNat 0) else o
def raiseL (so : Int → Bool) (l : List GuardD) (o : List Int) : List Int := l.foldl (raise1 so) o
theorem raiseL_nil {so : Int → Bool} {o : List Int} : raiseL so [] o = o := rfl
theorem raiseL_cons {so : Int → Bool} {g : GuardD} {l : List GuardD} {o : List Int} : raiseL so (g :: l) o = raiseL so l (raise1 so o g) := rfl
theorem raise1_len {so : Int → Bool} {g : GuardD} {o : List Int} : (raise1 so o g).length = o.length := by unfold raise1; split <;> simp
theorem raiseL_len {so : Int → Bool} : ∀ {l : List GuardD} {o : List Int}, (raiseL so l o).length = o.length
  | [], o => rfl
  | g :: l, o => by rw [raiseL_cons, raiseL_len, raise1_len]
def H5 (n : NetD) (fso : Nat) (o : List Int) : List B := [.var n.cells, .var [.fn (.func fso) [] []], .row 3 0 0 true (o.map fun k => [V.int .i64 k]), .var [.ref 2 0 0 o.length], .var [.fn (.func 157) [] [.ptr 1 0, .ptr 3 0]]]
theorem H5_len {n : NetD} {fso : Nat} {o : List Int} : (H5 n fso o).length = 5 := rfl
theorem cells_lt (n : NetD) (k : Nat) : V.lts k n.cells = true := by simp [NetD.cells, vl]
theorem H5_lt {n : NetD} {fso : Nat} {o : List Int} {k : Nat} (hk : 5 ≤ k) : ∀ y ∈ H5 n fso o, y.lt k := by
  intro y hy
  simp only [H5, List.mem_cons, List.not_mem_nil, or_false] at hy
  rcases hy with rfl | rfl | rfl | rfl | rfl
  · exact cells_lt n k
  · simp
  · simp
  · simp; omega
  · simp; omega
/-- A guard that is of the clocks. -/
def okG (N : Nat) (g : GuardD) : Prop := 1 ≤ g.clock ∧ g.clock ≤ N
set_option maxRecDepth 20000 in
set_option maxHeartbeats 8000000 in
theorem c_raise (n : NetD) (fso : Nat) (so : Int → Bool) (hso : ∀ c, PC fso [.int .u8 c] (.bool (so c))) (l : List GuardD) (o : List Int) (e : List B) (hN : o.length ≤ 1048576) (hl : l.length ≤ 1048576) (hg : ∀ g ∈ l, okG o.length g) (hE : ∀ y ∈ e, y.lt (5 + e.length)) :
    GCall Tryz.prog GV 157 [vl GuardD.cells l, .ptr 1 0, .ptr 3 0] (H5 n fso o ++ e) (fun v h' => v = .int .i64 0 ∧ h' = H5 n fso (raiseL so l o) ++ e) := by
  refine GCall_body Tryz.func157 rfl (by decide) Tryz.ntmps157 (by simp) Tryz.results157 ?_
  repeat' (first
 |refine AW_seq_k fun K hK=>?_|refine Step.by1 ?_|refine SBlock_exit_ne (by decide) ?_|refine cz rfl ?_|refine Fork.by2 (fun h=>?_) fun h=>?_
 |(refine AW_region_AO ?_;simp [vl])
 |(refine Split.by2 (fun h=>?_) (fun h=>?_)<;>(simp [h, vl]))
 |(apply hK;clear hK K)|refine AWh (by assumption) ?_)
  refine AW_range (r := raiseL so l o) l 9 [1, 2, 7, 8] (fun c : List Int => []) (fun c => H5 n fso c ++ e) (fun i c => c.length = o.length) (raiseL so) o
    rfl rfl (Weak.tail (x := []) (by simp) (by simp [vl, H5_len]; omega) (H5_lt (by simp [H5_len])) (fun y hy => by have := hE y hy; simpa [H5_len, Nat.add_comm] using this)) (fun _ _ _ => by simp [H5_len]) ?_ ?_
  · intro i c x _ hlt hx hJ hF
    rw [raiseL_cons] at hF
    obtain ⟨g1, g2⟩ := hg x (hx ▸ List.getElem_mem hlt)
    have hlt' : (i : Int) < l.length := by omega
    have w1 : IntKind.i64.wrap ((i : Int) + 1) = i + 1 := wrap_i64 (by omega) (by omega)
    have w2 : IntKind.i64.wrap (x.clock - 1) = x.clock - 1 := wrap_i64 (by omega) (by omega)
    obtain ⟨p, hp⟩ := Int.eq_ofNat_of_zero_le (show 0 ≤ x.clock - 1 by omega)
    have hpl : p < c.length := by omega
    have hpl' : (p : Int) < c.length := by omega
    have hc := hso x.cmp
    have h1 : raise1 so c x = if so x.cmp = true then c.set p (if x.n > c[p] then x.n else c[p]) else c := by
      unfold raise1; rw [hp]; simp [hpl]
    rw [h1] at hF
    obtain ⟨y, hy⟩ : ∃ y, c[p] = y := ⟨_, rfl⟩
    rw [hy] at hF
    rw [hp] at w2
    cases hs : so x.cmp
    · rw [hs] at hc hF
      rw [if_neg (by simp)] at hF
      repeat' (first
 |refine AW_seq_k fun K hK=>?_|refine Step.by1 ?_|refine SBlock_exit_ne (by decide) ?_|refine cz rfl ?_|refine Fork.by2 (fun h=>?_) fun h=>?_
 |(refine AW_region_AO ?_;simp [vl, H5, GuardD.cells, hlt, hlt', hx, w1])
 |(refine Split.by2 (fun h=>?_) (fun h=>?_)<;>(simp [h, vl, H5, GuardD.cells, hlt, hlt', hx, w1]))
 |(refine AS_call1 (f := fso) rfl rfl hc rfl rfl rfl ?_; simp [vl, H5, GuardD.cells])
 |(apply hK;clear hK K)|refine AWh (by assumption) ?_)
      refine ⟨c, hF, hJ, ?_⟩
      refine Weak.tail (a := H5 n fso c) (e := e) (x := [B.var x.cells]) (by simp [H5, GuardD.cells]) (by simp [vl, H5_len]; omega) (H5_lt (by simp [H5_len])) (fun y hy => by have := hE y hy; simpa [H5_len, Nat.add_comm] using this)
    · rw [hs] at hc hF
      rw [if_pos rfl] at hF
      repeat' (first
 |refine AW_seq_k fun K hK=>?_|refine Step.by1 ?_|refine SBlock_exit_ne (by decide) ?_|refine cz rfl ?_|refine Fork.by2 (fun h=>?_) fun h=>?_
 |((first|refine AW_region_AO ?_|refine AW_region_APx (id:=5) 14 mixed (by decide) ?_);simp [vl, H5, GuardD.cells, hlt, hlt', hx, w1, hp, w2, hpl, hpl', hy])
 |(refine Split.by2 (fun h=>?_) (fun h=>?_)<;>(simp [h, vl, H5, GuardD.cells, hlt, hlt', hx, w1, hp, w2, hpl, hpl', hy]))
 |(refine AS_call1 (f := fso) rfl rfl hc rfl rfl rfl ?_; simp [vl, H5, GuardD.cells])
 |(apply hK;clear hK K)|refine AWh (by assumption) ?_)
      refine ⟨_, hF, by simp [hJ], ?_⟩
      refine Weak.tail (a := H5 n fso _) (e := e) (x := [B.var x.cells]) (by simp [H5, GuardD.cells, hp]) (by simp [vl, H5_len]; omega) (H5_lt (by simp [H5_len])) (fun y hy => by have := hE y hy; simpa [H5_len, Nat.add_comm] using this)
  · intro c hJ hF
    rw [raiseL_nil] at hF
    subst hF
    repeat' (first
 |refine AW_seq_k fun K hK=>?_|refine Step.by1 ?_|refine SBlock_exit_ne (by decide) ?_|refine cz rfl ?_|refine Fork.by2 (fun h=>?_) fun h=>?_
 |(refine AW_region_AO ?_;simp [vl])
 |(refine Split.by2 (fun h=>?_) (fun h=>?_)<;>(simp [h, vl]))
 |(apply hK;clear hK K)|refine AWh (by assumption) ?_)
    exact retg1 ⟨rfl, rfl⟩ rfl (by simpa using Go.AM.Leaves.tail (a := H5 n fso o) (a' := H5 n fso (raiseL so l o)) (e := e) (x := []) (by simp [H5_len]) (H5_lt (by simp [H5_len])))
end Go.Proofs.YtgmlimipejcpgaaGreatDoor
end

section
set_option linter.unusedVariables false
set_option linter.unusedSimpArgs false
namespace Go.Proofs.YtgmlimipejcpgaaGreatDoor
open Go Go.AM Fx
theorem retg2c {P : Program} {st : St} {t u : Nat} {T : TypeId} {cs : List V} {off : Nat} {Q : V → List B → Prop} {h0 h' : List B} (hp : place st.h (lk st.tm t) = some (cs, off)) (ho : loadOk P T cs off) (hq : Q (.tup [loadV P T cs off, lk st.tm u]) h')
    (hv : (V.tup [loadV P T cs off, lk st.tm u]).lt h'.length = true) (hl : Go.AM.Leaves h0 st.h h') : RetG P #[.cell t T, .tmp u] Q h0 .ret st :=
  ⟨.inr rfl, _, h', ⟨[loadV P T cs off, lk st.tm u], rfl, ⟨cs, off, hp, ho, rfl⟩, rfl, trivial⟩, hq, hv, hl⟩
theorem raiseL_append {so : Int → Bool} {l l' : List GuardD} {o : List Int} : raiseL so (l ++ l') o = raiseL so l' (raiseL so l o) := by simp [raiseL]
def raiseLs (so : Int → Bool) (l : List LocD) (o : List Int) : List Int := raiseL so (l.flatMap (·.inv)) o
def raiseEs (so : Int → Bool) (l : List EdgeD) (o : List Int) : List Int := raiseL so (l.flatMap (·.guards)) o
def raiseAs (so : Int → Bool) (l : List AutoD) (o : List Int) : List Int := raiseL so (l.flatMap guardsA) o
theorem raiseLs_nil {so : Int → Bool} {o : List Int} : raiseLs so [] o = o := rfl
theorem raiseEs_nil {so : Int → Bool} {o : List Int} : raiseEs so [] o = o := rfl
theorem raiseAs_nil {so : Int → Bool} {o : List Int} : raiseAs so [] o = o := rfl
theorem raiseLs_cons {so : Int → Bool} {x : LocD} {l : List LocD} {o : List Int} : raiseLs so (x :: l) o = raiseLs so l (raiseL so x.inv o) := by simp only [raiseLs, List.flatMap_cons, raiseL_append]
theorem raiseEs_cons {so : Int → Bool} {x : EdgeD} {l : List EdgeD} {o : List Int} : raiseEs so (x :: l) o = raiseEs so l (raiseL so x.guards o) := by simp only [raiseEs, List.flatMap_cons, raiseL_append]
theorem raiseAs_cons {so : Int → Bool} {a : AutoD} {l : List AutoD} {o : List Int} : raiseAs so (a :: l) o = raiseAs so l (raiseEs so a.edges (raiseLs so a.locs o)) := by simp only [raiseAs, raiseEs, raiseLs, List.flatMap_cons, raiseL_append, guardsA]
set_option maxRecDepth 20000 in
set_option maxHeartbeats 8000000 in
theorem c_num2 (n : NetD) (fso : Nat) (so : Int → Bool) (hso : ∀ c, PC fso [.int .u8 c] (.bool (so c))) (x : LocD) (o : List Int) (e : List B) (hN : o.length ≤ 1048576) (hl : x.inv.length ≤ 1048576) (hg : ∀ g ∈ x.inv, okG o.length g) (hE : ∀ y ∈ e, y.lt (5 + e.length)) :
    GCall Tryz.prog GV 158 [.agg x.cells, .ptr 4 0] (H5 n fso o ++ e) (fun v h' => v = .int .i64 0 ∧ h' = H5 n fso (raiseL so x.inv o) ++ e) := by
  have hc := c_raise n fso so hso x.inv o (e ++ [.var x.cells]) hN hl hg (fun y hy => by
    rcases List.mem_append.1 hy with h | h
    · exact B.lt_mono (by simp) (hE y h)
    · simp at h; subst h; simp [LocD.cells, vl])
  refine GCall_body Tryz.func158 rfl (by decide) Tryz.ntmps158 (by simp) Tryz.results158 ?_
  repeat' (first
 |refine AW_seq_k fun K hK=>?_|refine Step.by1 ?_|refine SBlock_exit_ne (by decide) ?_|refine cz rfl ?_|refine Fork.by2 (fun h=>?_) fun h=>?_
 |(refine AW_region_AO ?_;simp [vl, H5, LocD.cells])
 |(refine Split.by2 (fun h=>?_) (fun h=>?_)<;>(simp [h, vl, H5, LocD.cells]))
 |(refine AS_callG (f := 157) rfl rfl (hc.imp (by simp [vl]) (by simp [H5, LocD.cells, vl])) rfl (fun v h' hq => ?_); obtain ⟨rfl, rfl⟩ := hq; simp [vl, H5, LocD.cells])
 |(apply hK;clear hK K)|refine AWh (by assumption) ?_)
  exact retg1 (h' := H5 n fso (raiseL so x.inv o) ++ e) ⟨rfl, rfl⟩ rfl (by simpa [H5, LocD.cells, vl] using Go.AM.Leaves.tail (a := H5 n fso o) (a' := H5 n fso (raiseL so x.inv o)) (e := e) (x := [.var x.cells]) (by simp [H5_len]) (H5_lt (by simp [H5_len])))
set_option maxRecDepth 20000 in
set_option maxHeartbeats 8000000 in
theorem c_num3 (n : NetD) (fso : Nat) (so : Int → Bool) (hso : ∀ c, PC fso [.int .u8 c] (.bool (so c))) (x : EdgeD) (o : List Int) (e : List B) (hN : o.length ≤ 1048576) (hl : x.guards.length ≤ 1048576) (hg : ∀ g ∈ x.guards, okG o.length g) (hE : ∀ y ∈ e, y.lt (5 + e.length)) :
    GCall Tryz.prog GV 159 [.agg x.cells, .ptr 4 0] (H5 n fso o ++ e) (fun v h' => v = .int .i64 0 ∧ h' = H5 n fso (raiseL so x.guards o) ++ e) := by
  have hc := c_raise n fso so hso x.guards o (e ++ [.var x.cells]) hN hl hg (fun y hy => by
    rcases List.mem_append.1 hy with h | h
    · exact B.lt_mono (by simp) (hE y h)
    · simp at h; subst h; simp [EdgeD.cells, vl])
  refine GCall_body Tryz.func159 rfl (by decide) Tryz.ntmps159 (by simp) Tryz.results159 ?_
  repeat' (first
 |refine AW_seq_k fun K hK=>?_|refine Step.by1 ?_|refine SBlock_exit_ne (by decide) ?_|refine cz rfl ?_|refine Fork.by2 (fun h=>?_) fun h=>?_
 |(refine AW_region_AO ?_;simp [vl, H5, EdgeD.cells])
 |(refine Split.by2 (fun h=>?_) (fun h=>?_)<;>(simp [h, vl, H5, EdgeD.cells]))
 |(refine AS_callG (f := 157) rfl rfl (hc.imp (by simp [vl]) (by simp [H5, EdgeD.cells, vl])) rfl (fun v h' hq => ?_); obtain ⟨rfl, rfl⟩ := hq; simp [vl, H5, EdgeD.cells])
 |(apply hK;clear hK K)|refine AWh (by assumption) ?_)
  exact retg1 (h' := H5 n fso (raiseL so x.guards o) ++ e) ⟨rfl, rfl⟩ rfl (by simpa [H5, EdgeD.cells, vl] using Go.AM.Leaves.tail (a := H5 n fso o) (a' := H5 n fso (raiseL so x.guards o)) (e := e) (x := [.var x.cells]) (by simp [H5_len]) (H5_lt (by simp [H5_len])))
set_option maxRecDepth 20000 in
set_option maxHeartbeats 8000000 in
theorem c_searchG (n : NetD) (hn : n.ok) (fso : Nat) (so : Int → Bool) (hso : ∀ c, PC fso [.int .u8 c] (.bool (so c))) (o : List Int) (hN : o.length ≤ 1048576) (hg : ∀ g ∈ guardsL n, okG o.length g) :
    GCall Tryz.prog GV 59 [.agg n.cells, .fn (.func 158) [] [.ptr 4 0], .fn (.func 159) [] [.ptr 4 0]] (H5 n fso o) (fun v h' => v = .tup [spotV 0 0 0, .int .i64 0] ∧ h' = H5 n fso (raiseL so (guardsL n) o)) := by
  obtain ⟨r, hr⟩ : ∃ r, raiseL so (guardsL n) o = r := ⟨_, rfl⟩
  have hr' : raiseAs so n.autos o = r := hr
  rw [hr]
  have hgl : ∀ a ∈ n.autos, ∀ x ∈ a.locs, ∀ g ∈ x.inv, okG o.length g := fun a ha x hx g h => hg g (by
    unfold guardsL guardsA
    simp only [List.mem_flatMap, List.mem_append]
    exact ⟨a, ha, .inl ⟨x, hx, h⟩⟩)
  have hge : ∀ a ∈ n.autos, ∀ x ∈ a.edges, ∀ g ∈ x.guards, okG o.length g := fun a ha x hx g h => hg g (by
    unfold guardsL guardsA
    simp only [List.mem_flatMap, List.mem_append]
    exact ⟨a, ha, .inr ⟨x, hx, h⟩⟩)
  clear hg hr
  obtain ⟨_, _, _, h4, h5⟩ := hn
  refine GCall_body Tryz.func59 rfl (by decide) Tryz.ntmps59 (by simp) Tryz.results59 ?_
  repeat' (first
 |refine AW_seq_k fun K hK=>?_|refine Step.by1 ?_|refine SBlock_exit_ne (by decide) ?_|refine cz rfl ?_|refine Fork.by2 (fun h=>?_) fun h=>?_
 |(refine AW_region_AO ?_;simp [vl, NetD.cells, H5])
 |(refine Split.by2 (fun h=>?_) (fun h=>?_)<;>(simp [h, vl, NetD.cells, H5]))
 |(apply hK;clear hK K)|refine AWh (by assumption) ?_)
  refine AW_range (r := r) n.autos 19 [1, 2, 6, 17, 18] (fun c : List Int => []) (fun c => H5 n fso c ++ [.var n.cells, .var [.int .i64 0, .int .i64 0, .int .i64 0]]) (fun i c => c.length = o.length) (raiseAs so) o
    hr' rfl (by apply Weak.mk' <;> simp [vl, NetD.cells, H5]) (fun _ _ _ => by simp [H5_len]) ?_ ?_
  · intro i c a _ hlt ha hJ hF
    rw [raiseAs_cons] at hF
    have hm : a ∈ n.autos := ha ▸ List.getElem_mem hlt
    have hoa := h5 a hm
    obtain ⟨_, ⟨hl1, hl2⟩, he1, he2⟩ := hoa
    have hlt' : (i : Int) < n.autos.length := by omega
    have w0 : IntKind.i64.wrap ((i : Int) + 1) = i + 1 := wrap_i64 (by omega) (by omega)
    repeat' (first
 |refine AW_seq_k fun K hK=>?_|refine Step.by1 ?_|refine SBlock_exit_ne (by decide) ?_|refine cz rfl ?_|refine Fork.by2 (fun h=>?_) fun h=>?_
 |(refine AW_region_AO ?_;simp [vl, NetD.cells, AutoD.cells, H5, hlt, hlt', ha])
 |(refine Split.by2 (fun h=>?_) (fun h=>?_)<;>(simp [h, vl, NetD.cells, AutoD.cells, H5, hlt, hlt', ha]))
 |(apply hK;clear hK K)|refine AWh (by assumption) ?_)
    obtain ⟨r1, hr1⟩ : ∃ r1, raiseLs so a.locs c = r1 := ⟨_, rfl⟩
    rw [hr1] at hF
    refine AW_range (r := r1) a.locs 27 [1, 2, 6, 8, 9, 17, 18, 19, 25, 26] (fun c : List Int => []) (fun c => H5 n fso c ++ [.var n.cells, .var [.int .i64 0, .int .i64 0, .int .i64 0], .var a.cells]) (fun i c => c.length = o.length) (raiseLs so) c
      hr1 hJ (by apply Weak.mk' <;> simp [vl, NetD.cells, AutoD.cells, H5]) (fun _ _ _ => by simp [H5_len]) ?_ ?_
    · intro k q x _ hkt hx hJ2 hG
      rw [raiseLs_cons] at hG
      have hmx : x ∈ a.locs := hx ▸ List.getElem_mem hkt
      have hox := hl2 x hmx
      have hc := c_num2 n fso so hso x q [.var n.cells, .var [.int .i64 0, .int .i64 0, .int .i64 0], .var a.cells, .var x.cells] (by omega) hox.2.2.1 (fun g h => by rw [hJ2]; exact hgl a hm x hmx g h) (by simp [NetD.cells, AutoD.cells, LocD.cells, vl])
      have hq1 : (raiseL so x.inv q).length = q.length := raiseL_len
      have hkt' : (k : Int) < a.locs.length := by omega
      have w1 : IntKind.i64.wrap ((k : Int) + 1) = k + 1 := wrap_i64 (by omega) (by omega)
      generalize raiseL so x.inv q = q' at *
      repeat' (first
 |refine AW_seq_k fun K hK=>?_|refine Step.by1 ?_|refine SBlock_exit_ne (by decide) ?_|refine cz rfl ?_|refine Fork.by2 (fun h=>?_) fun h=>?_
 |(refine AW_region_AO ?_;simp [vl, NetD.cells, AutoD.cells, LocD.cells, H5, hkt, hkt', hx, w1])
 |(refine Split.by2 (fun h=>?_) (fun h=>?_)<;>(simp [h, vl, NetD.cells, AutoD.cells, LocD.cells, H5, hkt, hkt', hx, w1]))
 |(refine AS_callG (f := 158) rfl rfl (hc.imp (by simp [vl, LocD.cells]) (by simp [H5, NetD.cells, AutoD.cells, LocD.cells, vl])) rfl (fun v h' hq => ?_); obtain ⟨rfl, rfl⟩ := hq; simp [vl, H5, NetD.cells, AutoD.cells, LocD.cells])
 |(apply hK;clear hK K)|refine AWh (by assumption) ?_)
      exact ⟨q', hG, by omega, by apply Weak.mk' <;> simp [vl, NetD.cells, AutoD.cells, H5]⟩
    · intro q hJ2 hG
      rw [raiseLs_nil] at hG
      subst hG
      repeat' (first
 |refine AW_seq_k fun K hK=>?_|refine Step.by1 ?_|refine SBlock_exit_ne (by decide) ?_|refine cz rfl ?_|refine Fork.by2 (fun h=>?_) fun h=>?_
 |(refine AW_region_AO ?_;simp [vl, NetD.cells, AutoD.cells, H5])
 |(refine Split.by2 (fun h=>?_) (fun h=>?_)<;>(simp [h, vl, NetD.cells, AutoD.cells, H5]))
 |(apply hK;clear hK K)|refine AWh (by assumption) ?_)
      obtain ⟨r2, hr2⟩ : ∃ r2, raiseEs so a.edges q = r2 := ⟨_, rfl⟩
      rw [hr2] at hF
      refine AW_range (r := r2) a.edges 45 [1, 2, 6, 8, 17, 18, 19, 43, 44] (fun c : List Int => []) (fun c => H5 n fso c ++ [.var n.cells, .var [.int .i64 0, .int .i64 0, .int .i64 0], .var a.cells]) (fun i c => c.length = o.length) (raiseEs so) q
        hr2 hJ2 (by apply Weak.mk' <;> simp [vl, NetD.cells, AutoD.cells, H5]) (fun _ _ _ => by simp [H5_len]) ?_ ?_
      · intro k q2 x _ hkt hx hJ3 hG
        rw [raiseEs_cons] at hG
        have hmx : x ∈ a.edges := hx ▸ List.getElem_mem hkt
        have hox := he2 x hmx
        have hc := c_num3 n fso so hso x q2 [.var n.cells, .var [.int .i64 0, .int .i64 0, .int .i64 0], .var a.cells, .var x.cells] (by omega) hox.2.2.1.1 (fun g h => by rw [hJ3]; exact hge a hm x hmx g h) (by simp [NetD.cells, AutoD.cells, EdgeD.cells, vl])
        have hq1 : (raiseL so x.guards q2).length = q2.length := raiseL_len
        have hkt' : (k : Int) < a.edges.length := by omega
        have w1 : IntKind.i64.wrap ((k : Int) + 1) = k + 1 := wrap_i64 (by omega) (by omega)
        generalize raiseL so x.guards q2 = q' at *
        repeat' (first
 |refine AW_seq_k fun K hK=>?_|refine Step.by1 ?_|refine SBlock_exit_ne (by decide) ?_|refine cz rfl ?_|refine Fork.by2 (fun h=>?_) fun h=>?_
 |(refine AW_region_AO ?_;simp [vl, NetD.cells, AutoD.cells, EdgeD.cells, H5, hkt, hkt', hx, w1])
 |(refine Split.by2 (fun h=>?_) (fun h=>?_)<;>(simp [h, vl, NetD.cells, AutoD.cells, EdgeD.cells, H5, hkt, hkt', hx, w1]))
 |(refine AS_callG (f := 159) rfl rfl (hc.imp (by simp [vl, EdgeD.cells]) (by simp [H5, NetD.cells, AutoD.cells, EdgeD.cells, vl])) rfl (fun v h' hq => ?_); obtain ⟨rfl, rfl⟩ := hq; simp [vl, H5, NetD.cells, AutoD.cells, EdgeD.cells])
 |(apply hK;clear hK K)|refine AWh (by assumption) ?_)
        exact ⟨q', hG, by omega, by apply Weak.mk' <;> simp [vl, NetD.cells, AutoD.cells, H5]⟩
      · intro q2 hJ3 hG
        rw [raiseEs_nil] at hG
        subst hG
        repeat' (first
 |refine AW_seq_k fun K hK=>?_|refine Step.by1 ?_|refine SBlock_exit_ne (by decide) ?_|refine cz rfl ?_|refine Fork.by2 (fun h=>?_) fun h=>?_
 |(refine AW_region_AO ?_;simp [vl, NetD.cells, AutoD.cells, H5, w0])
 |(refine Split.by2 (fun h=>?_) (fun h=>?_)<;>(simp [h, vl, NetD.cells, AutoD.cells, H5, w0]))
 |(apply hK;clear hK K)|refine AWh (by assumption) ?_)
        exact ⟨q2, hF, hJ3, by apply Weak.mk' <;> simp [vl, NetD.cells, H5]⟩
  · intro c hJ hF
    rw [raiseAs_nil] at hF
    subst hF
    repeat' (first
 |refine AW_seq_k fun K hK=>?_|refine Step.by1 ?_|refine SBlock_exit_ne (by decide) ?_|refine cz rfl ?_|refine Fork.by2 (fun h=>?_) fun h=>?_
 |(refine AW_region_AO ?_;simp [vl, NetD.cells, H5])
 |(refine Split.by2 (fun h=>?_) (fun h=>?_)<;>(simp [h, vl, NetD.cells, H5]))
 |(apply hK;clear hK K)|refine AWh (by assumption) ?_)
    exact retg2c (h' := H5 n fso c) rfl (by simp) ⟨by simp [spotV], rfl⟩ (by simp) (by simpa [H5, NetD.cells, vl] using Go.AM.Leaves.tail (a := H5 n fso o) (a' := H5 n fso c) (e := []) (x := [.var n.cells, .var [.int .i64 0, .int .i64 0, .int .i64 0]]) (by simp [H5_len]) (H5_lt (by simp [H5_len])))
end Go.Proofs.YtgmlimipejcpgaaGreatDoor
end

section
set_option linter.unusedVariables false
set_option linter.unusedSimpArgs false
namespace Go.Proofs.YtgmlimipejcpgaaGreatDoor
open Go Go.AM Fx
def longP (p : PartD) : Bool := decide (16 < p.locs.length ∨ 16 < p.guards.length ∨ 64 < p.test.length)
def atB (n : NetD) (x : AtD) : Bool := decide (x.auto < 0 ∨ (n.autos.length : Int) ≤ x.auto ∨ x.loc < 0 ∨ ((n.autos.getD x.auto.toNat default).locs.length : Int) ≤ x.loc)
def g1E (p : PartD) : Int := if longP p = true then 6 else 0
def g2E (n : NetD) (p : PartD) : Int := if anyL (atB n) p.locs = true then 122 else 0
def goF (f : PartD → Int) : List PartD → Int
  | [] => 0
  | p :: r => if f p ≠ 0 then f p else goF f r
theorem goF_nil {f : PartD → Int} : goF f [] = 0 := rfl
theorem goF_cons {f : PartD → Int} {p : PartD} {r : List PartD} : goF f (p :: r) = if f p ≠ 0 then f p else goF f r := rfl
def wholeGoalE (n : NetD) (g : List PartD) : Int :=
  firstE [wholeE n, if 16 < g.length then 6 else 0, goF g1E g, goF (g2E n) g, goF (fun p => clkE n p.guards) g, goF (fun p => cmpE p.guards) g, goF (fun p => truthE n p.test) g]
def goalE (n : NetD) (g : List PartD) : Int := firstE [netE n, wholeGoalE n g, goF (fun p => diagE p.guards) g, goF (fun p => greatE p.guards) g]
def okGoal (g : List PartD) : Prop := g.length ≤ 1048576 ∧ ∀ p ∈ g, p.ok
theorem c_WG1 (p : PartD) : PC 145 [.agg p.cells] (.int .i64 (g1E p)) := by
  obtain ⟨r, hr⟩ : ∃ r, g1E p = r := ⟨_, rfl⟩
  rw [hr]
  unfold g1E longP at hr
  refine PCall_body Tryz.func145 rfl (by decide) Tryz.ntmps145 (by simp) Tryz.results145 ?_
  repeat' (first
 |refine AW_seq_k fun K hK=>?_|refine Step.by1 ?_|refine SBlock_exit_ne (by decide) ?_|refine cz rfl ?_|refine Fork.by2 (fun h=>?_) fun h=>?_
 |(refine AW_region_AO ?_;simp [vl, PartD.cells])
 |(refine Split.by2 (fun h=>?_) (fun h=>?_)<;>(simp [h, vl, PartD.cells]))
 |(apply hK;clear hK K)|refine AWh (by assumption) ?_)
  all_goals first
    | exact retq1 (conv_eq (by rw [← hr, if_pos (by simp; omega)]; rfl) rfl)
    | exact retq1 (conv_eq (by rw [← hr, if_neg (by simp; omega)]; rfl) rfl)
    | (exfalso; omega)
    | trace_state
theorem c_WG4 (p : PartD) (hp : p.ok) : PC 149 [.agg p.cells] (.int .i64 (cmpE p.guards)) := by
  have hc := c_cmpE p.guards (by have := hp.2.1.1; omega)
  simp only [vl] at hc
  refine PCall_body Tryz.func149 rfl (by decide) Tryz.ntmps149 (by simp) Tryz.results149 ?_
  repeat' (first
 |refine AW_seq_k fun K hK=>?_|refine Step.by1 ?_|refine SBlock_exit_ne (by decide) ?_|refine cz rfl ?_|refine Fork.by2 (fun h=>?_) fun h=>?_
 |((first|refine AW_region_AO ?_|refine AS_call1 (f:=150) rfl rfl (hc) rfl rfl rfl ?_);simp [vl, PartD.cells])
 |(refine Split.by2 (fun h=>?_) (fun h=>?_)<;>(simp [h, vl, PartD.cells]))
 |(apply hK;clear hK K)|refine AWh (by assumption) ?_)
  exact retq1 (conv_eq rfl rfl)
theorem c_WG3 (n : NetD) (p : PartD) (hp : p.ok) (e : List B) : GCall Tryz.prog GV 147 [.agg p.cells, .ptr 0 0] (.var n.cells :: e) (fun v h' => v = .int .i64 (clkE n p.guards) ∧ h' = .var n.cells :: e) := by
  have hc := c_clkE n p.guards (by have := hp.2.1.1; omega)
  simp only [vl, NetD.cells] at hc
  generalize clkE n p.guards = k at *
  refine GCall_body Tryz.func147 rfl (by decide) Tryz.ntmps147 (by simp) Tryz.results147 ?_
  repeat' (first
 |refine AW_seq_k fun K hK=>?_|refine Step.by1 ?_|refine SBlock_exit_ne (by decide) ?_|refine cz rfl ?_|refine Fork.by2 (fun h=>?_) fun h=>?_
 |((first|refine AW_region_AO ?_|refine AS_call1 (f:=148) rfl rfl (hc) rfl rfl rfl ?_);simp [vl, PartD.cells, NetD.cells])
 |(refine Split.by2 (fun h=>?_) (fun h=>?_)<;>(simp [h, vl, PartD.cells, NetD.cells]))
 |(apply hK;clear hK K)|refine AWh (by assumption) ?_)
  exact retg1 (h' := .var n.cells :: e) ⟨rfl, rfl⟩ rfl (by simpa [NetD.cells, PartD.cells, vl] using leaves_drop (h := .var n.cells :: e) (x := [.var p.cells]))
theorem c_WG5 (n : NetD) (hn : n.ok) (p : PartD) (hp : p.ok) (e : List B) : GCall Tryz.prog GV 151 [.agg p.cells, .ptr 0 0] (.var n.cells :: e) (fun v h' => v = .int .i64 (truthE n p.test) ∧ h' = .var n.cells :: e) := by
  have hc := c_truth n p.test hp.2.2 hn.2.1.1
  simp only [vl, NetD.cells] at hc
  generalize truthE n p.test = k at *
  refine GCall_body Tryz.func151 rfl (by decide) Tryz.ntmps151 (by simp) Tryz.results151 ?_
  repeat' (first
 |refine AW_seq_k fun K hK=>?_|refine Step.by1 ?_|refine SBlock_exit_ne (by decide) ?_|refine cz rfl ?_|refine Fork.by2 (fun h=>?_) fun h=>?_
 |((first|refine AW_region_AO ?_|refine AS_call1 (f:=152) rfl rfl (hc) rfl rfl rfl ?_);simp [vl, PartD.cells, NetD.cells])
 |(refine Split.by2 (fun h=>?_) (fun h=>?_)<;>(simp [h, vl, PartD.cells, NetD.cells]))
 |(apply hK;clear hK K)|refine AWh (by assumption) ?_)
  exact retg1 (h' := .var n.cells :: e) ⟨rfl, rfl⟩ rfl (by simpa [NetD.cells, PartD.cells, vl] using leaves_drop (h := .var n.cells :: e) (x := [.var p.cells]))
set_option maxRecDepth 20000 in
set_option maxHeartbeats 8000000 in
theorem c_WG2 (n : NetD) (hn : n.ok) (p : PartD) (hp : p.ok) (e : List B) (hE : ∀ y ∈ e, y.lt (1 + e.length)) : GCall Tryz.prog GV 146 [.agg p.cells, .ptr 0 0] (.var n.cells :: e) (fun v h' => v = .int .i64 (g2E n p) ∧ h' = .var n.cells :: e) := by
  obtain ⟨r, hr⟩ : ∃ r, g2E n p = r := ⟨_, rfl⟩
  rw [hr]
  have hpl := hp.1.1
  have hnl := hn.2.2.2.1
  obtain ⟨E, hE'⟩ : ∃ E : List AtD → Int, E = fun l => if anyL (atB n) l = true then 122 else 0 := ⟨_, rfl⟩
  have hEc : ∀ a l, E (a :: l) = if atB n a = true then 122 else E l := fun a l => by subst hE'; by_cases h : atB n a = true <;> simp [anyL_cons, h]
  have hEn : E p.locs = r := by subst hE'; exact hr
  have hE0 : E [] = 0 := by subst hE'; rfl
  clear hr hE'
  have hlt1 : ∀ (y : B), y ∈ e ++ [B.var p.cells] → y.lt ([B.var n.cells] ++ (e ++ [B.var p.cells])).length := fun y hy => by
    rcases List.mem_append.1 hy with h | h
    · exact B.lt_mono (by simp; omega) (hE y h)
    · simp at h; subst h; simp [PartD.cells, vl]
  refine GCall_body Tryz.func146 rfl (by decide) Tryz.ntmps146 (by simp) Tryz.results146 ?_
  repeat' (first
 |refine AW_seq_k fun K hK=>?_|refine Step.by1 ?_|refine SBlock_exit_ne (by decide) ?_|refine cz rfl ?_|refine Fork.by2 (fun h=>?_) fun h=>?_
 |(refine AW_region_AO ?_;simp [vl, PartD.cells, NetD.cells])
 |(refine Split.by2 (fun h=>?_) (fun h=>?_)<;>(simp [h, vl, PartD.cells, NetD.cells]))
 |(apply hK;clear hK K)|refine AWh (by assumption) ?_)
  refine AW_range (r := r) p.locs 9 [1, 7, 8] (fun c : Unit => []) (fun _ => [.var n.cells] ++ (e ++ [.var p.cells])) (fun i c => True) (fun l _ => E l) ()
    hEn trivial (Weak.tail (x := []) (by simp [vl, NetD.cells, PartD.cells]) (by simp [vl]) (by simp [NetD.cells, vl]) hlt1) (fun _ _ _ => by simp) ?_ ?_
  · intro i c x _ hlt hx _ hF
    rw [hEc] at hF
    have hlt' : (i : Int) < p.locs.length := by omega
    have w1 : IntKind.i64.wrap ((i : Int) + 1) = i + 1 := wrap_i64 (by omega) (by omega)
    have ha : atB n x = decide (x.auto < 0 ∨ (n.autos.length : Int) ≤ x.auto ∨ x.loc < 0 ∨ ((n.autos.getD x.auto.toNat default).locs.length : Int) ≤ x.loc) := rfl
    by_cases q : 0 ≤ x.auto ∧ x.auto < n.autos.length
    · obtain ⟨k, hk⟩ := Int.eq_ofNat_of_zero_le q.1
      have hkl : k < n.autos.length := by omega
      have hkl' : (k : Int) < n.autos.length := by omega
      obtain ⟨a, haa⟩ : ∃ a, n.autos[k] = a := ⟨_, rfl⟩
      have hg : n.autos.getD x.auto.toNat default = a := by rw [hk]; simp [List.getD, hkl, haa]
      rw [hg] at ha
      have hk0 : ¬ (k : Int) < 0 := by omega
      have hk1 : ¬ (n.autos.length : Int) ≤ k := by omega
      rw [hk] at ha
      repeat' (first
 |refine AW_seq_k fun K hK=>?_|refine Step.by1 ?_|refine SBlock_exit_ne (by decide) ?_|refine cz rfl ?_|refine Fork.by2 (fun h=>?_) fun h=>?_
 |((first|refine AW_region_AO ?_|refine AW_region_APx (id:=4) 29 mixed (by decide) ?_);simp [vl, PartD.cells, NetD.cells, AtD.cells, AutoD.cells, hlt, hlt', hx, w1, hk, hkl, hkl', haa, hk0, hk1])
 |(refine Split.by2 (fun h=>?_) (fun h=>?_)<;>(simp [h, vl, PartD.cells, NetD.cells, AtD.cells, AutoD.cells, hlt, hlt', hx, w1, hk, hkl, hkl', haa, hk0, hk1]))
 |(apply hK;clear hK K)|refine AWh (by assumption) ?_)
      all_goals first
        | (rw [if_pos (by rw [ha]; simp; omega)] at hF
           exact retg1 (h' := .var n.cells :: e) ⟨by rw [← hF]; rfl, rfl⟩ rfl (by simpa [NetD.cells, PartD.cells, AtD.cells, vl, hk] using leaves_drop (h := .var n.cells :: e) (x := [.var p.cells, .var x.cells])))
        | (rw [if_neg (by rw [ha]; simp; omega)] at hF
           refine ⟨hF, ?_⟩
           refine Weak.tail (a := [B.var n.cells]) (e := e ++ [.var p.cells]) (x := [B.var x.cells]) ?_ ?_ ?_ hlt1
           · simp [NetD.cells, PartD.cells, AtD.cells, vl, hk]
           · simp [vl]
           · simp [NetD.cells, vl])
        | trace_state
    · rw [if_pos (by rw [ha]; simp; omega)] at hF
      repeat' (first
 |refine AW_seq_k fun K hK=>?_|refine Step.by1 ?_|refine SBlock_exit_ne (by decide) ?_|refine cz rfl ?_|refine Fork.by2 (fun h=>?_) fun h=>?_
 |((first|refine AW_region_AO ?_|refine AW_region_APx (id:=4) 29 mixed (by decide) ?_);simp [vl, PartD.cells, NetD.cells, AtD.cells, hlt, hlt', hx, w1])
 |(refine Split.by2 (fun h=>?_) (fun h=>?_)<;>(simp [h, vl, PartD.cells, NetD.cells, AtD.cells, hlt, hlt', hx, w1]))
 |(apply hK;clear hK K)|refine AWh (by assumption) ?_)
      all_goals first
        | (exfalso; omega)
        | exact retg1 (h' := .var n.cells :: e) ⟨by rw [← hF]; rfl, rfl⟩ rfl (by simpa [NetD.cells, PartD.cells, AtD.cells, vl] using leaves_drop (h := .var n.cells :: e) (x := [.var p.cells, .var x.cells]))
        | trace_state
  · intro c _ hF
    repeat' (first
 |refine AW_seq_k fun K hK=>?_|refine Step.by1 ?_|refine SBlock_exit_ne (by decide) ?_|refine cz rfl ?_|refine Fork.by2 (fun h=>?_) fun h=>?_
 |(refine AW_region_AO ?_;simp [vl, PartD.cells, NetD.cells])
 |(refine Split.by2 (fun h=>?_) (fun h=>?_)<;>(simp [h, vl, PartD.cells, NetD.cells]))
 |(apply hK;clear hK K)|refine AWh (by assumption) ?_)
    exact retg1 (h' := .var n.cells :: e) ⟨by rw [← hF, hE0]; rfl, rfl⟩ rfl (by simpa [NetD.cells, PartD.cells, vl] using leaves_drop (h := .var n.cells :: e) (x := [.var p.cells]))
end Go.Proofs.YtgmlimipejcpgaaGreatDoor
end
