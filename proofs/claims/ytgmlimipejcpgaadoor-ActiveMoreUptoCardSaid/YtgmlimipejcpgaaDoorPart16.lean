/-
  YtgmlimipejcpgaaDoorPart16: steps of the proof of a law of the program: what these texts prove holds under the hypotheses that their theorems name, and no others.
-/
import Derived.Test.YtgmlimipejcpgaaDoorPart15
section
set_option linter.unusedVariables false
set_option linter.unusedSimpArgs false
namespace Go.Proofs.YtgmlimipejcpgaaDoor
open Go Go.AM Fx
set_option maxRecDepth 40000 in
set_option maxHeartbeats 16000000 in
theorem c_ActiveMore (n : NetD) (hn : n.ok) (gs : List (List PartD)) (hg : okGoals gs) (g : List PartD) (hp : okGoal g) : PC 5 [.agg n.cells, gsV gs, vl PartD.cells g] (.bool true) := by
  have hgl := hg.1
  have hgs := hg.2
  have hgs2 : ∀ x ∈ gs ++ [g], okGoal x := fun x hx => by
    rcases List.mem_append.1 hx with h | h
    · exact hgs x h
    · rw [List.mem_singleton.1 h]; exact hp
  have h4 := c_live24
  have b1 : gs.length * 24 ≤ 140737488355328 := by omega
  have b2 : (gs.length + 1) * 24 ≤ 140737488355328 := by omega
  have tk : List.take gs.length (gs.map fun g => [vl PartD.cells g]) = gs.map fun g => [vl PartD.cells g] := List.take_of_length_le (by simp)
  have hgv : gsV (gs ++ [g]) = .vec (gs.map (fun g => [vl PartD.cells g]) ++ [[vl PartD.cells g]]) (gs.length + 1) := by simp [gsV]
  -- the two plans: what both say
  obtain ⟨x1, x2, e1, y1, y2, e2, hX, hY, hXY, hlt⟩ : ∃ (x1 x2 : V) (e1 : Int) (y1 y2 : V) (e2 : Int), PC 14 [.agg n.cells, gsV gs] (.tup [.agg [x1, x2], .int .i64 e1]) ∧ PC 14 [.agg n.cells, gsV (gs ++ [g])] (.tup [.agg [y1, y2], .int .i64 e2]) ∧
      (e1 ≠ 0 ∨ e2 ≠ 0 ∨ ∃ M M', e1 = 0 ∧ e2 = 0 ∧ x1 = halfV (planP n gs M) ∧ x2 = halfV (planP n gs M) ∧ y1 = halfV (planP n (gs ++ [g]) M') ∧ y2 = halfV (planP n (gs ++ [g]) M') ∧ lookE n gs = 0 ∧ M.length = n.clocks.length ∧ M'.length = M.length ∧ ∀ (i : Nat) (v : Int), M[i]? = some v → ∃ w, M'[i]? = some w ∧ v ≤ w) ∧ ∀ m, x1.lt m = true ∧ x2.lt m = true ∧ y1.lt m = true ∧ y2.lt m = true := by
    by_cases q2 : lookE n (gs ++ [g]) = 0
    · have q1 := look_less q2
      obtain ⟨M', hM', hl'⟩ := numb_ok (so := fun _ => true) q2
      rcases numb_snoc (n := n) (so := fun _ => true) (gs := gs) (g := g) with h | ⟨a, b, ha, hb, hl, hi⟩
      · rw [h] at hM'; cases hM'
      · exact ⟨_, _, _, _, _, _, c_PlanF n hn gs (by omega) hgs q1 a ha, c_PlanF n hn (gs ++ [g]) (by simp; omega) hgs2 q2 b hb, .inr (.inr ⟨a, b, rfl, rfl, rfl, rfl, rfl, rfl, q1, numb_len ha, hl, hi⟩), fun m => ⟨rfl, rfl, rfl, rfl⟩⟩
    · have hB := c_PlanBad n hn (gs ++ [g]) (by simp; omega) hgs2 q2
      by_cases q1 : lookE n gs = 0
      · obtain ⟨M, hM, _⟩ := numb_ok (so := fun _ => true) q1
        exact ⟨_, _, _, _, _, _, c_PlanF n hn gs (by omega) hgs q1 M hM, hB, .inr (.inl q2), fun m => ⟨rfl, rfl, rfl, rfl⟩⟩
      · exact ⟨_, _, _, _, _, _, c_PlanBad n hn gs (by omega) hgs q1, hB, .inl q1, fun m => ⟨rfl, rfl, rfl, rfl⟩⟩
  rw [hgv] at hY
  simp only [NetD.cells, vl, gsV] at hX hY tk ⊢
  refine PCall_body Tryd.func5 rfl (by decide) Tryd.ntmps5 (by simp) Tryd.results5 ?_
  repeat' (first
 |refine AW_seq_k fun K hK=>?_|refine Step.by1 ?_|refine SBlock_exit_ne (by decide) ?_|refine cz rfl ?_|refine Fork.by2 (fun h=>?_) fun h=>?_
 |((first|refine AW_region_AO ?_|refine AS_call1 (f:=14) rfl rfl (hX) rfl rfl rfl ?_);simp [b1, b2, tk])
 |(refine Split.by2 (fun h=>?_) (fun h=>?_)<;>(simp [h, b1, b2, tk]))
 |(apply hK;clear hK K)|refine AWh (by assumption) ?_)
  have l1 : ∀ m, x1.lt m = true := fun m => (hlt m).1
  have l2 : ∀ m, x2.lt m = true := fun m => (hlt m).2.1
  have l3 : ∀ m, y1.lt m = true := fun m => (hlt m).2.2.1
  have l4 : ∀ m, y2.lt m = true := fun m => (hlt m).2.2.2
  have hrest : ∀ (s : St) (q : Nat), s.n = 164 → HL s.h → s.h[0]? = some (.var n.cells) → s.h[1]? = some (.var [x1, x2]) → s.h[q]? = some (.var [y1, y2]) → lk s.tm 1 = gsV gs → lk s.tm 3 = .ptr 0 0 → lk s.tm 7 = .ptr 1 0 → lk s.tm 8 = .int .i64 e1 → lk s.tm 9 = .ptr q 0 → lk s.tm 10 = .int .i64 e2 → K s := by
    rintro ⟨sn, tm, H⟩ q hsn hH k0 k1 kq t1 t3 t7 t8 t9 t10
    refine hK _ ?_
    simp only at hsn hH k0 k1 kq t1 t3 t7 t8 t9 t10
    subst hsn
    have ql := (List.getElem?_eq_some_iff.1 kq).1
    have z0 := (List.getElem?_eq_some_iff.1 k0).1
    have z1 := (List.getElem?_eq_some_iff.1 k1).1
    refine AW.weak (st' := ⟨164, [(1, gsV gs), (3, .ptr 0 0), (7, .ptr 1 0), (8, .int .i64 e1), (9, .ptr q 0), (10, .int .i64 e2)], H⟩) (Weak.sym (x := []) (by simp) hH (by simp [t1, t3, t7, t8, t9, t10, gsV, vl, ql, z0, z1])) rfl ?_
    clear hK t1 t3 t7 t8 t9 t10 hX hY
    rcases hXY with hz | hz | ⟨M, M', rfl, rfl, rfl, rfl, rfl, rfl, he, hM, hM', hmm⟩
    · repeat' (first
 |refine AW_seq_k fun K hK=>?_|refine Step.by1 ?_|refine SBlock_exit_ne (by decide) ?_|refine cz rfl ?_|refine Fork.by2 (fun h=>?_) fun h=>?_
 |((first|refine AW_region_AO ?_|refine AS_call1 (f:=15) rfl rfl (h4) rfl rfl rfl ?_);simp [hz])
 |(refine Split.by2 (fun h=>?_) (fun h=>?_)<;>(simp [h, hz]))
 |(apply hK;clear hK K)|refine AWh (by assumption) ?_)
      all_goals exact retq1 (conv_eq rfl rfl)
    · repeat' (first
 |refine AW_seq_k fun K hK=>?_|refine Step.by1 ?_|refine SBlock_exit_ne (by decide) ?_|refine cz rfl ?_|refine Fork.by2 (fun h=>?_) fun h=>?_
 |((first|refine AW_region_AO ?_|refine AS_call1 (f:=15) rfl rfl (h4) rfl rfl rfl ?_);simp [hz])
 |(refine Split.by2 (fun h=>?_) (fun h=>?_)<;>(simp [h, hz]))
 |(apply hK;clear hK K)|refine AWh (by assumption) ?_)
      all_goals exact retq1 (conv_eq rfl rfl)
    · have hS1 := planP_shaped (n := n) (gs := gs) hM
      have hS2 := planP_shaped (n := n) (gs := gs ++ [g]) (M := M') (by omega)
      have c1 := c_shaped n hn _ hS1
      have c2 := c_shaped n hn _ hS2
      have hE := edges_ok (netE_whole (look_ok he).1)
      obtain ⟨P1, hP1⟩ : ∃ P1, planP n gs M = P1 := ⟨_, rfl⟩
      obtain ⟨P2, hP2⟩ : ∃ P2, planP n (gs ++ [g]) M' = P2 := ⟨_, rfl⟩
      rw [hP1] at c1 hS1 k1
      rw [hP2] at c2 hS2 kq
      simp only [NetD.cells, vl, halfV] at c1 c2 k0 k1 kq
      have p1l : (rows3V P1).length = P1.length := by simp [rows3V]
      have p2l : (rows3V P2).length = P2.length := by simp [rows3V]
      have e12 : P2.length = P1.length := by rw [hS1.a, hS2.a]
      have hal := hn.2.2.2.1
      have ha1 := hS1.a
      repeat' (first
 |refine AW_seq_k fun K hK=>?_|refine Step.by1 ?_|refine SBlock_exit_ne (by decide) ?_|refine cz rfl ?_|refine Fork.by2 (fun h=>?_) fun h=>?_
 |((first|refine AW_region_AO ?_|refine AS_call1 (f:=15) rfl rfl (h4) rfl rfl rfl ?_|refine AS_call1 (f:=16) rfl rfl (c1) rfl rfl rfl ?_|refine AS_call1 (f:=16) rfl rfl (c2) rfl rfl rfl ?_);simp [k0, k1, kq, gsV, vl, NetD.cells, halfV])
 |(refine Split.by2 (fun h=>?_) (fun h=>?_)<;>(simp [h, k0, k1, kq, gsV, vl, NetD.cells, halfV]))
 |(apply hK;clear hK K)|refine AWh (by assumption) ?_)
      refine AW_scan (r := true) P1 11 [1, 3, 7, 9] (fun _ => true) rfl (Weak.sym (x := []) (by simp) hH (by simp [z0, z1, ql])) ?_ ?_
      · intro i Q1 hQi hil hQ1 _
        have hin : i < n.autos.length := by omega
        obtain ⟨a, ha⟩ : ∃ a, n.autos[i] = a := ⟨_, rfl⟩
        have ham : a ∈ n.autos := ha ▸ List.getElem_mem hin
        have hll := (hn.2.2.2.2 a ham).2.1.1
        have hi1 : (i : Int) < P1.length := by omega
        have hil2 : i < P2.length := by omega
        have hi2 : (i : Int) < P2.length := by omega
        have w1 : IntKind.i64.wrap ((i : Int) + 1) = i + 1 := wrap_i64 (by omega) (by omega)
        have q1 : Q1 = planA gs M a := by rw [← hQ1, ← ha]; simp [← hP1, planP]
        obtain ⟨Q2, hQ2⟩ : ∃ Q2, P2[i] = Q2 := ⟨_, rfl⟩
        have q2 : Q2 = planA (gs ++ [g]) M' a := by rw [← hQ2, ← ha]; simp [← hP2, planP]
        have g1 : (rows3V P1)[i]'(by rw [p1l]; exact hil) = [V.vec (rows2V Q1) Q1.length] := by simp [rows3V, hQ1]
        have g2 : (rows3V P2)[i]'(by rw [p2l]; exact hil2) = [V.vec (rows2V Q2) Q2.length] := by simp [rows3V, hQ2]
        have n1 : Q1.length = a.locs.length := by rw [q1]; simp [planA]
        have n2 : Q2.length = a.locs.length := by rw [q2]; simp [planA]
        have r1l : (rows2V Q1).length = Q1.length := by simp [rows2V]
        have r2l : (rows2V Q2).length = Q2.length := by simp [rows2V]
        repeat' (first
 |refine AW_seq_k fun K hK=>?_|refine Step.by1 ?_|refine SBlock_exit_ne (by decide) ?_|refine cz rfl ?_|refine Fork.by2 (fun h=>?_) fun h=>?_
 |(refine AW_region_AO ?_;simp [k0, k1, kq, p1l, p2l, hil, hil2, hi1, hi2, g1, g2])
 |(refine Split.by2 (fun h=>?_) (fun h=>?_)<;>(simp [h, k0, k1, kq, p1l, p2l, hil, hil2, hi1, hi2, g1, g2]))
 |(apply hK;clear hK K)|refine AWh (by assumption) ?_)
        refine AW_scan (r := true) Q1 12 [1, 3, 7, 9, 11] (fun _ => true) rfl (Weak.sym (x := []) (by simp) hH (by simp [z0, z1, ql])) ?_ ?_
        · intro k R1 hRk hkl hR1 _
          have hkl2 : k < Q2.length := by omega
          have hk1 : (k : Int) < Q1.length := by omega
          have hk2 : (k : Int) < Q2.length := by omega
          have w2 : IntKind.i64.wrap ((k : Int) + 1) = k + 1 := wrap_i64 (by omega) (by omega)
          have hka : k < a.locs.length := by omega
          have s1 : R1 = planRow a gs M k := by rw [← hR1]; simp [q1, planA]
          obtain ⟨R2, hR2⟩ : ∃ R2, Q2[k] = R2 := ⟨_, rfl⟩
          have s2 : R2 = planRow a (gs ++ [g]) M' k := by rw [← hR2]; simp [q2, planA]
          have g3 : (rows2V Q1)[k]'(by rw [r1l]; exact hkl) = [V.vec (ivs R1) R1.length] := by simp [rows2V, hR1]
          have g4 : (rows2V Q2)[k]'(by rw [r2l]; exact hkl2) = [V.vec (ivs R2) R2.length] := by simp [rows2V, hR2]
          have m1 : R1.length = M.length := by rw [s1]; simp [planRow]
          have m2 : R2.length = M.length := by rw [s2]; simp [planRow, hM']
          have i1l : (ivs R1).length = R1.length := by simp [ivs]
          have i2l : (ivs R2).length = R2.length := by simp [ivs]
          have hNl := hn.1.1
          repeat' (first
 |refine AW_seq_k fun K hK=>?_|refine Step.by1 ?_|refine SBlock_exit_ne (by decide) ?_|refine cz rfl ?_|refine Fork.by2 (fun h=>?_) fun h=>?_
 |(refine AW_region_AO ?_;simp [k0, k1, kq, p1l, p2l, hil, hil2, hi1, hi2, g1, g2, r1l, r2l, hkl, hkl2, hk1, hk2, g3, g4])
 |(refine Split.by2 (fun h=>?_) (fun h=>?_)<;>(simp [h, k0, k1, kq, p1l, p2l, hil, hil2, hi1, hi2, g1, g2, r1l, r2l, hkl, hkl2, hk1, hk2, g3, g4]))
 |(apply hK;clear hK K)|refine AWh (by assumption) ?_)
          refine AW_scan (r := true) R1 13 [1, 3, 7, 9, 11, 12] (fun _ => true) rfl (Weak.sym (x := []) (by simp) hH (by simp [z0, z1, ql])) ?_ ?_
          · intro c u hu hcl hR1c _
            have hcl2 : c < R2.length := by omega
            have hc1 : (c : Int) < R1.length := by omega
            have hc2 : (c : Int) < R2.length := by omega
            have w3 : IntKind.i64.wrap ((c : Int) + 1) = c + 1 := wrap_i64 (by omega) (by omega)
            obtain ⟨v, hv⟩ : ∃ v, R2[c] = v := ⟨_, rfl⟩
            have g5 : (ivs R1)[c]'(by rw [i1l]; exact hcl) = [V.int .i64 u] := by simp [ivs, hR1c]
            have g6 : (ivs R2)[c]'(by rw [i2l]; exact hcl2) = [V.int .i64 v] := by simp [ivs, hv]
            have hcM : c < M.length := by omega
            have d1 : (planRow a gs M k).getD c 0 = u := by rw [← s1]; simp [List.getD, hcl, hR1c]
            have d2 : (planRow a (gs ++ [g]) M' k).getD c 0 = v := by rw [← s2]; simp [List.getD, hcl2, hv]
            have hge := fun h : 0 ≤ u => more_ge (a := a) (gs := gs) (g := g) (M := M) (M' := M') (k := k) hcM hM' hmm (by rw [d1]; exact h)
            rw [d2] at hge
            have hre := fun h : 0 ≤ u => reason_of (hE a ham) (gs := gs) hcM hka (by rw [d1]; exact h)
            by_cases hu0 : 0 ≤ u
            · have hv0 : ¬ v < 0 := by have := hge hu0; omega
              have hcr := c_reason n hn P1 P1 hS1 gs (by omega) hgs i k c a hin ha (hE a ham) hka (by omega) hil
              rw [hQ1, q1, hre hu0] at hcr
              simp only [NetD.cells, vl, gsV, halfV] at hcr
              repeat' (first
 |refine AW_seq_k fun K hK=>?_|refine Step.by1 ?_|refine SBlock_exit_ne (by decide) ?_|refine cz rfl ?_|refine Fork.by2 (fun h=>?_) fun h=>?_
 |((first|refine AW_region_AO ?_|refine AW_region_APx (id:=16) 51 mixed (by decide) ?_|refine AS_call1 (f:=17) rfl rfl (hcr) rfl rfl rfl ?_);simp [gsV, vl, NetD.cells, halfV, k0, k1, kq, p1l, p2l, hil, hil2, hi1, hi2, g1, g2, r1l, r2l, hkl, hkl2, hk1, hk2, g3, g4, i1l, i2l, hcl, hcl2, hc1, hc2, g5, g6, hu0, hv0, w3])
 |(refine Split.by2 (fun h=>?_) (fun h=>?_)<;>(simp [h, gsV, vl, NetD.cells, halfV, k0, k1, kq, p1l, p2l, hil, hil2, hi1, hi2, g1, g2, r1l, r2l, hkl, hkl2, hk1, hk2, g3, g4, i1l, i2l, hcl, hcl2, hc1, hc2, g5, g6, hu0, hv0, w3]))
 |(apply hK;clear hK K)|refine AWh (by assumption) ?_)
              exact Weak.sym (x := []) (by simp) hH (by simp [z0, z1, ql])
            · repeat' (first
 |refine AW_seq_k fun K hK=>?_|refine Step.by1 ?_|refine SBlock_exit_ne (by decide) ?_|refine cz rfl ?_|refine Fork.by2 (fun h=>?_) fun h=>?_
 |((first|refine AW_region_AO ?_|refine AW_region_APx (id:=16) 51 mixed (by decide) ?_);simp [gsV, vl, NetD.cells, halfV, k0, k1, kq, p1l, p2l, hil, hil2, hi1, hi2, g1, g2, r1l, r2l, hkl, hkl2, hk1, hk2, g3, g4, i1l, i2l, hcl, hcl2, hc1, hc2, g5, g6, hu0, w3])
 |(refine Split.by2 (fun h=>?_) (fun h=>?_)<;>(simp [h, gsV, vl, NetD.cells, halfV, k0, k1, kq, p1l, p2l, hil, hil2, hi1, hi2, g1, g2, r1l, r2l, hkl, hkl2, hk1, hk2, g3, g4, i1l, i2l, hcl, hcl2, hc1, hc2, g5, g6, hu0, w3]))
 |(apply hK;clear hK K)|refine AWh (by assumption) ?_)
              exact Weak.sym (x := []) (by simp) hH (by simp [z0, z1, ql])
          · intro _
            repeat' (first
 |refine AW_seq_k fun K hK=>?_|refine Step.by1 ?_|refine SBlock_exit_ne (by decide) ?_|refine cz rfl ?_|refine Fork.by2 (fun h=>?_) fun h=>?_
 |(refine AW_region_AO ?_;simp [k0, k1, kq, p1l, p2l, hil, hil2, hi1, hi2, g1, g2, r1l, r2l, hkl, hkl2, hk1, hk2, g3, g4, w2])
 |(refine Split.by2 (fun h=>?_) (fun h=>?_)<;>(simp [h, k0, k1, kq, p1l, p2l, hil, hil2, hi1, hi2, g1, g2, r1l, r2l, hkl, hkl2, hk1, hk2, g3, g4, w2]))
 |(apply hK;clear hK K)|refine AWh (by assumption) ?_)
            exact Weak.sym (x := []) (by simp) hH (by simp [z0, z1, ql])
        · intro _
          repeat' (first
 |refine AW_seq_k fun K hK=>?_|refine Step.by1 ?_|refine SBlock_exit_ne (by decide) ?_|refine cz rfl ?_|refine Fork.by2 (fun h=>?_) fun h=>?_
 |(refine AW_region_AO ?_;simp [k0, k1, kq, p1l, p2l, hil, hil2, hi1, hi2, g1, g2, w1])
 |(refine Split.by2 (fun h=>?_) (fun h=>?_)<;>(simp [h, k0, k1, kq, p1l, p2l, hil, hil2, hi1, hi2, g1, g2, w1]))
 |(apply hK;clear hK K)|refine AWh (by assumption) ?_)
          exact Weak.sym (x := []) (by simp) hH (by simp [z0, z1, ql])
      · intro _
        repeat' (first
 |refine AW_seq_k fun K hK=>?_|refine Step.by1 ?_|refine SBlock_exit_ne (by decide) ?_|refine cz rfl ?_|refine Fork.by2 (fun h=>?_) fun h=>?_
 |(refine AW_region_AO ?_;simp [k0, k1, kq])
 |(refine Split.by2 (fun h=>?_) (fun h=>?_)<;>(simp [h, k0, k1, kq]))
 |(apply hK;clear hK K)|refine AWh (by assumption) ?_)
        exact retq1 (conv_eq rfl rfl)
  refine AW_region_chain 13 14 [0, 2, 4, 5] (fun h => h[0]? = some (B.var n.cells)) mixed (by decide) (by decide) rfl rfl ?_
  simp only [List.take_succ_cons, List.take_zero]
  refine PX_op (v := .agg n.cells) rfl rfl rfl rfl (fun h hs => by simp [hs, NetD.cells]) ?_
  refine PX_skip rfl ?_
  refine PX_op rfl rfl rfl rfl (fun h hs => ⟨trivial, rfl⟩) ?_
  refine PX_skip rfl ?_
  refine PX_op rfl rfl rfl rfl (fun h hs => ⟨trivial, rfl⟩) ?_
  refine PX_lit rfl rfl (by simp) ?_
  refine PX_skip rfl ?_
  refine PX_skip rfl ?_
  refine PX_skip rfl ?_
  refine PX_skip rfl ?_
  refine PX_skip rfl ?_
  refine PX_skip rfl ?_
  refine PX_skip rfl ?_
  refine PX_nil ?_
  simp [NetD.cells, vl]
  refine Ch_2 1 11 (by decide) (by decide) ?_ ?_
  · refine ChS_op rfl rfl rfl rfl (by simp) rfl (by simp) ?_; simp [b1, b2, tk]
    refine Ch_2 3 11 (by decide) (by decide) ?_ ?_
    · refine ChS_op rfl rfl rfl rfl (by simp [b1, b2, tk]) rfl (by simp) ?_; simp [b1, b2, tk]
      refine Ch_2 6 11 (by decide) (by decide) ?_ ?_
      · refine ChS_opv rfl rfl rfl (by simp [b1, b2, tk]) rfl rfl (by simp) (by simp) ?_; simp [b1, b2, tk]
        refine Ch_2 7 11 (by decide) (by decide) ?_ ?_
        · refine ChS_call (f := 14) rfl rfl rfl rfl hY rfl rfl (by simp) ?_; simp [b1, b2, tk]
          refine Ch_2 8 11 (by decide) (by decide) ?_ ?_
          · refine ChS_still rfl rfl rfl rfl (by simp) (by simp) ?_; simp [b1, b2, tk]
            refine Ch_3 9 10 11 (by decide) (by decide) ?_ ?_ ?_
            · refine ChS_still rfl rfl rfl rfl (by simp) (by simp) ?_; simp [b1, b2, tk]
              refine Ch_2 10 11 (by decide) (by decide) ?_ ?_
              · refine ChS_still rfl rfl rfl rfl (by simp) (by simp) ?_; simp [b1, b2, tk]
                refine Ch_1 11 (by decide) (by decide) ?_
                refine ChS_op rfl rfl rfl rfl (by simp) rfl (by simp) ?_; simp [b1, b2, tk]
                refine Ch_1 12 (by decide) (by decide) ?_
                refine ChS_op rfl rfl rfl rfl (by simp) rfl (by simp) ?_; simp [b1, b2, tk]
                refine Ch_end (by decide) ?_
                refine AS_of_AO ?_; simp; first | exact hrest _ 2 rfl (by simp [HL, l1, l2, l3, l4]) rfl rfl rfl rfl rfl rfl rfl rfl rfl | exact hrest _ 3 rfl (by simp [HL, l1, l2, l3, l4]) rfl rfl rfl rfl rfl rfl rfl rfl rfl
              · refine ChS_op rfl rfl rfl rfl (by simp) rfl (by simp) ?_; simp [b1, b2, tk]
                refine Ch_2 10 12 (by decide) (by decide) ?_ ?_
                · refine ChS_still rfl rfl rfl rfl (by simp) (by simp) ?_; simp [b1, b2, tk]
                  refine Ch_1 12 (by decide) (by decide) ?_
                  refine ChS_op rfl rfl rfl rfl (by simp) rfl (by simp) ?_; simp [b1, b2, tk]
                  refine Ch_end (by decide) ?_
                  refine AS_of_AO ?_; simp; first | exact hrest _ 2 rfl (by simp [HL, l1, l2, l3, l4]) rfl rfl rfl rfl rfl rfl rfl rfl rfl | exact hrest _ 3 rfl (by simp [HL, l1, l2, l3, l4]) rfl rfl rfl rfl rfl rfl rfl rfl rfl
                · refine ChS_op rfl rfl rfl rfl (by simp) rfl (by simp) ?_; simp [b1, b2, tk]
                  refine Ch_1 10 (by decide) (by decide) ?_
                  refine ChS_still rfl rfl rfl rfl (by simp) (by simp) ?_; simp [b1, b2, tk]
                  refine Ch_end (by decide) ?_
                  refine AS_of_AO ?_; simp; first | exact hrest _ 2 rfl (by simp [HL, l1, l2, l3, l4]) rfl rfl rfl rfl rfl rfl rfl rfl rfl | exact hrest _ 3 rfl (by simp [HL, l1, l2, l3, l4]) rfl rfl rfl rfl rfl rfl rfl rfl rfl
            · refine ChS_still rfl rfl rfl rfl (by simp) (by simp) ?_; simp [b1, b2, tk]
              refine Ch_2 9 11 (by decide) (by decide) ?_ ?_
              · refine ChS_still rfl rfl rfl rfl (by simp) (by simp) ?_; simp [b1, b2, tk]
                refine Ch_1 11 (by decide) (by decide) ?_
                refine ChS_op rfl rfl rfl rfl (by simp) rfl (by simp) ?_; simp [b1, b2, tk]
                refine Ch_1 12 (by decide) (by decide) ?_
                refine ChS_op rfl rfl rfl rfl (by simp) rfl (by simp) ?_; simp [b1, b2, tk]
                refine Ch_end (by decide) ?_
                refine AS_of_AO ?_; simp; first | exact hrest _ 2 rfl (by simp [HL, l1, l2, l3, l4]) rfl rfl rfl rfl rfl rfl rfl rfl rfl | exact hrest _ 3 rfl (by simp [HL, l1, l2, l3, l4]) rfl rfl rfl rfl rfl rfl rfl rfl rfl
              · refine ChS_op rfl rfl rfl rfl (by simp) rfl (by simp) ?_; simp [b1, b2, tk]
                refine Ch_1 9 (by decide) (by decide) ?_
                refine ChS_still rfl rfl rfl rfl (by simp) (by simp) ?_; simp [b1, b2, tk]
                refine Ch_1 12 (by decide) (by decide) ?_
                refine ChS_op rfl rfl rfl rfl (by simp) rfl (by simp) ?_; simp [b1, b2, tk]
                refine Ch_end (by decide) ?_
                refine AS_of_AO ?_; simp; first | exact hrest _ 2 rfl (by simp [HL, l1, l2, l3, l4]) rfl rfl rfl rfl rfl rfl rfl rfl rfl | exact hrest _ 3 rfl (by simp [HL, l1, l2, l3, l4]) rfl rfl rfl rfl rfl rfl rfl rfl rfl
            · refine ChS_op rfl rfl rfl rfl (by simp) rfl (by simp) ?_; simp [b1, b2, tk]
              refine Ch_2 9 10 (by decide) (by decide) ?_ ?_
              · refine ChS_still rfl rfl rfl rfl (by simp) (by simp) ?_; simp [b1, b2, tk]
                refine Ch_2 10 12 (by decide) (by decide) ?_ ?_
                · refine ChS_still rfl rfl rfl rfl (by simp) (by simp) ?_; simp [b1, b2, tk]
                  refine Ch_1 12 (by decide) (by decide) ?_
                  refine ChS_op rfl rfl rfl rfl (by simp) rfl (by simp) ?_; simp [b1, b2, tk]
                  refine Ch_end (by decide) ?_
                  refine AS_of_AO ?_; simp; first | exact hrest _ 2 rfl (by simp [HL, l1, l2, l3, l4]) rfl rfl rfl rfl rfl rfl rfl rfl rfl | exact hrest _ 3 rfl (by simp [HL, l1, l2, l3, l4]) rfl rfl rfl rfl rfl rfl rfl rfl rfl
                · refine ChS_op rfl rfl rfl rfl (by simp) rfl (by simp) ?_; simp [b1, b2, tk]
                  refine Ch_1 10 (by decide) (by decide) ?_
                  refine ChS_still rfl rfl rfl rfl (by simp) (by simp) ?_; simp [b1, b2, tk]
                  refine Ch_end (by decide) ?_
                  refine AS_of_AO ?_; simp; first | exact hrest _ 2 rfl (by simp [HL, l1, l2, l3, l4]) rfl rfl rfl rfl rfl rfl rfl rfl rfl | exact hrest _ 3 rfl (by simp [HL, l1, l2, l3, l4]) rfl rfl rfl rfl rfl rfl rfl rfl rfl
              · refine ChS_still rfl rfl rfl rfl (by simp) (by simp) ?_; simp [b1, b2, tk]
                refine Ch_1 9 (by decide) (by decide) ?_
                refine ChS_still rfl rfl rfl rfl (by simp) (by simp) ?_; simp [b1, b2, tk]
                refine Ch_1 12 (by decide) (by decide) ?_
                refine ChS_op rfl rfl rfl rfl (by simp) rfl (by simp) ?_; simp [b1, b2, tk]
                refine Ch_end (by decide) ?_
                refine AS_of_AO ?_; simp; first | exact hrest _ 2 rfl (by simp [HL, l1, l2, l3, l4]) rfl rfl rfl rfl rfl rfl rfl rfl rfl | exact hrest _ 3 rfl (by simp [HL, l1, l2, l3, l4]) rfl rfl rfl rfl rfl rfl rfl rfl rfl
          · refine ChS_op rfl rfl rfl rfl (by simp) rfl (by simp) ?_; simp [b1, b2, tk]
            refine Ch_1 8 (by decide) (by decide) ?_
            refine ChS_still rfl rfl rfl rfl (by simp) (by simp) ?_; simp [b1, b2, tk]
            refine Ch_2 9 10 (by decide) (by decide) ?_ ?_
            · refine ChS_still rfl rfl rfl rfl (by simp) (by simp) ?_; simp [b1, b2, tk]
              refine Ch_2 10 12 (by decide) (by decide) ?_ ?_
              · refine ChS_still rfl rfl rfl rfl (by simp) (by simp) ?_; simp [b1, b2, tk]
                refine Ch_1 12 (by decide) (by decide) ?_
                refine ChS_op rfl rfl rfl rfl (by simp) rfl (by simp) ?_; simp [b1, b2, tk]
                refine Ch_end (by decide) ?_
                refine AS_of_AO ?_; simp; first | exact hrest _ 2 rfl (by simp [HL, l1, l2, l3, l4]) rfl rfl rfl rfl rfl rfl rfl rfl rfl | exact hrest _ 3 rfl (by simp [HL, l1, l2, l3, l4]) rfl rfl rfl rfl rfl rfl rfl rfl rfl
              · refine ChS_op rfl rfl rfl rfl (by simp) rfl (by simp) ?_; simp [b1, b2, tk]
                refine Ch_1 10 (by decide) (by decide) ?_
                refine ChS_still rfl rfl rfl rfl (by simp) (by simp) ?_; simp [b1, b2, tk]
                refine Ch_end (by decide) ?_
                refine AS_of_AO ?_; simp; first | exact hrest _ 2 rfl (by simp [HL, l1, l2, l3, l4]) rfl rfl rfl rfl rfl rfl rfl rfl rfl | exact hrest _ 3 rfl (by simp [HL, l1, l2, l3, l4]) rfl rfl rfl rfl rfl rfl rfl rfl rfl
            · refine ChS_still rfl rfl rfl rfl (by simp) (by simp) ?_; simp [b1, b2, tk]
              refine Ch_1 9 (by decide) (by decide) ?_
              refine ChS_still rfl rfl rfl rfl (by simp) (by simp) ?_; simp [b1, b2, tk]
              refine Ch_1 12 (by decide) (by decide) ?_
              refine ChS_op rfl rfl rfl rfl (by simp) rfl (by simp) ?_; simp [b1, b2, tk]
              refine Ch_end (by decide) ?_
              refine AS_of_AO ?_; simp; first | exact hrest _ 2 rfl (by simp [HL, l1, l2, l3, l4]) rfl rfl rfl rfl rfl rfl rfl rfl rfl | exact hrest _ 3 rfl (by simp [HL, l1, l2, l3, l4]) rfl rfl rfl rfl rfl rfl rfl rfl rfl
        · refine ChS_op rfl rfl rfl rfl (by simp) rfl (by simp) ?_; simp [b1, b2, tk]
          refine Ch_1 7 (by decide) (by decide) ?_
          refine ChS_call (f := 14) rfl rfl rfl rfl hY rfl rfl (by simp) ?_; simp [b1, b2, tk]
          refine Ch_1 8 (by decide) (by decide) ?_
          refine ChS_still rfl rfl rfl rfl (by simp) (by simp) ?_; simp [b1, b2, tk]
          refine Ch_2 9 10 (by decide) (by decide) ?_ ?_
          · refine ChS_still rfl rfl rfl rfl (by simp) (by simp) ?_; simp [b1, b2, tk]
            refine Ch_2 10 12 (by decide) (by decide) ?_ ?_
            · refine ChS_still rfl rfl rfl rfl (by simp) (by simp) ?_; simp [b1, b2, tk]
              refine Ch_1 12 (by decide) (by decide) ?_
              refine ChS_op rfl rfl rfl rfl (by simp) rfl (by simp) ?_; simp [b1, b2, tk]
              refine Ch_end (by decide) ?_
              refine AS_of_AO ?_; simp; first | exact hrest _ 2 rfl (by simp [HL, l1, l2, l3, l4]) rfl rfl rfl rfl rfl rfl rfl rfl rfl | exact hrest _ 3 rfl (by simp [HL, l1, l2, l3, l4]) rfl rfl rfl rfl rfl rfl rfl rfl rfl
            · refine ChS_op rfl rfl rfl rfl (by simp) rfl (by simp) ?_; simp [b1, b2, tk]
              refine Ch_1 10 (by decide) (by decide) ?_
              refine ChS_still rfl rfl rfl rfl (by simp) (by simp) ?_; simp [b1, b2, tk]
              refine Ch_end (by decide) ?_
              refine AS_of_AO ?_; simp; first | exact hrest _ 2 rfl (by simp [HL, l1, l2, l3, l4]) rfl rfl rfl rfl rfl rfl rfl rfl rfl | exact hrest _ 3 rfl (by simp [HL, l1, l2, l3, l4]) rfl rfl rfl rfl rfl rfl rfl rfl rfl
          · refine ChS_still rfl rfl rfl rfl (by simp) (by simp) ?_; simp [b1, b2, tk]
            refine Ch_1 9 (by decide) (by decide) ?_
            refine ChS_still rfl rfl rfl rfl (by simp) (by simp) ?_; simp [b1, b2, tk]
            refine Ch_1 12 (by decide) (by decide) ?_
            refine ChS_op rfl rfl rfl rfl (by simp) rfl (by simp) ?_; simp [b1, b2, tk]
            refine Ch_end (by decide) ?_
            refine AS_of_AO ?_; simp; first | exact hrest _ 2 rfl (by simp [HL, l1, l2, l3, l4]) rfl rfl rfl rfl rfl rfl rfl rfl rfl | exact hrest _ 3 rfl (by simp [HL, l1, l2, l3, l4]) rfl rfl rfl rfl rfl rfl rfl rfl rfl
      · refine ChS_op rfl rfl rfl rfl (by simp) rfl (by simp) ?_; simp [b1, b2, tk]
        refine Ch_1 6 (by decide) (by decide) ?_
        refine ChS_opv rfl rfl rfl (by simp [b1, b2, tk]) rfl rfl (by simp) (by simp) ?_; simp [b1, b2, tk]
        refine Ch_1 7 (by decide) (by decide) ?_
        refine ChS_call (f := 14) rfl rfl rfl rfl hY rfl rfl (by simp) ?_; simp [b1, b2, tk]
        refine Ch_1 8 (by decide) (by decide) ?_
        refine ChS_still rfl rfl rfl rfl (by simp) (by simp) ?_; simp [b1, b2, tk]
        refine Ch_2 9 10 (by decide) (by decide) ?_ ?_
        · refine ChS_still rfl rfl rfl rfl (by simp) (by simp) ?_; simp [b1, b2, tk]
          refine Ch_2 10 12 (by decide) (by decide) ?_ ?_
          · refine ChS_still rfl rfl rfl rfl (by simp) (by simp) ?_; simp [b1, b2, tk]
            refine Ch_1 12 (by decide) (by decide) ?_
            refine ChS_op rfl rfl rfl rfl (by simp) rfl (by simp) ?_; simp [b1, b2, tk]
            refine Ch_end (by decide) ?_
            refine AS_of_AO ?_; simp; first | exact hrest _ 2 rfl (by simp [HL, l1, l2, l3, l4]) rfl rfl rfl rfl rfl rfl rfl rfl rfl | exact hrest _ 3 rfl (by simp [HL, l1, l2, l3, l4]) rfl rfl rfl rfl rfl rfl rfl rfl rfl
          · refine ChS_op rfl rfl rfl rfl (by simp) rfl (by simp) ?_; simp [b1, b2, tk]
            refine Ch_1 10 (by decide) (by decide) ?_
            refine ChS_still rfl rfl rfl rfl (by simp) (by simp) ?_; simp [b1, b2, tk]
            refine Ch_end (by decide) ?_
            refine AS_of_AO ?_; simp; first | exact hrest _ 2 rfl (by simp [HL, l1, l2, l3, l4]) rfl rfl rfl rfl rfl rfl rfl rfl rfl | exact hrest _ 3 rfl (by simp [HL, l1, l2, l3, l4]) rfl rfl rfl rfl rfl rfl rfl rfl rfl
        · refine ChS_still rfl rfl rfl rfl (by simp) (by simp) ?_; simp [b1, b2, tk]
          refine Ch_1 9 (by decide) (by decide) ?_
          refine ChS_still rfl rfl rfl rfl (by simp) (by simp) ?_; simp [b1, b2, tk]
          refine Ch_1 12 (by decide) (by decide) ?_
          refine ChS_op rfl rfl rfl rfl (by simp) rfl (by simp) ?_; simp [b1, b2, tk]
          refine Ch_end (by decide) ?_
          refine AS_of_AO ?_; simp; first | exact hrest _ 2 rfl (by simp [HL, l1, l2, l3, l4]) rfl rfl rfl rfl rfl rfl rfl rfl rfl | exact hrest _ 3 rfl (by simp [HL, l1, l2, l3, l4]) rfl rfl rfl rfl rfl rfl rfl rfl rfl
    · refine ChS_op rfl rfl rfl rfl (by simp) rfl (by simp) ?_; simp [b1, b2, tk]
      refine Ch_1 3 (by decide) (by decide) ?_
      refine ChS_op rfl rfl rfl rfl (by simp [b1, b2, tk]) rfl (by simp) ?_; simp [b1, b2, tk]
      refine Ch_1 6 (by decide) (by decide) ?_
      refine ChS_opv rfl rfl rfl (by simp [b1, b2, tk]) rfl rfl (by simp) (by simp) ?_; simp [b1, b2, tk]
      refine Ch_1 7 (by decide) (by decide) ?_
      refine ChS_call (f := 14) rfl rfl rfl rfl hY rfl rfl (by simp) ?_; simp [b1, b2, tk]
      refine Ch_1 8 (by decide) (by decide) ?_
      refine ChS_still rfl rfl rfl rfl (by simp) (by simp) ?_; simp [b1, b2, tk]
      refine Ch_2 9 10 (by decide) (by decide) ?_ ?_
      · refine ChS_still rfl rfl rfl rfl (by simp) (by simp) ?_; simp [b1, b2, tk]
        refine Ch_2 10 12 (by decide) (by decide) ?_ ?_
        · refine ChS_still rfl rfl rfl rfl (by simp) (by simp) ?_; simp [b1, b2, tk]
          refine Ch_1 12 (by decide) (by decide) ?_
          refine ChS_op rfl rfl rfl rfl (by simp) rfl (by simp) ?_; simp [b1, b2, tk]
          refine Ch_end (by decide) ?_
          refine AS_of_AO ?_; simp; first | exact hrest _ 2 rfl (by simp [HL, l1, l2, l3, l4]) rfl rfl rfl rfl rfl rfl rfl rfl rfl | exact hrest _ 3 rfl (by simp [HL, l1, l2, l3, l4]) rfl rfl rfl rfl rfl rfl rfl rfl rfl
        · refine ChS_op rfl rfl rfl rfl (by simp) rfl (by simp) ?_; simp [b1, b2, tk]
          refine Ch_1 10 (by decide) (by decide) ?_
          refine ChS_still rfl rfl rfl rfl (by simp) (by simp) ?_; simp [b1, b2, tk]
          refine Ch_end (by decide) ?_
          refine AS_of_AO ?_; simp; first | exact hrest _ 2 rfl (by simp [HL, l1, l2, l3, l4]) rfl rfl rfl rfl rfl rfl rfl rfl rfl | exact hrest _ 3 rfl (by simp [HL, l1, l2, l3, l4]) rfl rfl rfl rfl rfl rfl rfl rfl rfl
      · refine ChS_still rfl rfl rfl rfl (by simp) (by simp) ?_; simp [b1, b2, tk]
        refine Ch_1 9 (by decide) (by decide) ?_
        refine ChS_still rfl rfl rfl rfl (by simp) (by simp) ?_; simp [b1, b2, tk]
        refine Ch_1 12 (by decide) (by decide) ?_
        refine ChS_op rfl rfl rfl rfl (by simp) rfl (by simp) ?_; simp [b1, b2, tk]
        refine Ch_end (by decide) ?_
        refine AS_of_AO ?_; simp; first | exact hrest _ 2 rfl (by simp [HL, l1, l2, l3, l4]) rfl rfl rfl rfl rfl rfl rfl rfl rfl | exact hrest _ 3 rfl (by simp [HL, l1, l2, l3, l4]) rfl rfl rfl rfl rfl rfl rfl rfl rfl
  · refine ChS_op rfl rfl rfl rfl (by simp) rfl (by simp) ?_; simp [b1, b2, tk]
    refine Ch_1 1 (by decide) (by decide) ?_
    refine ChS_op rfl rfl rfl rfl (by simp) rfl (by simp) ?_; simp [b1, b2, tk]
    refine Ch_1 3 (by decide) (by decide) ?_
    refine ChS_op rfl rfl rfl rfl (by simp [b1, b2, tk]) rfl (by simp) ?_; simp [b1, b2, tk]
    refine Ch_1 6 (by decide) (by decide) ?_
    refine ChS_opv rfl rfl rfl (by simp [b1, b2, tk]) rfl rfl (by simp) (by simp) ?_; simp [b1, b2, tk]
    refine Ch_1 7 (by decide) (by decide) ?_
    refine ChS_call (f := 14) rfl rfl rfl rfl hY rfl rfl (by simp) ?_; simp [b1, b2, tk]
    refine Ch_1 8 (by decide) (by decide) ?_
    refine ChS_still rfl rfl rfl rfl (by simp) (by simp) ?_; simp [b1, b2, tk]
    refine Ch_2 9 10 (by decide) (by decide) ?_ ?_
    · refine ChS_still rfl rfl rfl rfl (by simp) (by simp) ?_; simp [b1, b2, tk]
      refine Ch_2 10 12 (by decide) (by decide) ?_ ?_
      · refine ChS_still rfl rfl rfl rfl (by simp) (by simp) ?_; simp [b1, b2, tk]
        refine Ch_1 12 (by decide) (by decide) ?_
        refine ChS_op rfl rfl rfl rfl (by simp) rfl (by simp) ?_; simp [b1, b2, tk]
        refine Ch_end (by decide) ?_
        refine AS_of_AO ?_; simp; first | exact hrest _ 2 rfl (by simp [HL, l1, l2, l3, l4]) rfl rfl rfl rfl rfl rfl rfl rfl rfl | exact hrest _ 3 rfl (by simp [HL, l1, l2, l3, l4]) rfl rfl rfl rfl rfl rfl rfl rfl rfl
      · refine ChS_op rfl rfl rfl rfl (by simp) rfl (by simp) ?_; simp [b1, b2, tk]
        refine Ch_1 10 (by decide) (by decide) ?_
        refine ChS_still rfl rfl rfl rfl (by simp) (by simp) ?_; simp [b1, b2, tk]
        refine Ch_end (by decide) ?_
        refine AS_of_AO ?_; simp; first | exact hrest _ 2 rfl (by simp [HL, l1, l2, l3, l4]) rfl rfl rfl rfl rfl rfl rfl rfl rfl | exact hrest _ 3 rfl (by simp [HL, l1, l2, l3, l4]) rfl rfl rfl rfl rfl rfl rfl rfl rfl
    · refine ChS_still rfl rfl rfl rfl (by simp) (by simp) ?_; simp [b1, b2, tk]
      refine Ch_1 9 (by decide) (by decide) ?_
      refine ChS_still rfl rfl rfl rfl (by simp) (by simp) ?_; simp [b1, b2, tk]
      refine Ch_1 12 (by decide) (by decide) ?_
      refine ChS_op rfl rfl rfl rfl (by simp) rfl (by simp) ?_; simp [b1, b2, tk]
      refine Ch_end (by decide) ?_
      refine AS_of_AO ?_; simp; first | exact hrest _ 2 rfl (by simp [HL, l1, l2, l3, l4]) rfl rfl rfl rfl rfl rfl rfl rfl rfl | exact hrest _ 3 rfl (by simp [HL, l1, l2, l3, l4]) rfl rfl rfl rfl rfl rfl rfl rfl rfl
end Go.Proofs.YtgmlimipejcpgaaDoor
end
