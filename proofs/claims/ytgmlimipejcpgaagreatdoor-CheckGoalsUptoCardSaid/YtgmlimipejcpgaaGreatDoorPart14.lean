/-
  YtgmlimipejcpgaaGreatDoorPart14: steps of the proof of a law of the program: what these texts prove holds under the hypotheses that their theorems name, and no others.
-/
import Derived.Test.YtgmlimipejcpgaaGreatDoorPart12
import Derived.Test.YtgmlimipejcpgaaGreatDoorPart13
import Derived.Test.YtgmlimipejcpgaaGreatDoorPart11
import Derived.Test.YtgmlimipejcpgaaGreatDoorPart08
section
set_option linter.unusedVariables false
set_option linter.unusedSimpArgs false
namespace Go.Proofs.YtgmlimipejcpgaaGreatDoor
open Go Go.AM Fx
/-! Goals that are copied with marked room, and held against what they were. -/
def PartD.hcells (p : PartD) : List V := [handV AtD.cells markAts p.locs, handV GuardD.cells markGuards p.guards, handV NodeD.cells markNodes p.test]
theorem trims_PartH (x : PartD) : V.trims x.hcells = x.cells := by simp [PartD.hcells, PartD.cells, V.trims, V.trim, trim_handAts, trim_handGuards, trim_handNodes]
theorem trims_Part (x : PartD) : V.trims x.cells = x.cells := by simp [PartD.cells, V.trims, V.trim, trim_vlAts, trim_vlGuards, trim_vlNodes]
theorem trims_goal (g : List PartD) : (vl PartD.hcells g).trim = vl PartD.cells g := trim_vl' fun y _ => trims_PartH y
theorem trims_goal' (g : List PartD) : (vl PartD.cells g).trim = vl PartD.cells g := trim_vl' fun y _ => trims_Part y
set_option maxRecDepth 20000 in
set_option maxHeartbeats 8000000 in
theorem c_HandGoal (g : List PartD) (hg : okGoal g) : PC 18 [vl PartD.cells g] (vl PartD.hcells g) := by
  obtain ⟨hg1, hg2⟩ := hg
  have hgoal : PC 18 [vl PartD.cells g] (.own 130 (g.map PartD.hcells)) := by
    refine PCall_body Tryz.func18 rfl (by decide) Tryz.ntmps18 (by simp) Tryz.results18 ?_
    repeat' (first
    |refine AW_nilrow 3 130 rfl (by simp) ?_
    |refine AW_seq_k fun K hK=>?_|refine Step.by1 ?_|refine SBlock_exit_ne (by decide) ?_
    |((first|refine AW_region_AO ?_);simp [vl])
    |(refine Split.by2 (fun h=>?_) (fun h=>?_)<;>(simp [h, vl]))
    |refine ct rfl ?_|refine cf rfl ?_|refine cnd rfl (fun h=>?_) (fun h=>?_)|refine cd rfl (fun h=>?_) (fun h=>?_)|refine cn rfl (fun h=>?_) (fun h=>?_)|refine cc rfl (fun h=>?_) (fun h=>?_)
    |(apply hK;clear hK K)|(refine AWh (by assumption) ?_))
    refine AW_loopL [0] (fun i : Nat => [(4, .int .i64 i), (3, .ref 0 i 0 i)]) (fun i => [.row 130 i 0 true (pre PartD.hcells g i)]) (fun i => i ≤ g.length) (fun i => g.length - i) 0 (Nat.zero_le _) (by apply Weak.mk' <;> simp [vl, pre_zero]) (fun _ _ => rfl) ?_
    intro i hi
    by_cases hlt : i < g.length
    · have hps := pre_succ (c := PartD.hcells) hlt
      have hpl := pre_len (c := PartD.hcells) hi
      have hok := hg2 _ (List.getElem_mem hlt)
      obtain ⟨p, hp⟩ : ∃ p, g[i] = p := ⟨_, rfl⟩
      rw [hp] at hps hok
      have hc1 := c_HandAts p.locs (by have := hok.1.1; omega)
      have hc2 := c_HandGuards p.guards (by have := hok.2.1.1; omega)
      have hc3 := c_HandNodes p.test (by have := hok.2.2.1; omega)
      have hlt' : (i : Int) < g.length := by omega
      have hby : (i + 1) * 72 ≤ 140737488355328 := by omega
      have w1 : IntKind.i64.wrap ((i : Int) + 1) = i + 1 := wrap_i64 (by omega) (by omega)
      simp only [handV, vl] at hc1 hc2 hc3
      repeat' (first
    |refine AW_seq_k fun K hK=>?_|refine Step.by1 ?_|refine SBlock_exit_ne (by decide) ?_
    |((first|refine AW_region_AO ?_|refine AW_region_APx (id:=5) 21 mixed (by decide) ?_|refine AP_call1 (f:=74) rfl rfl (hc1) rfl rfl rfl ?_|refine AP_call1 (f:=56) rfl rfl (hc2) rfl rfl rfl ?_|refine AP_call1 (f:=57) rfl rfl (hc3) rfl rfl rfl ?_);simp [vl, handV, PartD.cells, hlt, hlt', hp, hpl, hby, w1])
    |(refine Split.by2 (fun h=>?_) (fun h=>?_)<;>(simp [h, vl, handV, PartD.cells, hlt, hlt', hp, hpl, hby, w1]))
    |refine ct rfl ?_|refine cf rfl ?_|refine cnd rfl (fun h=>?_) (fun h=>?_)|refine cd rfl (fun h=>?_) (fun h=>?_)|refine cn rfl (fun h=>?_) (fun h=>?_)|refine cc rfl (fun h=>?_) (fun h=>?_)
    |(refine AP_lit rfl (by simp [vl, handV, PartD.cells, hlt, hlt', hp, hpl, hby, w1]) ?_;simp [vl, handV, PartD.cells, hlt, hlt', hp, hpl, hby, w1])
    |(apply hK;clear hK K)|(refine AWh (by assumption) ?_))
      refine ⟨i + 1, by omega, by omega, ?_⟩
      apply Weak.mk' <;> simp [vl, handV, hps, PartD.hcells]
    · have hie : i = g.length := by omega
      subst hie
      repeat' (first
    |refine AW_seq_k fun K hK=>?_|refine Step.by1 ?_|refine SBlock_exit_ne (by decide) ?_
    |((first|refine AW_region_AO ?_);simp [vl, hlt, pre_end])
    |(refine Split.by2 (fun h=>?_) (fun h=>?_)<;>(simp [h, vl, hlt, pre_end]))
    |refine ct rfl ?_|refine cf rfl ?_|refine cnd rfl (fun h=>?_) (fun h=>?_)|refine cd rfl (fun h=>?_) (fun h=>?_)|refine cn rfl (fun h=>?_) (fun h=>?_)|refine cc rfl (fun h=>?_) (fun h=>?_)
    |(apply hK;clear hK K)|(refine AWh (by assumption) ?_))
      exact retq1 (.inr (.inl (conv1_own rfl (by simp))))
  have := hgoal.freeze
  simpa [vl] using this
set_option maxRecDepth 20000 in
set_option maxHeartbeats 8000000 in
theorem c_KeptGoal (g : List PartD) (hg : okGoal g) : PC 21 [vl PartD.hcells g, vl PartD.cells g] (.bool true) := by
  obtain ⟨hg1, hg2⟩ := hg
  refine PCall_body Tryz.func21 rfl (by decide) Tryz.ntmps21 (by simp) Tryz.results21 ?_
  repeat' (first
    |refine AW_seq_k fun K hK=>?_|refine Step.by1 ?_|refine SBlock_exit_ne (by decide) ?_
    |((first|refine AW_region_AO ?_);simp [vl])
    |(refine Split.by2 (fun h=>?_) (fun h=>?_)<;>(simp [h, vl]))
    |refine ct rfl ?_|refine cf rfl ?_|refine cnd rfl (fun h=>?_) (fun h=>?_)|refine cd rfl (fun h=>?_) (fun h=>?_)|refine cn rfl (fun h=>?_) (fun h=>?_)|refine cc rfl (fun h=>?_) (fun h=>?_)
    |(apply hK;clear hK K)|(refine AWh (by assumption) ?_))
  refine AW_loopL [0, 1] (fun i : Nat => [(5, .int .i64 i)]) (fun _ => []) (fun i => i ≤ g.length) (fun i => g.length - i) 0 (Nat.zero_le _) (by apply Weak.mk' <;> simp [vl]) (fun _ _ => rfl) ?_
  intro i hi
  by_cases hlt : i < g.length
  · have hok := hg2 _ (List.getElem_mem hlt)
    obtain ⟨p, hp⟩ : ∃ p, g[i] = p := ⟨_, rfl⟩
    rw [hp] at hok
    have hc1 := c_KeptAts p.locs (by have := hok.1.1; omega)
    have hc2 := c_KeptGuards p.guards (by have := hok.2.1.1; omega)
    have hc3 := c_KeptNodes p.test (by have := hok.2.2.1; omega)
    have hlt' : (i : Int) < g.length := by omega
    have w1 : IntKind.i64.wrap ((i : Int) + 1) = i + 1 := wrap_i64 (by omega) (by omega)
    simp only [handV, vl] at hc1 hc2 hc3
    repeat' (first
    |refine AW_seq_k fun K hK=>?_|refine Step.by1 ?_|refine SBlock_exit_ne (by decide) ?_
    |((first|refine AW_region_AO ?_|refine AW_region_APx (id:=6) 40 mixed (by decide) ?_|refine AP_call1 (f:=78) rfl rfl (hc1) rfl rfl rfl ?_|refine AP_call1 (f:=72) rfl rfl (hc2) rfl rfl rfl ?_|refine AP_call1 (f:=73) rfl rfl (hc3) rfl rfl rfl ?_);simp [vl, handV, PartD.cells, PartD.hcells, hlt, hlt', hp, w1])
    |(refine Split.by2 (fun h=>?_) (fun h=>?_)<;>(simp [h, vl, handV, PartD.cells, PartD.hcells, hlt, hlt', hp, w1]))
    |refine ct rfl ?_|refine cf rfl ?_|refine cnd rfl (fun h=>?_) (fun h=>?_)|refine cd rfl (fun h=>?_) (fun h=>?_)|refine cn rfl (fun h=>?_) (fun h=>?_)|refine cc rfl (fun h=>?_) (fun h=>?_)
    |(apply hK;clear hK K)|(refine AWh (by assumption) ?_))
    refine ⟨i + 1, by omega, by omega, ?_⟩
    apply Weak.mk' <;> simp [vl]
  · have hie : i = g.length := by omega
    subst hie
    repeat' (first
    |refine AW_seq_k fun K hK=>?_|refine Step.by1 ?_|refine SBlock_exit_ne (by decide) ?_
    |((first|refine AW_region_AO ?_);simp [vl, hlt])
    |(refine Split.by2 (fun h=>?_) (fun h=>?_)<;>(simp [h, vl, hlt]))
    |refine ct rfl ?_|refine cf rfl ?_|refine cnd rfl (fun h=>?_) (fun h=>?_)|refine cd rfl (fun h=>?_) (fun h=>?_)|refine cn rfl (fun h=>?_) (fun h=>?_)|refine cc rfl (fun h=>?_) (fun h=>?_)
    |(apply hK;clear hK K)|(refine AWh (by assumption) ?_))
    exact retq1 (conv_eq rfl rfl)
end Go.Proofs.YtgmlimipejcpgaaGreatDoor
end

section
set_option linter.unusedVariables false
set_option linter.unusedSimpArgs false
namespace Go.Proofs.YtgmlimipejcpgaaGreatDoor
open Go Go.AM Fx
/-! What is wrong with a goal, by the reference. -/
def goX (f : PartD → Int) (X : Int) : List PartD → Int
  | [] => X
  | p :: r => if f p ≠ 0 then f p else goX f X r
theorem goX_nil {f : PartD → Int} {X : Int} : goX f X [] = X := rfl
theorem goX_cons {f : PartD → Int} {X : Int} {p : PartD} {r : List PartD} : goX f X (p :: r) = if f p ≠ 0 then f p else goX f X r := rfl
theorem goX_eq {f : PartD → Int} {rest : List Int} : ∀ {g : List PartD}, firstE (goF f g :: rest) = goX f (firstE rest) g
  | [] => by rw [goF_nil, firstE_cons, if_neg (by simp), goX_nil]
  | p :: r => by
    rw [goF_cons, goX_cons]
    by_cases h : f p = 0
    · rw [if_neg (by simp [h]), if_neg (by simp [h]), goX_eq]
    · rw [if_pos h, if_pos h, firstE_cons, if_pos h]
theorem clkE_eq (n : NetD) (l : List GuardD) : clkE n l = if anyL (wayG n 12) l = true then 12 else 0 := by
  have h1 : wayG n 12 = clkG n := funext fun g => by simp [wayG]
  rw [h1]; rfl
theorem cmpE_eq (n : NetD) (l : List GuardD) : cmpE l = if anyL (wayG n 7) l = true then 7 else 0 := by
  have h1 : wayG n 7 = cmpG := funext fun g => by simp [wayG]
  rw [h1]; rfl
set_option maxRecDepth 20000 in
set_option maxHeartbeats 16000000 in
theorem r_WholeGoal (n : NetD) (hn : n.ok) (g : List PartD) (hg : okGoal g) : PC 76 [.agg n.cells, vl PartD.cells g] (.int .i64 (wholeGoalE n g)) := by
  have h0 := r_Whole n hn
  obtain ⟨hg1, hg2⟩ := hg
  have hnl := hn.2.2.2.1
  obtain ⟨r, hr⟩ : ∃ r, wholeGoalE n g = r := ⟨_, rfl⟩
  rw [hr]
  unfold wholeGoalE at hr
  rw [firstE_cons, firstE_cons, goX_eq, goX_eq, goX_eq, goX_eq, goX_eq, firstE_nil] at hr
  generalize wholeE n = e0 at *
  simp only [vl, NetD.cells] at h0
  refine PCall_body Tryz.func76 rfl (by decide) Tryz.ntmps76 (by simp) Tryz.results76 ?_
  by_cases hz : e0 = 0
  · rw [if_neg (by simp [hz])] at hr
    rw [hz] at h0
    by_cases hlong : 16 < g.length
    · rw [if_pos hlong, if_pos (by decide)] at hr
      have hl' : (16 : Int) < g.length := by omega
      repeat' (first
    |refine AW_seq_k fun K hK=>?_|refine Step.by1 ?_|refine SBlock_exit_ne (by decide) ?_
    |((first|refine AW_region_AO ?_|refine AS_call1 (f:=67) rfl rfl (h0) rfl rfl rfl ?_);simp [vl, NetD.cells, hlong, hl'])
    |(refine Split.by2 (fun h=>?_) (fun h=>?_)<;>(simp [h, vl, NetD.cells, hlong, hl']))
    |refine ct rfl ?_|refine cf rfl ?_|refine cnd rfl (fun h=>?_) (fun h=>?_)|refine cd rfl (fun h=>?_) (fun h=>?_)|refine cn rfl (fun h=>?_) (fun h=>?_)|refine cc rfl (fun h=>?_) (fun h=>?_)
    |(apply hK;clear hK K)|(refine AWh (by assumption) ?_))
      exact retq1 (conv_eq (by rw [← hr]; rfl) rfl)
    · rw [if_neg hlong, if_neg (by decide)] at hr
      have hl' : ¬ (16 : Int) < g.length := by omega
      obtain ⟨x5, hx5⟩ : ∃ x, goX (fun p => truthE n p.test) 0 g = x := ⟨_, rfl⟩
      rw [hx5] at hr
      obtain ⟨x4, hx4⟩ : ∃ x, goX (fun p => cmpE p.guards) x5 g = x := ⟨_, rfl⟩
      rw [hx4] at hr
      obtain ⟨x3, hx3⟩ : ∃ x, goX (fun p => clkE n p.guards) x4 g = x := ⟨_, rfl⟩
      rw [hx3] at hr
      obtain ⟨x2, hx2⟩ : ∃ x, goX (g2E n) x3 g = x := ⟨_, rfl⟩
      rw [hx2] at hr
      repeat' (first
    |refine AW_seq_k fun K hK=>?_|refine Step.by1 ?_|refine SBlock_exit_ne (by decide) ?_
    |((first|refine AW_region_AO ?_|refine AS_call1 (f:=67) rfl rfl (h0) rfl rfl rfl ?_);simp [vl, NetD.cells, hlong, hl'])
    |(refine Split.by2 (fun h=>?_) (fun h=>?_)<;>(simp [h, vl, NetD.cells, hlong, hl']))
    |refine ct rfl ?_|refine cf rfl ?_|refine cnd rfl (fun h=>?_) (fun h=>?_)|refine cd rfl (fun h=>?_) (fun h=>?_)|refine cn rfl (fun h=>?_) (fun h=>?_)|refine cc rfl (fun h=>?_) (fun h=>?_)
    |(apply hK;clear hK K)|(refine AWh (by assumption) ?_))
      -- sizes
      refine AW_scan (r := r) g 6 [1, 2] (goX g1E x2) hr (by apply Weak.mk' <;> simp [vl, NetD.cells]) ?_ ?_
      · intro i p _ hlt hp hF
        rw [goX_cons] at hF
        have hlt' : (i : Int) < g.length := by omega
        have w1 : IntKind.i64.wrap ((i : Int) + 1) = i + 1 := wrap_i64 (by omega) (by omega)
        have hg1E : g1E p = if 16 < p.locs.length ∨ 16 < p.guards.length ∨ 64 < p.test.length then 6 else 0 := by simp [g1E, longP]
        by_cases hq : 16 < p.locs.length ∨ 16 < p.guards.length ∨ 64 < p.test.length
        · rw [hg1E, if_pos hq, if_pos (by decide)] at hF
          repeat' (first
    |refine AW_seq_k fun K hK=>?_|refine Step.by1 ?_|refine SBlock_exit_ne (by decide) ?_
    |((first|refine AW_region_AO ?_);simp [vl, NetD.cells, PartD.cells, hlt, hlt', hp, w1])
    |(refine Split.by2 (fun h=>?_) (fun h=>?_)<;>(simp [h, vl, NetD.cells, PartD.cells, hlt, hlt', hp, w1]))
    |refine ct rfl ?_|refine cf rfl ?_|refine cnd rfl (fun h=>?_) (fun h=>?_)|refine cd rfl (fun h=>?_) (fun h=>?_)|refine cn rfl (fun h=>?_) (fun h=>?_)|refine cc rfl (fun h=>?_) (fun h=>?_)
    |(apply hK;clear hK K)|(refine AWh (by assumption) ?_))
          all_goals first
            | exact retq1 (conv_eq (by rw [← hF]; rfl) rfl)
            | (exfalso; omega)
            | trace_state
        · rw [hg1E, if_neg hq, if_neg (by decide)] at hF
          have q1 : ¬ (16 : Int) < p.locs.length := by omega
          have q2 : ¬ (16 : Int) < p.guards.length := by omega
          have q3 : ¬ (64 : Int) < p.test.length := by omega
          repeat' (first
    |refine AW_seq_k fun K hK=>?_|refine Step.by1 ?_|refine SBlock_exit_ne (by decide) ?_
    |((first|refine AW_region_AO ?_);simp [vl, NetD.cells, PartD.cells, hlt, hlt', hp, w1, q1, q2, q3])
    |(refine Split.by2 (fun h=>?_) (fun h=>?_)<;>(simp [h, vl, NetD.cells, PartD.cells, hlt, hlt', hp, w1, q1, q2, q3]))
    |refine ct rfl ?_|refine cf rfl ?_|refine cnd rfl (fun h=>?_) (fun h=>?_)|refine cd rfl (fun h=>?_) (fun h=>?_)|refine cn rfl (fun h=>?_) (fun h=>?_)|refine cc rfl (fun h=>?_) (fun h=>?_)
    |(apply hK;clear hK K)|(refine AWh (by assumption) ?_))
          refine ⟨hF, ?_⟩; apply Weak.mk' <;> simp [vl, NetD.cells]
      · intro hF
        rw [goX_nil] at hF
        subst hF
        clear hr
        repeat' (first
    |refine AW_seq_k fun K hK=>?_|refine Step.by1 ?_|refine SBlock_exit_ne (by decide) ?_
    |((first|refine AW_region_AO ?_);simp [vl, NetD.cells])
    |(refine Split.by2 (fun h=>?_) (fun h=>?_)<;>(simp [h, vl, NetD.cells]))
    |refine ct rfl ?_|refine cf rfl ?_|refine cnd rfl (fun h=>?_) (fun h=>?_)|refine cd rfl (fun h=>?_) (fun h=>?_)|refine cn rfl (fun h=>?_) (fun h=>?_)|refine cc rfl (fun h=>?_) (fun h=>?_)
    |(apply hK;clear hK K)|(refine AWh (by assumption) ?_))
        -- locations
        refine AW_scan (r := x2) g 7 [1, 2] (goX (g2E n) x3) hx2 (by apply Weak.mk' <;> simp [vl, NetD.cells]) ?_ ?_
        · intro i p _ hlt hp hF
          rw [goX_cons] at hF
          have hpo := hg2 p (hp ▸ List.getElem_mem hlt)
          have hpl := hpo.1.1
          have hlt' : (i : Int) < g.length := by omega
          have w0 : IntKind.i64.wrap ((i : Int) + 1) = i + 1 := wrap_i64 (by omega) (by omega)
          obtain ⟨E, hE⟩ : ∃ E : List AtD → Int, E = fun l => if anyL (atB n) l = true then 122 else goX (g2E n) x3 (g.drop (i + 1)) := ⟨_, rfl⟩
          have hEc : ∀ a l, E (a :: l) = if atB n a = true then 122 else E l := fun a l => by subst hE; by_cases h : atB n a = true <;> simp [anyL_cons, h]
          have hEn : E p.locs = x2 := by
            have hg2e : g2E n p = if anyL (atB n) p.locs = true then 122 else 0 := rfl
            rw [hg2e] at hF
            subst hE; rw [← hF]
            show (if anyL (atB n) p.locs = true then 122 else goX (g2E n) x3 (g.drop (i + 1))) = _
            cases anyL (atB n) p.locs <;> simp
          have hE0 : E [] = goX (g2E n) x3 (g.drop (i + 1)) := by subst hE; rfl
          clear hF hE
          repeat' (first
    |refine AW_seq_k fun K hK=>?_|refine Step.by1 ?_|refine SBlock_exit_ne (by decide) ?_
    |((first|refine AW_region_AO ?_);simp [vl, NetD.cells, PartD.cells, hlt, hlt', hp])
    |(refine Split.by2 (fun h=>?_) (fun h=>?_)<;>(simp [h, vl, NetD.cells, PartD.cells, hlt, hlt', hp]))
    |refine ct rfl ?_|refine cf rfl ?_|refine cnd rfl (fun h=>?_) (fun h=>?_)|refine cd rfl (fun h=>?_) (fun h=>?_)|refine cn rfl (fun h=>?_) (fun h=>?_)|refine cc rfl (fun h=>?_) (fun h=>?_)
    |(apply hK;clear hK K)|(refine AWh (by assumption) ?_))
          refine AW_scan (r := x2) p.locs 8 [1, 2, 7] E hEn (by apply Weak.mk' <;> simp [vl, NetD.cells]) ?_ ?_
          · intro k x _ hkt hx hG
            rw [hEc] at hG
            have hkt' : (k : Int) < p.locs.length := by omega
            have w1 : IntKind.i64.wrap ((k : Int) + 1) = k + 1 := wrap_i64 (by omega) (by omega)
            have ha : atB n x = decide (x.auto < 0 ∨ (n.autos.length : Int) ≤ x.auto ∨ x.loc < 0 ∨ ((n.autos.getD x.auto.toNat default).locs.length : Int) ≤ x.loc) := rfl
            by_cases q : 0 ≤ x.auto ∧ x.auto < n.autos.length
            · obtain ⟨k2, hk⟩ := Int.eq_ofNat_of_zero_le q.1
              have hkl : k2 < n.autos.length := by omega
              have hkl' : (k2 : Int) < n.autos.length := by omega
              obtain ⟨a, haa⟩ : ∃ a, n.autos[k2] = a := ⟨_, rfl⟩
              have hgg : n.autos.getD x.auto.toNat default = a := by rw [hk]; simp [List.getD, hkl, haa]
              rw [hgg] at ha
              have hk0 : ¬ (k2 : Int) < 0 := by omega
              have hk1 : ¬ (n.autos.length : Int) ≤ k2 := by omega
              rw [hk] at ha
              repeat' (first
    |refine AW_seq_k fun K hK=>?_|refine Step.by1 ?_|refine SBlock_exit_ne (by decide) ?_
    |((first|refine AW_region_AO ?_|refine AW_region_APx (id:=18) 29 mixed (by decide) ?_);simp [vl, PartD.cells, NetD.cells, AtD.cells, AutoD.cells, hlt, hlt', hp, hkt, hkt', hx, w1, hk, hkl, hkl', haa, hk0, hk1])
    |(refine Split.by2 (fun h=>?_) (fun h=>?_)<;>(simp [h, vl, PartD.cells, NetD.cells, AtD.cells, AutoD.cells, hlt, hlt', hp, hkt, hkt', hx, w1, hk, hkl, hkl', haa, hk0, hk1]))
    |refine ct rfl ?_|refine cf rfl ?_|refine cnd rfl (fun h=>?_) (fun h=>?_)|refine cd rfl (fun h=>?_) (fun h=>?_)|refine cn rfl (fun h=>?_) (fun h=>?_)|refine cc rfl (fun h=>?_) (fun h=>?_)
    |(apply hK;clear hK K)|(refine AWh (by assumption) ?_))
              all_goals first
                | (rw [if_pos (by rw [ha]; simp; omega)] at hG
                   exact retq1 (conv_eq (by rw [← hG]; rfl) rfl))
                | (rw [if_neg (by rw [ha]; simp; omega)] at hG
                   refine ⟨hG, ?_⟩; apply Weak.mk' <;> simp [vl, NetD.cells])
                | trace_state
            · rw [if_pos (by rw [ha]; simp; omega)] at hG
              repeat' (first
    |refine AW_seq_k fun K hK=>?_|refine Step.by1 ?_|refine SBlock_exit_ne (by decide) ?_
    |((first|refine AW_region_AO ?_|refine AW_region_APx (id:=18) 29 mixed (by decide) ?_);simp [vl, PartD.cells, NetD.cells, AtD.cells, hlt, hlt', hp, hkt, hkt', hx, w1])
    |(refine Split.by2 (fun h=>?_) (fun h=>?_)<;>(simp [h, vl, PartD.cells, NetD.cells, AtD.cells, hlt, hlt', hp, hkt, hkt', hx, w1]))
    |refine ct rfl ?_|refine cf rfl ?_|refine cnd rfl (fun h=>?_) (fun h=>?_)|refine cd rfl (fun h=>?_) (fun h=>?_)|refine cn rfl (fun h=>?_) (fun h=>?_)|refine cc rfl (fun h=>?_) (fun h=>?_)
    |(apply hK;clear hK K)|(refine AWh (by assumption) ?_))
              all_goals first
                | (exfalso; omega)
                | exact retq1 (conv_eq (by rw [← hG]; rfl) rfl)
                | trace_state
          · intro hG
            rw [hE0] at hG
            repeat' (first
    |refine AW_seq_k fun K hK=>?_|refine Step.by1 ?_|refine SBlock_exit_ne (by decide) ?_
    |((first|refine AW_region_AO ?_);simp [vl, PartD.cells, NetD.cells, hlt, hlt', hp, w0])
    |(refine Split.by2 (fun h=>?_) (fun h=>?_)<;>(simp [h, vl, PartD.cells, NetD.cells, hlt, hlt', hp, w0]))
    |refine ct rfl ?_|refine cf rfl ?_|refine cnd rfl (fun h=>?_) (fun h=>?_)|refine cd rfl (fun h=>?_) (fun h=>?_)|refine cn rfl (fun h=>?_) (fun h=>?_)|refine cc rfl (fun h=>?_) (fun h=>?_)
    |(apply hK;clear hK K)|(refine AWh (by assumption) ?_))
            refine ⟨hG, ?_⟩; apply Weak.mk' <;> simp [vl, NetD.cells]
        · intro hF
          rw [goX_nil] at hF
          subst hF
          clear hx2
          repeat' (first
    |refine AW_seq_k fun K hK=>?_|refine Step.by1 ?_|refine SBlock_exit_ne (by decide) ?_
    |((first|refine AW_region_AO ?_);simp [vl, NetD.cells])
    |(refine Split.by2 (fun h=>?_) (fun h=>?_)<;>(simp [h, vl, NetD.cells]))
    |refine ct rfl ?_|refine cf rfl ?_|refine cnd rfl (fun h=>?_) (fun h=>?_)|refine cd rfl (fun h=>?_) (fun h=>?_)|refine cn rfl (fun h=>?_) (fun h=>?_)|refine cc rfl (fun h=>?_) (fun h=>?_)
    |(apply hK;clear hK K)|(refine AWh (by assumption) ?_))
          -- guards, in two ways
          refine AW_loopL [1, 2, 10] (fun i : Nat => [(11, .int .i64 i)]) (fun _ => [.var n.cells, .row 30 0 0 true [[.int .i64 12], [.int .i64 7]]]) (fun i => i ≤ 2 ∧ ([x3, x4, x5] : List Int)[i]? = some x3) (fun i => 2 - i) 0 ⟨Nat.zero_le _, rfl⟩ (by apply Weak.mk' <;> simp [vl, NetD.cells]) (fun _ _ => rfl) ?_
          rintro i ⟨hi, hv⟩
          rcases i with _ | _ | _ | i
          · skip
            repeat' (first
    |refine AW_seq_k fun K hK=>?_|refine Step.by1 ?_|refine SBlock_exit_ne (by decide) ?_
    |((first|refine AW_region_AO ?_);simp [vl, NetD.cells, wrap_i64];try (simp (disch:=omega) only [wrap_i64];try simp [vl, NetD.cells, wrap_i64]))
    |(refine Split.by2 (fun h=>?_) (fun h=>?_)<;>(simp [h, vl, NetD.cells, wrap_i64];try (simp (disch:=omega) only [wrap_i64];try simp [vl, NetD.cells, wrap_i64])))
    |refine ct rfl ?_|refine cf rfl ?_|refine cnd rfl (fun h=>?_) (fun h=>?_)|refine cd rfl (fun h=>?_) (fun h=>?_)|refine cn rfl (fun h=>?_) (fun h=>?_)|refine cc rfl (fun h=>?_) (fun h=>?_)
    |(apply hK;clear hK K)|(refine AWh (by assumption) ?_))
            refine AW_scan (r := x3) g 12 [1, 2, 10, 11] (goX (fun p => clkE n p.guards) x4) hx3 (by apply Weak.mk' <;> simp [vl, NetD.cells]) ?_ ?_
            · intro m p _ hlt hp hG
              rw [goX_cons] at hG
              have hpo := hg2 p (hp ▸ List.getElem_mem hlt)
              have hc := r_guards n p.guards 12 (by have := hpo.2.1.1; omega)
              have heq := clkE_eq n p.guards
              have hlt' : (m : Int) < g.length := by omega
              have w1 : IntKind.i64.wrap ((m : Int) + 1) = m + 1 := wrap_i64 (by omega) (by omega)
              simp only [NetD.cells, vl] at hc
              simp only [heq] at hG
              clear heq
              generalize anyL (wayG n 12) p.guards = kb at *
              cases kb
              · rw [if_neg (by simp)] at hG
                repeat' (first
    |refine AW_seq_k fun K hK=>?_|refine Step.by1 ?_|refine SBlock_exit_ne (by decide) ?_
    |((first|refine AW_region_AO ?_|refine AW_region_APx (id:=27) 11 mixed (by decide) ?_|refine AP_call1 (f:=153) rfl rfl (hc) rfl rfl rfl ?_);simp [vl, NetD.cells, PartD.cells, hlt, hlt', hp, w1])
    |(refine Split.by2 (fun h=>?_) (fun h=>?_)<;>(simp [h, vl, NetD.cells, PartD.cells, hlt, hlt', hp, w1]))
    |refine ct rfl ?_|refine cf rfl ?_|refine cnd rfl (fun h=>?_) (fun h=>?_)|refine cd rfl (fun h=>?_) (fun h=>?_)|refine cn rfl (fun h=>?_) (fun h=>?_)|refine cc rfl (fun h=>?_) (fun h=>?_)
    |(apply hK;clear hK K)|(refine AWh (by assumption) ?_))
                refine ⟨hG, ?_⟩; apply Weak.mk' <;> simp [vl, NetD.cells]
              · rw [if_pos (by simp)] at hG
                repeat' (first
    |refine AW_seq_k fun K hK=>?_|refine Step.by1 ?_|refine SBlock_exit_ne (by decide) ?_
    |((first|refine AW_region_AO ?_|refine AW_region_APx (id:=27) 11 mixed (by decide) ?_|refine AP_call1 (f:=153) rfl rfl (hc) rfl rfl rfl ?_);simp [vl, NetD.cells, PartD.cells, hlt, hlt', hp, w1])
    |(refine Split.by2 (fun h=>?_) (fun h=>?_)<;>(simp [h, vl, NetD.cells, PartD.cells, hlt, hlt', hp, w1]))
    |refine ct rfl ?_|refine cf rfl ?_|refine cnd rfl (fun h=>?_) (fun h=>?_)|refine cd rfl (fun h=>?_) (fun h=>?_)|refine cn rfl (fun h=>?_) (fun h=>?_)|refine cc rfl (fun h=>?_) (fun h=>?_)
    |(apply hK;clear hK K)|(refine AWh (by assumption) ?_))
                exact retq1 (conv_eq (by rw [← hG]; rfl) rfl)
            · intro hG
              rw [goX_nil] at hG
              repeat' (first
    |refine AW_seq_k fun K hK=>?_|refine Step.by1 ?_|refine SBlock_exit_ne (by decide) ?_
    |((first|refine AW_region_AO ?_);simp [vl, NetD.cells, wrap_i64];try (simp (disch:=omega) only [wrap_i64];try simp [vl, NetD.cells, wrap_i64]))
    |(refine Split.by2 (fun h=>?_) (fun h=>?_)<;>(simp [h, vl, NetD.cells, wrap_i64];try (simp (disch:=omega) only [wrap_i64];try simp [vl, NetD.cells, wrap_i64])))
    |refine ct rfl ?_|refine cf rfl ?_|refine cnd rfl (fun h=>?_) (fun h=>?_)|refine cd rfl (fun h=>?_) (fun h=>?_)|refine cn rfl (fun h=>?_) (fun h=>?_)|refine cc rfl (fun h=>?_) (fun h=>?_)
    |(apply hK;clear hK K)|(refine AWh (by assumption) ?_))
              refine ⟨1, ⟨by omega, by rw [← hG]; rfl⟩, by omega, ?_⟩; apply Weak.mk' <;> simp [vl, NetD.cells]
          · have hv4 : x4 = x3 := by simpa using hv
            repeat' (first
    |refine AW_seq_k fun K hK=>?_|refine Step.by1 ?_|refine SBlock_exit_ne (by decide) ?_
    |((first|refine AW_region_AO ?_);simp [vl, NetD.cells, wrap_i64];try (simp (disch:=omega) only [wrap_i64];try simp [vl, NetD.cells, wrap_i64]))
    |(refine Split.by2 (fun h=>?_) (fun h=>?_)<;>(simp [h, vl, NetD.cells, wrap_i64];try (simp (disch:=omega) only [wrap_i64];try simp [vl, NetD.cells, wrap_i64])))
    |refine ct rfl ?_|refine cf rfl ?_|refine cnd rfl (fun h=>?_) (fun h=>?_)|refine cd rfl (fun h=>?_) (fun h=>?_)|refine cn rfl (fun h=>?_) (fun h=>?_)|refine cc rfl (fun h=>?_) (fun h=>?_)
    |(apply hK;clear hK K)|(refine AWh (by assumption) ?_))
            refine AW_scan (r := x3) g 12 [1, 2, 10, 11] (goX (fun p => cmpE p.guards) x5) (by rw [hx4]; exact hv4) (by apply Weak.mk' <;> simp [vl, NetD.cells]) ?_ ?_
            · intro m p _ hlt hp hG
              rw [goX_cons] at hG
              have hpo := hg2 p (hp ▸ List.getElem_mem hlt)
              have hc := r_guards n p.guards 7 (by have := hpo.2.1.1; omega)
              have heq := cmpE_eq n p.guards
              have hlt' : (m : Int) < g.length := by omega
              have w1 : IntKind.i64.wrap ((m : Int) + 1) = m + 1 := wrap_i64 (by omega) (by omega)
              simp only [NetD.cells, vl] at hc
              simp only [heq] at hG
              clear heq
              generalize anyL (wayG n 7) p.guards = kb at *
              cases kb
              · rw [if_neg (by simp)] at hG
                repeat' (first
    |refine AW_seq_k fun K hK=>?_|refine Step.by1 ?_|refine SBlock_exit_ne (by decide) ?_
    |((first|refine AW_region_AO ?_|refine AW_region_APx (id:=27) 11 mixed (by decide) ?_|refine AP_call1 (f:=153) rfl rfl (hc) rfl rfl rfl ?_);simp [vl, NetD.cells, PartD.cells, hlt, hlt', hp, w1])
    |(refine Split.by2 (fun h=>?_) (fun h=>?_)<;>(simp [h, vl, NetD.cells, PartD.cells, hlt, hlt', hp, w1]))
    |refine ct rfl ?_|refine cf rfl ?_|refine cnd rfl (fun h=>?_) (fun h=>?_)|refine cd rfl (fun h=>?_) (fun h=>?_)|refine cn rfl (fun h=>?_) (fun h=>?_)|refine cc rfl (fun h=>?_) (fun h=>?_)
    |(apply hK;clear hK K)|(refine AWh (by assumption) ?_))
                refine ⟨hG, ?_⟩; apply Weak.mk' <;> simp [vl, NetD.cells]
              · rw [if_pos (by simp)] at hG
                repeat' (first
    |refine AW_seq_k fun K hK=>?_|refine Step.by1 ?_|refine SBlock_exit_ne (by decide) ?_
    |((first|refine AW_region_AO ?_|refine AW_region_APx (id:=27) 11 mixed (by decide) ?_|refine AP_call1 (f:=153) rfl rfl (hc) rfl rfl rfl ?_);simp [vl, NetD.cells, PartD.cells, hlt, hlt', hp, w1])
    |(refine Split.by2 (fun h=>?_) (fun h=>?_)<;>(simp [h, vl, NetD.cells, PartD.cells, hlt, hlt', hp, w1]))
    |refine ct rfl ?_|refine cf rfl ?_|refine cnd rfl (fun h=>?_) (fun h=>?_)|refine cd rfl (fun h=>?_) (fun h=>?_)|refine cn rfl (fun h=>?_) (fun h=>?_)|refine cc rfl (fun h=>?_) (fun h=>?_)
    |(apply hK;clear hK K)|(refine AWh (by assumption) ?_))
                exact retq1 (conv_eq (by rw [← hG]; rfl) rfl)
            · intro hG
              rw [goX_nil] at hG
              repeat' (first
    |refine AW_seq_k fun K hK=>?_|refine Step.by1 ?_|refine SBlock_exit_ne (by decide) ?_
    |((first|refine AW_region_AO ?_);simp [vl, NetD.cells, wrap_i64];try (simp (disch:=omega) only [wrap_i64];try simp [vl, NetD.cells, wrap_i64]))
    |(refine Split.by2 (fun h=>?_) (fun h=>?_)<;>(simp [h, vl, NetD.cells, wrap_i64];try (simp (disch:=omega) only [wrap_i64];try simp [vl, NetD.cells, wrap_i64])))
    |refine ct rfl ?_|refine cf rfl ?_|refine cnd rfl (fun h=>?_) (fun h=>?_)|refine cd rfl (fun h=>?_) (fun h=>?_)|refine cn rfl (fun h=>?_) (fun h=>?_)|refine cc rfl (fun h=>?_) (fun h=>?_)
    |(apply hK;clear hK K)|(refine AWh (by assumption) ?_))
              refine ⟨2, ⟨by omega, by rw [← hG]; rfl⟩, by omega, ?_⟩; apply Weak.mk' <;> simp [vl, NetD.cells]
          · have hv5 : x5 = x3 := by simpa using hv
            repeat' (first
    |refine AW_seq_k fun K hK=>?_|refine Step.by1 ?_|refine SBlock_exit_ne (by decide) ?_
    |((first|refine AW_region_AO ?_);simp [vl, NetD.cells])
    |(refine Split.by2 (fun h=>?_) (fun h=>?_)<;>(simp [h, vl, NetD.cells]))
    |refine ct rfl ?_|refine cf rfl ?_|refine cnd rfl (fun h=>?_) (fun h=>?_)|refine cd rfl (fun h=>?_) (fun h=>?_)|refine cn rfl (fun h=>?_) (fun h=>?_)|refine cc rfl (fun h=>?_) (fun h=>?_)
    |(apply hK;clear hK K)|(refine AWh (by assumption) ?_))
            refine AW_scan (r := x3) g 13 [1, 2] (goX (fun p => truthE n p.test) 0) (by rw [hx5]; exact hv5) (by apply Weak.mk' <;> simp [vl, NetD.cells]) ?_ ?_
            · intro m p _ hlt hp hG
              rw [goX_cons] at hG
              have hpo := hg2 p (hp ▸ List.getElem_mem hlt)
              have hc := r_testless n p.test hpo.2.2.1
              have heq : truthE n p.test = if truthBad n p.test = true then 121 else 0 := rfl
              have hlt' : (m : Int) < g.length := by omega
              have w1 : IntKind.i64.wrap ((m : Int) + 1) = m + 1 := wrap_i64 (by omega) (by omega)
              simp only [NetD.cells, vl] at hc
              simp only [heq] at hG
              clear heq
              generalize truthBad n p.test = kb at *
              cases kb
              · rw [if_neg (by simp)] at hG
                repeat' (first
    |refine AW_seq_k fun K hK=>?_|refine Step.by1 ?_|refine SBlock_exit_ne (by decide) ?_
    |((first|refine AW_region_AO ?_|refine AW_region_APx (id:=32) 7 mixed (by decide) ?_|refine AP_call1 (f:=154) rfl rfl (hc) rfl rfl rfl ?_);simp [vl, NetD.cells, PartD.cells, hlt, hlt', hp, w1])
    |(refine Split.by2 (fun h=>?_) (fun h=>?_)<;>(simp [h, vl, NetD.cells, PartD.cells, hlt, hlt', hp, w1]))
    |refine ct rfl ?_|refine cf rfl ?_|refine cnd rfl (fun h=>?_) (fun h=>?_)|refine cd rfl (fun h=>?_) (fun h=>?_)|refine cn rfl (fun h=>?_) (fun h=>?_)|refine cc rfl (fun h=>?_) (fun h=>?_)
    |(apply hK;clear hK K)|(refine AWh (by assumption) ?_))
                refine ⟨hG, ?_⟩; apply Weak.mk' <;> simp [vl, NetD.cells]
              · rw [if_pos (by simp)] at hG
                repeat' (first
    |refine AW_seq_k fun K hK=>?_|refine Step.by1 ?_|refine SBlock_exit_ne (by decide) ?_
    |((first|refine AW_region_AO ?_|refine AW_region_APx (id:=32) 7 mixed (by decide) ?_|refine AP_call1 (f:=154) rfl rfl (hc) rfl rfl rfl ?_);simp [vl, NetD.cells, PartD.cells, hlt, hlt', hp, w1])
    |(refine Split.by2 (fun h=>?_) (fun h=>?_)<;>(simp [h, vl, NetD.cells, PartD.cells, hlt, hlt', hp, w1]))
    |refine ct rfl ?_|refine cf rfl ?_|refine cnd rfl (fun h=>?_) (fun h=>?_)|refine cd rfl (fun h=>?_) (fun h=>?_)|refine cn rfl (fun h=>?_) (fun h=>?_)|refine cc rfl (fun h=>?_) (fun h=>?_)
    |(apply hK;clear hK K)|(refine AWh (by assumption) ?_))
                exact retq1 (conv_eq (by rw [← hG]; rfl) rfl)
            · intro hG
              rw [goX_nil] at hG
              repeat' (first
    |refine AW_seq_k fun K hK=>?_|refine Step.by1 ?_|refine SBlock_exit_ne (by decide) ?_
    |((first|refine AW_region_AO ?_);simp [vl, NetD.cells])
    |(refine Split.by2 (fun h=>?_) (fun h=>?_)<;>(simp [h, vl, NetD.cells]))
    |refine ct rfl ?_|refine cf rfl ?_|refine cnd rfl (fun h=>?_) (fun h=>?_)|refine cd rfl (fun h=>?_) (fun h=>?_)|refine cn rfl (fun h=>?_) (fun h=>?_)|refine cc rfl (fun h=>?_) (fun h=>?_)
    |(apply hK;clear hK K)|(refine AWh (by assumption) ?_))
              exact retq1 (conv_eq (by rw [← hG]; rfl) rfl)
          · omega
  · rw [if_pos hz] at hr
    subst hr
    repeat' (first
    |refine AW_seq_k fun K hK=>?_|refine Step.by1 ?_|refine SBlock_exit_ne (by decide) ?_
    |((first|refine AW_region_AO ?_|refine AS_call1 (f:=67) rfl rfl (h0) rfl rfl rfl ?_);simp [vl, NetD.cells, hz])
    |(refine Split.by2 (fun h=>?_) (fun h=>?_)<;>(simp [h, vl, NetD.cells, hz]))
    |refine ct rfl ?_|refine cf rfl ?_|refine cnd rfl (fun h=>?_) (fun h=>?_)|refine cd rfl (fun h=>?_) (fun h=>?_)|refine cn rfl (fun h=>?_) (fun h=>?_)|refine cc rfl (fun h=>?_) (fun h=>?_)
    |(apply hK;clear hK K)|(refine AWh (by assumption) ?_))
    exact retq1 (conv_eq rfl rfl)
theorem diagE_eq (l : List GuardD) : diagE l = if anyL (badG 120) l = true then 120 else 0 := by
  have : badG 120 = diagG := funext fun g => by simp [badG]
  rw [this]; rfl
theorem greatE_eq (l : List GuardD) : greatE l = if anyL (badG 13) l = true then 13 else 0 := by
  have : badG 13 = greatG := funext fun g => by simp [badG]
  rw [this]; rfl
set_option maxRecDepth 20000 in
set_option maxHeartbeats 16000000 in
theorem r_Goal (n : NetD) (hn : n.ok) (g : List PartD) (hg : okGoal g) : PC 20 [.agg n.cells, vl PartD.cells g] (.int .i64 (goalE n g)) := by
  have h0 := r_Net n hn
  have h1 := r_WholeGoal n hn g hg
  obtain ⟨hg1, hg2⟩ := hg
  obtain ⟨r, hr⟩ : ∃ r, goalE n g = r := ⟨_, rfl⟩
  rw [hr]
  unfold goalE at hr
  rw [firstE_cons, firstE_cons, goX_eq, goX_eq, firstE_nil] at hr
  generalize netE n = e0 at *
  generalize wholeGoalE n g = e9 at *
  simp only [vl, NetD.cells] at h0 h1
  refine PCall_body Tryz.func20 rfl (by decide) Tryz.ntmps20 (by simp) Tryz.results20 ?_
  by_cases hz : e0 = 0
  · rw [if_neg (by simp [hz])] at hr
    rw [hz] at h0
    by_cases hz9 : e9 = 0
    · rw [if_neg (by simp [hz9])] at hr
      rw [hz9] at h1
      obtain ⟨x4, hx4⟩ : ∃ x, goX (fun p => greatE p.guards) 0 g = x := ⟨_, rfl⟩
      rw [hx4] at hr
      repeat' (first
    |refine AW_seq_k fun K hK=>?_|refine Step.by1 ?_|refine SBlock_exit_ne (by decide) ?_
    |((first|refine AW_region_AO ?_|refine AS_call1 (f:=16) rfl rfl (h0) rfl rfl rfl ?_|refine AS_call1 (f:=76) rfl rfl (h1) rfl rfl rfl ?_);simp [vl, NetD.cells])
    |(refine Split.by2 (fun h=>?_) (fun h=>?_)<;>(simp [h, vl, NetD.cells]))
    |refine ct rfl ?_|refine cf rfl ?_|refine cnd rfl (fun h=>?_) (fun h=>?_)|refine cd rfl (fun h=>?_) (fun h=>?_)|refine cn rfl (fun h=>?_) (fun h=>?_)|refine cc rfl (fun h=>?_) (fun h=>?_)
    |(apply hK;clear hK K)|(refine AWh (by assumption) ?_))
      refine AW_loopL [1, 6] (fun i : Nat => [(7, .int .i64 i)]) (fun _ => [.var n.cells, .row 30 0 0 true [[.int .i64 120], [.int .i64 13]]]) (fun i => i ≤ 2 ∧ ([r, x4, 0] : List Int)[i]? = some r) (fun i => 2 - i) 0 ⟨Nat.zero_le _, rfl⟩ (by apply Weak.mk' <;> simp [vl, NetD.cells]) (fun _ _ => rfl) ?_
      rintro i ⟨hi, hv⟩
      rcases i with _ | _ | _ | i
      · skip
        repeat' (first
    |refine AW_seq_k fun K hK=>?_|refine Step.by1 ?_|refine SBlock_exit_ne (by decide) ?_
    |((first|refine AW_region_AO ?_);simp [vl, NetD.cells, wrap_i64];try (simp (disch:=omega) only [wrap_i64];try simp [vl, NetD.cells, wrap_i64]))
    |(refine Split.by2 (fun h=>?_) (fun h=>?_)<;>(simp [h, vl, NetD.cells, wrap_i64];try (simp (disch:=omega) only [wrap_i64];try simp [vl, NetD.cells, wrap_i64])))
    |refine ct rfl ?_|refine cf rfl ?_|refine cnd rfl (fun h=>?_) (fun h=>?_)|refine cd rfl (fun h=>?_) (fun h=>?_)|refine cn rfl (fun h=>?_) (fun h=>?_)|refine cc rfl (fun h=>?_) (fun h=>?_)
    |(apply hK;clear hK K)|(refine AWh (by assumption) ?_))
        refine AW_scan (r := r) g 8 [1, 6, 7] (goX (fun p => diagE p.guards) x4) hr (by apply Weak.mk' <;> simp [vl, NetD.cells]) ?_ ?_
        · intro m p _ hlt hp hG
          rw [goX_cons] at hG
          have hpo := hg2 p (hp ▸ List.getElem_mem hlt)
          have hc0 := r_bad p.guards [] 120 (by have := hpo.2.1.1; omega) (by simp)
          have hc := PCall.denil (args := [vl GuardD.cells p.guards, .nils, .int .i64 120]) hc0 rfl
          rw [show (anyL (badG 120) p.guards || anyL (badS 120) []) = anyL (badG 120) p.guards by rw [anyL_nil, Bool.or_false]] at hc
          clear hc0
          have heq := diagE_eq p.guards
          have hlt' : (m : Int) < g.length := by omega
          have w1 : IntKind.i64.wrap ((m : Int) + 1) = m + 1 := wrap_i64 (by omega) (by omega)
          simp only [vl] at hc
          simp only [heq] at hG
          clear heq
          generalize anyL (badG 120) p.guards = kb at *
          cases kb
          · rw [if_neg (by simp)] at hG
            repeat' (first
    |refine AW_seq_k fun K hK=>?_|refine Step.by1 ?_|refine SBlock_exit_ne (by decide) ?_
    |((first|refine AW_region_AO ?_|refine AW_region_APx (id:=13) 10 mixed (by decide) ?_|refine AP_call1 (f:=77) rfl rfl (hc) rfl rfl rfl ?_);simp [vl, NetD.cells, PartD.cells, hlt, hlt', hp, w1])
    |(refine Split.by2 (fun h=>?_) (fun h=>?_)<;>(simp [h, vl, NetD.cells, PartD.cells, hlt, hlt', hp, w1]))
    |refine ct rfl ?_|refine cf rfl ?_|refine cnd rfl (fun h=>?_) (fun h=>?_)|refine cd rfl (fun h=>?_) (fun h=>?_)|refine cn rfl (fun h=>?_) (fun h=>?_)|refine cc rfl (fun h=>?_) (fun h=>?_)
    |(apply hK;clear hK K)|(refine AWh (by assumption) ?_))
            refine ⟨hG, ?_⟩; apply Weak.mk' <;> simp [vl, NetD.cells]
          · rw [if_pos (by simp)] at hG
            repeat' (first
    |refine AW_seq_k fun K hK=>?_|refine Step.by1 ?_|refine SBlock_exit_ne (by decide) ?_
    |((first|refine AW_region_AO ?_|refine AW_region_APx (id:=13) 10 mixed (by decide) ?_|refine AP_call1 (f:=77) rfl rfl (hc) rfl rfl rfl ?_);simp [vl, NetD.cells, PartD.cells, hlt, hlt', hp, w1])
    |(refine Split.by2 (fun h=>?_) (fun h=>?_)<;>(simp [h, vl, NetD.cells, PartD.cells, hlt, hlt', hp, w1]))
    |refine ct rfl ?_|refine cf rfl ?_|refine cnd rfl (fun h=>?_) (fun h=>?_)|refine cd rfl (fun h=>?_) (fun h=>?_)|refine cn rfl (fun h=>?_) (fun h=>?_)|refine cc rfl (fun h=>?_) (fun h=>?_)
    |(apply hK;clear hK K)|(refine AWh (by assumption) ?_))
            exact retq1 (conv_eq (by rw [← hG]; rfl) rfl)
        · intro hG
          rw [goX_nil] at hG
          repeat' (first
    |refine AW_seq_k fun K hK=>?_|refine Step.by1 ?_|refine SBlock_exit_ne (by decide) ?_
    |((first|refine AW_region_AO ?_);simp [vl, NetD.cells, wrap_i64];try (simp (disch:=omega) only [wrap_i64];try simp [vl, NetD.cells, wrap_i64]))
    |(refine Split.by2 (fun h=>?_) (fun h=>?_)<;>(simp [h, vl, NetD.cells, wrap_i64];try (simp (disch:=omega) only [wrap_i64];try simp [vl, NetD.cells, wrap_i64])))
    |refine ct rfl ?_|refine cf rfl ?_|refine cnd rfl (fun h=>?_) (fun h=>?_)|refine cd rfl (fun h=>?_) (fun h=>?_)|refine cn rfl (fun h=>?_) (fun h=>?_)|refine cc rfl (fun h=>?_) (fun h=>?_)
    |(apply hK;clear hK K)|(refine AWh (by assumption) ?_))
          refine ⟨1, ⟨by omega, by rw [← hG]; rfl⟩, by omega, ?_⟩; apply Weak.mk' <;> simp [vl, NetD.cells]
      · have hv4 : x4 = r := by simpa using hv
        repeat' (first
    |refine AW_seq_k fun K hK=>?_|refine Step.by1 ?_|refine SBlock_exit_ne (by decide) ?_
    |((first|refine AW_region_AO ?_);simp [vl, NetD.cells, wrap_i64];try (simp (disch:=omega) only [wrap_i64];try simp [vl, NetD.cells, wrap_i64]))
    |(refine Split.by2 (fun h=>?_) (fun h=>?_)<;>(simp [h, vl, NetD.cells, wrap_i64];try (simp (disch:=omega) only [wrap_i64];try simp [vl, NetD.cells, wrap_i64])))
    |refine ct rfl ?_|refine cf rfl ?_|refine cnd rfl (fun h=>?_) (fun h=>?_)|refine cd rfl (fun h=>?_) (fun h=>?_)|refine cn rfl (fun h=>?_) (fun h=>?_)|refine cc rfl (fun h=>?_) (fun h=>?_)
    |(apply hK;clear hK K)|(refine AWh (by assumption) ?_))
        refine AW_scan (r := r) g 8 [1, 6, 7] (goX (fun p => greatE p.guards) 0) (by rw [hx4]; exact hv4) (by apply Weak.mk' <;> simp [vl, NetD.cells]) ?_ ?_
        · intro m p _ hlt hp hG
          rw [goX_cons] at hG
          have hpo := hg2 p (hp ▸ List.getElem_mem hlt)
          have hc0 := r_bad p.guards [] 13 (by have := hpo.2.1.1; omega) (by simp)
          have hc := PCall.denil (args := [vl GuardD.cells p.guards, .nils, .int .i64 13]) hc0 rfl
          rw [show (anyL (badG 13) p.guards || anyL (badS 13) []) = anyL (badG 13) p.guards by rw [anyL_nil, Bool.or_false]] at hc
          clear hc0
          have heq := greatE_eq p.guards
          have hlt' : (m : Int) < g.length := by omega
          have w1 : IntKind.i64.wrap ((m : Int) + 1) = m + 1 := wrap_i64 (by omega) (by omega)
          simp only [vl] at hc
          simp only [heq] at hG
          clear heq
          generalize anyL (badG 13) p.guards = kb at *
          cases kb
          · rw [if_neg (by simp)] at hG
            repeat' (first
    |refine AW_seq_k fun K hK=>?_|refine Step.by1 ?_|refine SBlock_exit_ne (by decide) ?_
    |((first|refine AW_region_AO ?_|refine AW_region_APx (id:=13) 10 mixed (by decide) ?_|refine AP_call1 (f:=77) rfl rfl (hc) rfl rfl rfl ?_);simp [vl, NetD.cells, PartD.cells, hlt, hlt', hp, w1])
    |(refine Split.by2 (fun h=>?_) (fun h=>?_)<;>(simp [h, vl, NetD.cells, PartD.cells, hlt, hlt', hp, w1]))
    |refine ct rfl ?_|refine cf rfl ?_|refine cnd rfl (fun h=>?_) (fun h=>?_)|refine cd rfl (fun h=>?_) (fun h=>?_)|refine cn rfl (fun h=>?_) (fun h=>?_)|refine cc rfl (fun h=>?_) (fun h=>?_)
    |(apply hK;clear hK K)|(refine AWh (by assumption) ?_))
            refine ⟨hG, ?_⟩; apply Weak.mk' <;> simp [vl, NetD.cells]
          · rw [if_pos (by simp)] at hG
            repeat' (first
    |refine AW_seq_k fun K hK=>?_|refine Step.by1 ?_|refine SBlock_exit_ne (by decide) ?_
    |((first|refine AW_region_AO ?_|refine AW_region_APx (id:=13) 10 mixed (by decide) ?_|refine AP_call1 (f:=77) rfl rfl (hc) rfl rfl rfl ?_);simp [vl, NetD.cells, PartD.cells, hlt, hlt', hp, w1])
    |(refine Split.by2 (fun h=>?_) (fun h=>?_)<;>(simp [h, vl, NetD.cells, PartD.cells, hlt, hlt', hp, w1]))
    |refine ct rfl ?_|refine cf rfl ?_|refine cnd rfl (fun h=>?_) (fun h=>?_)|refine cd rfl (fun h=>?_) (fun h=>?_)|refine cn rfl (fun h=>?_) (fun h=>?_)|refine cc rfl (fun h=>?_) (fun h=>?_)
    |(apply hK;clear hK K)|(refine AWh (by assumption) ?_))
            exact retq1 (conv_eq (by rw [← hG]; rfl) rfl)
        · intro hG
          rw [goX_nil] at hG
          repeat' (first
    |refine AW_seq_k fun K hK=>?_|refine Step.by1 ?_|refine SBlock_exit_ne (by decide) ?_
    |((first|refine AW_region_AO ?_);simp [vl, NetD.cells, wrap_i64];try (simp (disch:=omega) only [wrap_i64];try simp [vl, NetD.cells, wrap_i64]))
    |(refine Split.by2 (fun h=>?_) (fun h=>?_)<;>(simp [h, vl, NetD.cells, wrap_i64];try (simp (disch:=omega) only [wrap_i64];try simp [vl, NetD.cells, wrap_i64])))
    |refine ct rfl ?_|refine cf rfl ?_|refine cnd rfl (fun h=>?_) (fun h=>?_)|refine cd rfl (fun h=>?_) (fun h=>?_)|refine cn rfl (fun h=>?_) (fun h=>?_)|refine cc rfl (fun h=>?_) (fun h=>?_)
    |(apply hK;clear hK K)|(refine AWh (by assumption) ?_))
          refine ⟨2, ⟨by omega, by rw [← hG]; rfl⟩, by omega, ?_⟩; apply Weak.mk' <;> simp [vl, NetD.cells]
      · have hv5 : 0 = r := by simpa using hv
        repeat' (first
    |refine AW_seq_k fun K hK=>?_|refine Step.by1 ?_|refine SBlock_exit_ne (by decide) ?_
    |((first|refine AW_region_AO ?_);simp [vl, NetD.cells])
    |(refine Split.by2 (fun h=>?_) (fun h=>?_)<;>(simp [h, vl, NetD.cells]))
    |refine ct rfl ?_|refine cf rfl ?_|refine cnd rfl (fun h=>?_) (fun h=>?_)|refine cd rfl (fun h=>?_) (fun h=>?_)|refine cn rfl (fun h=>?_) (fun h=>?_)|refine cc rfl (fun h=>?_) (fun h=>?_)
    |(apply hK;clear hK K)|(refine AWh (by assumption) ?_))
        exact retq1 (conv_eq (by rw [← hv5]; rfl) rfl)
      · omega
    · rw [if_pos hz9] at hr
      subst hr
      repeat' (first
    |refine AW_seq_k fun K hK=>?_|refine Step.by1 ?_|refine SBlock_exit_ne (by decide) ?_
    |((first|refine AW_region_AO ?_|refine AS_call1 (f:=16) rfl rfl (h0) rfl rfl rfl ?_|refine AS_call1 (f:=76) rfl rfl (h1) rfl rfl rfl ?_);simp [vl, NetD.cells, hz9])
    |(refine Split.by2 (fun h=>?_) (fun h=>?_)<;>(simp [h, vl, NetD.cells, hz9]))
    |refine ct rfl ?_|refine cf rfl ?_|refine cnd rfl (fun h=>?_) (fun h=>?_)|refine cd rfl (fun h=>?_) (fun h=>?_)|refine cn rfl (fun h=>?_) (fun h=>?_)|refine cc rfl (fun h=>?_) (fun h=>?_)
    |(apply hK;clear hK K)|(refine AWh (by assumption) ?_))
      exact retq1 (conv_eq rfl rfl)
  · rw [if_pos hz] at hr
    subst hr
    repeat' (first
    |refine AW_seq_k fun K hK=>?_|refine Step.by1 ?_|refine SBlock_exit_ne (by decide) ?_
    |((first|refine AW_region_AO ?_|refine AS_call1 (f:=16) rfl rfl (h0) rfl rfl rfl ?_);simp [vl, NetD.cells, hz])
    |(refine Split.by2 (fun h=>?_) (fun h=>?_)<;>(simp [h, vl, NetD.cells, hz]))
    |refine ct rfl ?_|refine cf rfl ?_|refine cnd rfl (fun h=>?_) (fun h=>?_)|refine cd rfl (fun h=>?_) (fun h=>?_)|refine cn rfl (fun h=>?_) (fun h=>?_)|refine cc rfl (fun h=>?_) (fun h=>?_)
    |(apply hK;clear hK K)|(refine AWh (by assumption) ?_))
    exact retq1 (conv_eq rfl rfl)
end Go.Proofs.YtgmlimipejcpgaaGreatDoor
end

section
/-! AM, part La: literals: slices that are built frozen; nil, deep inside, as a slice that shows nothing. -/
set_option linter.unusedVariables false
set_option linter.unusedSimpArgs false
namespace Go.AM
section
variable {P : Program} {ge : GEnv} {st : St} {Q : Exit → St → Prop} {ops : Array Oper}
variable {d : Option Tmp} {t : TypeId} {p : String} {af : Array Edge} {g : Option (Nat × Bool)}
/-- The walk of a region whose slices are built frozen. -/
def AOL (P : Program) (ge : GEnv) (ops : Array Oper) (Q : Exit → St → Prop) : List Oper → St → Prop
  | [], st => Q .normal st
  | ⟨d, .buildSlice T len parts, _, _, _, none⟩ :: rest, st => dstOk st.n d = true ∧ bsOk P ge st T len parts ∧
      AOL P ge ops Q rest ⟨st.n, putD d (.vec (rowsV (List.replicate len (zeroD P (elemOf P T))) (partsV ge st.tm parts.toList)) len) st.tm, st.h⟩
  | ⟨d, op, t, p, af, none⟩ :: rest, st =>
      if plainOp op = true then dstOk st.n d = true ∧ opOk P ge st op ∧ AOL P ge ops Q rest ⟨st.n, putD d (opVal P ge st op).1 st.tm, (opVal P ge st op).2⟩
      else AS P ge ops (⟨d, op, t, p, af, none⟩ :: rest) Q st
  | ⟨d, op, t, p, af, some g⟩ :: rest, st => AS P ge ops (⟨d, op, t, p, af, some g⟩ :: rest) Q st
theorem AS_of_AOL : ∀ {l : List Oper} {st : St}, AOL P ge ops Q l st → AS P ge ops l Q st
  | [], st, h => by rw [AOL] at h; exact AS_nil h
  | ⟨d, op, t, p, af, some g⟩ :: rest, st, h => by
    cases op <;> (rw [AOL] at h; try exact h) <;> (intro hh; cases hh)
  | ⟨d, op, t, p, af, none⟩ :: rest, st, h => by
    by_cases hb : ∃ T len parts, op = .buildSlice T len parts
    · obtain ⟨T, len, parts, rfl⟩ := hb
      rw [AOL] at h
      obtain ⟨h1, h2, h3⟩ := h
      exact AS_op rfl h1 (S_bsOk h2) (AS_of_AOL h3)
    · rw [AOL] at h
      · split at h
        · obtain ⟨h1, h2, h3⟩ := h
          exact AS_op rfl h1 (opS_of_ok h2) (AS_of_AOL h3)
        · exact h
      · intro T len parts e; exact hb ⟨T, len, parts, e⟩
theorem AW_region_AOL {id : Nat} (h : AOL P ge ops Q ops.toList st) : AW P ge (.region id ops false) Q st := AW_region (AS_of_AOL h)
end

/-! ### Nil, deep inside -/
mutual
def V.dn : V → V
  | .nils => .vec [] 0
  | .vec xs len => .vec (V.dnR xs) len
  | .agg cs => .agg (V.dns cs)
  | .tup cs => .tup (V.dns cs)
  | .fp cs off => .fp (V.dns cs) off
  | v => v
def V.dns : List V → List V
  | [] => []
  | v :: r => V.dn v :: V.dns r
def V.dnR : List (List V) → List (List V)
  | [] => []
  | x :: r => V.dns x :: V.dnR r
end
theorem dns_eq : ∀ cs : List V, V.dns cs = cs.map V.dn
  | [] => rfl
  | v :: r => by rw [V.dns, List.map_cons, dns_eq r]
theorem dnR_eq : ∀ xs : List (List V), V.dnR xs = xs.map V.dns
  | [] => rfl
  | x :: r => by rw [V.dnR, List.map_cons, dnR_eq r]
theorem R.dn {G : Gh} {w : World} {fr : Bool} {v : V} {c : Value} (h : R G w fr v c) : R G w fr v.dn c := by
  have tg : ∀ {cs : List V} {j : Nat} {v : V}, (V.dns cs)[j]? = some v → ∃ u, cs[j]? = some u ∧ v = u.dn := fun {cs j v} hv => by
    rw [dns_eq, List.getElem?_map] at hv
    obtain ⟨u, h1, h2⟩ := Option.map_eq_some_iff.1 hv
    exact ⟨u, h1, h2.symm⟩
  have rg : ∀ {xs : List (List V)} {i : Nat} {x : List V}, (V.dnR xs)[i]? = some x → ∃ y, xs[i]? = some y ∧ x = V.dns y := fun {xs i x} hx => by
    rw [dnR_eq, List.getElem?_map] at hx
    obtain ⟨y, h1, h2⟩ := Option.map_eq_some_iff.1 hx
    exact ⟨y, h1, h2.symm⟩
  induction h with
  | nils => exact .emp (Nat.zero_le _)
  | emp h => exact .emp h
  | @vec _ _ _ _ _ _ sz h1 h2 h3 hl hc ho hr ih =>
    refine .vec (sz := sz) (by rw [dnR_eq, List.length_map]; exact h1) (by rw [dnR_eq, List.length_map]; exact h2) h3 (fun i x hx => ?_) (fun i x j v hx hv => ?_) (fun i x j v hx hv => ?_) (fun i x j v hx hv => ?_)
    · obtain ⟨y, h4, rfl⟩ := rg hx; rw [dns_eq, List.length_map]; exact hl i y h4
    · obtain ⟨y, h4, rfl⟩ := rg hx; obtain ⟨u, h5, rfl⟩ := tg hv; exact hc i y j u h4 h5
    · obtain ⟨y, h4, rfl⟩ := rg hx; obtain ⟨u, h5, rfl⟩ := tg hv; exact ho i y j u h4 h5
    · obtain ⟨y, h4, rfl⟩ := rg hx; obtain ⟨u, h5, rfl⟩ := tg hv; exact ih i y j u h4 h5
  | fp hc ho hr ih =>
    refine .fp (fun j v hv => ?_) (fun j v hv => ?_) (fun j v hv => ?_)
    · obtain ⟨u, h5, rfl⟩ := tg hv; exact hc j u h5
    · obtain ⟨u, h5, rfl⟩ := tg hv; exact ho j u h5
    · obtain ⟨u, h5, rfl⟩ := tg hv; exact ih j u h5
  | agg hs ho hr ih =>
    refine .agg (by rw [dns_eq, List.length_map]; exact hs) (fun i v hv => ?_) (fun i v hv => ?_)
    · obtain ⟨u, h5, rfl⟩ := tg hv; exact ho i u h5
    · obtain ⟨u, h5, rfl⟩ := tg hv; exact ih i u h5
  | tup hs hr ih =>
    refine .tup (by rw [dns_eq, List.length_map]; exact hs) (fun i v hv => ?_)
    obtain ⟨u, h5, rfl⟩ := tg hv; exact ih i u h5
  | fn hs hr hs' hr' => exact .fn hs hr hs' hr'
  | ifc hr => exact .ifc hr
  | junk => exact .junk
  | void => exact .void
  | bool => exact .bool
  | int => exact .int
  | str => exact .str
  | nilp => exact .nilp
  | nilf => exact .nilf
  | nilm => exact .nilm
  | nili => exact .nili
  | ref hb hg hm hle => exact .ref hb hg hm hle
  | refn hb hg hm => exact .refn hb hg hm
  | ptr hb hm => exact .ptr hb hm
  | ep hb hg hm => exact .ep hb hg hm
  | mp hb hm => exact .mp hb hm
/-- A contract for what nil, deep inside the arguments, shows. -/
theorem PCall.dn {P : Program} {ge : GEnv} {f : Nat} {args args' : List V} {r : V} (hc : PCall P ge f args' r) (ha : V.dns args = args') : PCall P ge f args r := by
  subst ha
  refine ⟨hc.1, fun G w cargs h hg => hc.2 G w cargs ⟨by rw [dns_eq, List.length_map]; exact h.1, fun i v hv => ?_⟩ hg⟩
  rw [dns_eq, List.getElem?_map] at hv
  obtain ⟨u, h1, rfl⟩ := Option.map_eq_some_iff.1 hv
  exact (h.2 i u h1).dn
/-- A result, as it shows with nil deep inside. -/
theorem PCall.dnr {P : Program} {ge : GEnv} {f : Nat} {args : List V} {r r' : V} (hc : PCall P ge f args r) (hp : r.plain = true) (he : r.dn = r') (h1 : ∀ T xs, r' ≠ .own T xs) (h2 : ∀ vs, r' ≠ .tup vs) : PCall P ge f args r' := by
  refine ⟨hc.1, fun G w cargs ha hg => (hc.2 G w cargs ha hg).mono fun e w' ⟨c, G', k1, k2, k3⟩ => ⟨c, G', k1, k2, ?_⟩⟩
  have h4 := (k3.plain hp).dn
  rw [he] at h4
  cases r' <;> first | exact h4 | exact (h1 _ _ rfl).elim | exact (h2 _ rfl).elim
attribute [simp] AOL
end Go.AM
end

section
set_option linter.unusedVariables false
set_option linter.unusedSimpArgs false
namespace Go.Proofs.YtgmlimipejcpgaaGreatDoor
open Go Go.AM Fx
/-! Max, Lower; the law's small network; live. -/
theorem c_Max1 (c : Int) : PC 80 [.int .u8 c] (.bool true) := by
  refine PCall_body Tryz.func80 rfl (by decide) Tryz.ntmps80 (by simp) Tryz.results80 ?_
  repeat' (first
    |refine AW_seq_k fun K hK=>?_|refine Step.by1 ?_|refine SBlock_exit_ne (by decide) ?_
    |((first|refine AW_region_AO ?_);simp)
    |(refine Split.by2 (fun h=>?_) (fun h=>?_)<;>(simp [h]))
    |refine ct rfl ?_|refine cf rfl ?_|refine cnd rfl (fun h=>?_) (fun h=>?_)|refine cd rfl (fun h=>?_) (fun h=>?_)|refine cn rfl (fun h=>?_) (fun h=>?_)|refine cc rfl (fun h=>?_) (fun h=>?_)
    |(apply hK;clear hK K)|(refine AWh (by assumption) ?_))
  exact retq1 (conv_eq rfl rfl)
def lowB (c : Int) : Bool := decide (c = 4 ∨ c = 5 ∨ c = 3)
theorem c_Lower1 (c : Int) : PC 81 [.int .u8 c] (.bool (lowB c)) := by
  refine PCall_body Tryz.func81 rfl (by decide) Tryz.ntmps81 (by simp) Tryz.results81 ?_
  repeat' (first
    |refine AW_seq_k fun K hK=>?_|refine Step.by1 ?_|refine SBlock_exit_ne (by decide) ?_
    |((first|refine AW_region_AO ?_);simp)
    |(refine Split.by2 (fun h=>?_) (fun h=>?_)<;>(simp [h]))
    |refine ct rfl ?_|refine cf rfl ?_|refine cnd rfl (fun h=>?_) (fun h=>?_)|refine cd rfl (fun h=>?_) (fun h=>?_)|refine cn rfl (fun h=>?_) (fun h=>?_)|refine cc rfl (fun h=>?_) (fun h=>?_)
    |(apply hK;clear hK K)|(refine AWh (by assumption) ?_))
  all_goals first
    | exact retq1 (conv_eq (by simp [lowB, *]; done) rfl)
    | exact retq1 (conv_eq (by simp [lowB, *]; omega) rfl)
    | trace_state
theorem c_Max (n : NetD) (hn : n.ok) (gs : List (List PartD)) (hgl : gs.length ≤ 1048576) (hgs : ∀ g ∈ gs, okGoal g) : PC 22 [.agg n.cells, gsV gs] (numV (numbE n (fun _ => true) gs)) := by
  have hc := c_numbers n hn 80 (fun _ => true) c_Max1 gs hgl hgs
  simp only [gsV, vl, NetD.cells] at hc
  cases h : numbE n (fun _ => true) gs with
  | none =>
    rw [h] at hc
    simp only [numV] at hc ⊢
    refine PCall_body Tryz.func22 rfl (by decide) Tryz.ntmps22 (by simp) Tryz.results22 ?_
    repeat' (first
    |refine AW_seq_k fun K hK=>?_|refine Step.by1 ?_|refine SBlock_exit_ne (by decide) ?_
    |((first|refine AW_region_AO ?_|refine AS_call1 (f:=79) rfl rfl (hc) rfl rfl rfl ?_);simp [gsV, vl, NetD.cells])
    |(refine Split.by2 (fun h=>?_) (fun h=>?_)<;>(simp [h, gsV, vl, NetD.cells]))
    |refine ct rfl ?_|refine cf rfl ?_|refine cnd rfl (fun h=>?_) (fun h=>?_)|refine cd rfl (fun h=>?_) (fun h=>?_)|refine cn rfl (fun h=>?_) (fun h=>?_)|refine cc rfl (fun h=>?_) (fun h=>?_)
    |(apply hK;clear hK K)|(refine AWh (by assumption) ?_))
    exact retq1 (conv_eq rfl rfl)
  | some o =>
    rw [h] at hc
    simp only [numV] at hc ⊢
    refine PCall_body Tryz.func22 rfl (by decide) Tryz.ntmps22 (by simp) Tryz.results22 ?_
    repeat' (first
    |refine AW_seq_k fun K hK=>?_|refine Step.by1 ?_|refine SBlock_exit_ne (by decide) ?_
    |((first|refine AW_region_AO ?_|refine AS_callO (f:=79) rfl rfl (hc) rfl rfl ?_);simp [gsV, vl, NetD.cells])
    |(refine Split.by2 (fun h=>?_) (fun h=>?_)<;>(simp [h, gsV, vl, NetD.cells]))
    |refine ct rfl ?_|refine cf rfl ?_|refine cnd rfl (fun h=>?_) (fun h=>?_)|refine cd rfl (fun h=>?_) (fun h=>?_)|refine cn rfl (fun h=>?_) (fun h=>?_)|refine cc rfl (fun h=>?_) (fun h=>?_)
    |(apply hK;clear hK K)|(refine AWh (by assumption) ?_))
    exact retq1 (.inr (.inl (conv1_own rfl (by simp))))
theorem c_Lower (n : NetD) (hn : n.ok) (gs : List (List PartD)) (hgl : gs.length ≤ 1048576) (hgs : ∀ g ∈ gs, okGoal g) : PC 23 [.agg n.cells, gsV gs] (numV (numbE n lowB gs)) := by
  have hc := c_numbers n hn 81 lowB c_Lower1 gs hgl hgs
  simp only [gsV, vl, NetD.cells] at hc
  cases h : numbE n lowB gs with
  | none =>
    rw [h] at hc
    simp only [numV] at hc ⊢
    refine PCall_body Tryz.func23 rfl (by decide) Tryz.ntmps23 (by simp) Tryz.results23 ?_
    repeat' (first
    |refine AW_seq_k fun K hK=>?_|refine Step.by1 ?_|refine SBlock_exit_ne (by decide) ?_
    |((first|refine AW_region_AO ?_|refine AS_call1 (f:=79) rfl rfl (hc) rfl rfl rfl ?_);simp [gsV, vl, NetD.cells])
    |(refine Split.by2 (fun h=>?_) (fun h=>?_)<;>(simp [h, gsV, vl, NetD.cells]))
    |refine ct rfl ?_|refine cf rfl ?_|refine cnd rfl (fun h=>?_) (fun h=>?_)|refine cd rfl (fun h=>?_) (fun h=>?_)|refine cn rfl (fun h=>?_) (fun h=>?_)|refine cc rfl (fun h=>?_) (fun h=>?_)
    |(apply hK;clear hK K)|(refine AWh (by assumption) ?_))
    exact retq1 (conv_eq rfl rfl)
  | some o =>
    rw [h] at hc
    simp only [numV] at hc ⊢
    refine PCall_body Tryz.func23 rfl (by decide) Tryz.ntmps23 (by simp) Tryz.results23 ?_
    repeat' (first
    |refine AW_seq_k fun K hK=>?_|refine Step.by1 ?_|refine SBlock_exit_ne (by decide) ?_
    |((first|refine AW_region_AO ?_|refine AS_callO (f:=79) rfl rfl (hc) rfl rfl ?_);simp [gsV, vl, NetD.cells])
    |(refine Split.by2 (fun h=>?_) (fun h=>?_)<;>(simp [h, gsV, vl, NetD.cells]))
    |refine ct rfl ?_|refine cf rfl ?_|refine cnd rfl (fun h=>?_) (fun h=>?_)|refine cd rfl (fun h=>?_) (fun h=>?_)|refine cn rfl (fun h=>?_) (fun h=>?_)|refine cc rfl (fun h=>?_) (fun h=>?_)
    |(apply hK;clear hK K)|(refine AWh (by assumption) ?_))
    exact retq1 (.inr (.inl (conv1_own rfl (by simp))))
def smallN : NetD := { clocks := [⟨#[120]⟩], vars := [], chans := [], autos := [{ name := ⟨#[65]⟩, locs := [{ name := ⟨#[97]⟩, kind := 0, inv := [{ clock := 1, other := 0, cmp := 2, n := 5 }] }, { name := ⟨#[98]⟩, kind := 0, inv := [] }], edges := [{ frm := 0, to := 1, guards := [{ clock := 1, other := 0, cmp := 4, n := 3 }], test := [], chan := 0, send := false, sets := [{ clock := 1, n := 0, var := 0, expr := [] }] }] }] }
def smallG : List (List PartD) := [[{ locs := [], guards := [{ clock := 1, other := 0, cmp := 5, n := 7 }], test := [] }]]
def bareN : NetD := { clocks := [], vars := [], chans := [], autos := [] }
theorem small_ok : smallN.ok := by
  simp [smallN, NetD.ok, AutoD.ok, LocD.ok, EdgeD.ok, GuardD.ok, SetD.ok, I64]
  decide
theorem bare_ok : bareN.ok := by simp [bareN, NetD.ok]
theorem smallG_ok : ∀ g ∈ smallG, okGoal g := by
  simp [smallG, okGoal, PartD.ok, GuardD.ok, I64]
set_option maxRecDepth 20000 in
set_option maxHeartbeats 4000000 in
theorem c_small : PC 69 [] (.agg smallN.cells) := by
  have h : PC 69 [] (.agg [.vec [[.str ⟨#[120]⟩]] 1, .nils, .nils, .vec [[.str ⟨#[65]⟩, .vec [[.str ⟨#[97]⟩, .int .u8 0, .vec [[.int .i64 1, .int .i64 0, .int .u8 2, .int .i64 5]] 1], [.str ⟨#[98]⟩, .int .u8 0, .nils]] 2, .vec [[.int .i64 0, .int .i64 1, .vec [[.int .i64 1, .int .i64 0, .int .u8 4, .int .i64 3]] 1, .nils, .int .i64 0, .bool false, .vec [[.int .i64 1, .int .i64 0, .int .i64 0, .nils]] 1]] 1]] 1]) := by
    refine PCall_body Tryz.func69 rfl (by decide) Tryz.ntmps69 (by simp) Tryz.results69 ?_
    repeat' (first
    |(refine AW_region_AOL (id := 1) ?_;simp)
    |refine AW_seq_k fun K hK=>?_|refine Step.by1 ?_|refine SBlock_exit_ne (by decide) ?_
    |((first|refine AW_region_AO ?_);simp)
    |(refine Split.by2 (fun h=>?_) (fun h=>?_)<;>(simp [h]))
    |refine ct rfl ?_|refine cf rfl ?_|refine cnd rfl (fun h=>?_) (fun h=>?_)|refine cd rfl (fun h=>?_) (fun h=>?_)|refine cn rfl (fun h=>?_) (fun h=>?_)|refine cc rfl (fun h=>?_) (fun h=>?_)
    |(apply hK;clear hK K)|(refine AWh (by assumption) ?_))
    exact retqc rfl (by simp) (conv_eq (by simp) (by simp))
  exact h.dnr rfl rfl (fun _ _ h => by cases h) (fun _ h => by cases h)
end Go.Proofs.YtgmlimipejcpgaaGreatDoor
end

section
set_option linter.unusedVariables false
set_option linter.unusedSimpArgs false
namespace Go.Proofs.YtgmlimipejcpgaaGreatDoor
open Go Go.AM Fx
theorem num_small : numbE smallN (fun _ => true) [] = some [5] := by kernel_rfl
theorem num_smallG : numbE smallN lowB smallG = some [7] := by kernel_rfl
theorem net_small : netE smallN = 0 := by kernel_rfl
theorem net_bare : netE bareN = 2 := by kernel_rfl
set_option maxRecDepth 20000 in
set_option maxHeartbeats 4000000 in
theorem c_live12 : PC 14 [] (.bool true) := by
  have h0 := c_small
  have h1 := c_Max smallN small_ok [] (by simp) (by simp)
  rw [num_small] at h1
  have h1' := PCall.denil (args := [.agg smallN.cells, .nils]) h1 rfl
  have h2 := c_Lower smallN small_ok smallG (by simp [smallG]) smallG_ok
  rw [num_smallG] at h2
  have h2' := PCall.dn (args := [.agg smallN.cells, .vec [[.vec [[.nils, .vec [[.int .i64 1, .int .i64 0, .int .u8 5, .int .i64 7]] 1, .nils]] 1]] 1]) h2 rfl
  have h3 := c_Net smallN small_ok
  rw [net_small] at h3
  have h4 := c_Net bareN bare_ok
  rw [net_bare] at h4
  have h4' := PCall.dn (args := [.agg [.nils, .nils, .nils, .nils]]) h4 rfl
  clear h1 h2 h4
  have hcs : smallN.cells = [.vec [[.str ⟨#[120]⟩]] 1, .vec [] 0, .vec [] 0, .vec [[.str ⟨#[65]⟩, .vec [[.str ⟨#[97]⟩, .int .u8 0, .vec [[.int .i64 1, .int .i64 0, .int .u8 2, .int .i64 5]] 1], [.str ⟨#[98]⟩, .int .u8 0, .vec [] 0]] 2, .vec [[.int .i64 0, .int .i64 1, .vec [[.int .i64 1, .int .i64 0, .int .u8 4, .int .i64 3]] 1, .vec [] 0, .int .i64 0, .bool false, .vec [[.int .i64 1, .int .i64 0, .int .i64 0, .vec [] 0]] 1]] 1]] 1] := rfl
  simp only [numV, List.map_cons, List.map_nil] at h1' h2'
  rw [hcs] at h0 h1' h2' h3
  refine PCall_body Tryz.func14 rfl (by decide) Tryz.ntmps14 (by simp) Tryz.results14 ?_
  repeat' (first
    |(refine AW_region_AOL (id := 3) ?_;simp)
    |refine AW_seq_k fun K hK=>?_|refine Step.by1 ?_|refine SBlock_exit_ne (by decide) ?_
    |((first|refine AW_region_AO ?_|refine AS_call1 (f:=69) rfl rfl (h0) rfl rfl rfl ?_|refine AS_callO (f:=22) rfl rfl (h1') rfl rfl ?_|refine AS_callO (f:=23) rfl rfl (h2') rfl rfl ?_|refine AS_call1 (f:=15) rfl rfl (h3) rfl rfl rfl ?_|refine AS_call1 (f:=15) rfl rfl (h4') rfl rfl rfl ?_);simp)
    |(refine Split.by2 (fun h=>?_) (fun h=>?_)<;>(simp [h]))
    |refine ct rfl ?_|refine cf rfl ?_|refine cnd rfl (fun h=>?_) (fun h=>?_)|refine cd rfl (fun h=>?_) (fun h=>?_)|refine cn rfl (fun h=>?_) (fun h=>?_)|refine cc rfl (fun h=>?_) (fun h=>?_)
    |(apply hK;clear hK K)|(refine AWh (by assumption) ?_))
  exact retq1 (conv_eq rfl rfl)
end Go.Proofs.YtgmlimipejcpgaaGreatDoor
end

section
set_option linter.unusedVariables false
set_option linter.unusedSimpArgs false
namespace Go.Proofs.YtgmlimipejcpgaaGreatDoor
open Go Go.AM Fx
/-! The law CheckNets. -/
set_option maxRecDepth 40000 in
set_option maxHeartbeats 16000000 in
theorem c_CheckNets (n : NetD) (hn : n.ok) : PC 3 [.agg n.cells] (.bool true) := by
  have h0 := c_HandNet n hn
  have h1 := PCall.trim (args := [.agg n.hcells]) (c_Where n hn) (trims_netArg n [])
  have h2 := r_Where n hn
  have h3 := c_live12
  have h4 := PCall.trim (args := [.agg n.hcells]) (c_Net n hn) (trims_netArg n [])
  have h5 := r_Net n hn
  have h6 := c_KeptNet n hn
  unfold netE at h4 h5
  generalize whereE n = s at *
  obtain ⟨⟨s1, s2, s3⟩, s4⟩ := s
  have hl1 : ∀ k, V.lts k n.cells = true := fun k => cells_lt n k
  obtain ⟨c1, c2, c3, c4, hcc⟩ : ∃ c1 c2 c3 c4, n.hcells = [c1, c2, c3, c4] := ⟨_, _, _, _, rfl⟩
  simp only [spotE, spotV] at h1 h2
  refine PCall_body Tryz.func3 rfl (by decide) Tryz.ntmps3 (by simp) Tryz.results3 ?_
  simp only [NetD.cells, vl, NetD.hcells] at h0 h1 h2 h4 h5 h6 ⊢
  repeat' (first
    |refine AW_seq_k fun K hK=>?_|refine Step.by1 ?_|refine SBlock_exit_ne (by decide) ?_
    |((first|refine AW_region_AO ?_|refine AW_region_APx (id:=4) 40 mixed (by decide) ?_|refine AS_call1 (f:=11) rfl rfl (h0) rfl rfl rfl ?_|refine AS_call1 (f:=12) rfl rfl (h1) rfl rfl rfl ?_|refine AS_call1 (f:=13) rfl rfl (h2) rfl rfl rfl ?_|refine AP_call1 (f:=14) rfl rfl (h3) rfl rfl rfl ?_|refine AP_call1 (f:=15) rfl rfl (h4) rfl rfl rfl ?_|refine AP_call1 (f:=16) rfl rfl (h5) rfl rfl rfl ?_|refine AP_call1 (f:=17) rfl rfl (h6) rfl rfl rfl ?_);simp [vl, handV])
    |(refine Split.by2 (fun h=>?_) (fun h=>?_)<;>(simp [h, vl, handV]))
    |refine ct rfl ?_|refine cf rfl ?_|refine cnd rfl (fun h=>?_) (fun h=>?_)|refine cd rfl (fun h=>?_) (fun h=>?_)|refine cn rfl (fun h=>?_) (fun h=>?_)|refine cc rfl (fun h=>?_) (fun h=>?_)
    |(apply hK;clear hK K)|(refine AWh (by assumption) ?_))
  exact retq1 (conv_eq rfl rfl)
end Go.Proofs.YtgmlimipejcpgaaGreatDoor
end

section
set_option linter.unusedVariables false
set_option linter.unusedSimpArgs false
namespace Go.Proofs.YtgmlimipejcpgaaGreatDoor
open Go Go.AM Fx
/-! The law CheckGoals. -/
theorem trims_netGoal (n : NetD) (g : List PartD) : V.trims [.agg n.hcells, vl PartD.hcells g] = [.agg n.cells, vl PartD.cells g] := by
  rw [trims_netArg]
  simp only [V.trims, trims_goal]
set_option maxRecDepth 40000 in
set_option maxHeartbeats 16000000 in
theorem c_CheckGoals (n : NetD) (hn : n.ok) (g : List PartD) (hg : okGoal g) : PC 4 [.agg n.cells, vl PartD.cells g] (.bool true) := by
  have h0 := c_HandNet n hn
  have h1 := c_HandGoal g hg
  have h3 := c_live12
  have h4 := PCall.trim (args := [.agg n.hcells, vl PartD.hcells g]) (c_Goal n hn g hg) (trims_netGoal n g)
  have h5 := r_Goal n hn g hg
  have h6 := c_KeptNet n hn
  have h7 := c_KeptGoal g hg
  generalize goalE n g = s at *
  have hl1 : ∀ k, V.lts k n.cells = true := fun k => cells_lt n k
  obtain ⟨c1, c2, c3, c4, hcc⟩ : ∃ c1 c2 c3 c4, n.hcells = [c1, c2, c3, c4] := ⟨_, _, _, _, rfl⟩
  refine PCall_body Tryz.func4 rfl (by decide) Tryz.ntmps4 (by simp) Tryz.results4 ?_
  simp only [NetD.cells, vl, NetD.hcells] at h0 h1 h3 h4 h5 h6 h7 ⊢
  repeat' (first
    |refine AW_seq_k fun K hK=>?_|refine Step.by1 ?_|refine SBlock_exit_ne (by decide) ?_
    |((first|refine AW_region_AO ?_|refine AW_region_APx (id:=3) 21 mixed (by decide) ?_|refine AS_call1 (f:=11) rfl rfl (h0) rfl rfl rfl ?_|refine AS_call1 (f:=18) rfl rfl (h1) rfl rfl rfl ?_|refine AP_call1 (f:=14) rfl rfl (h3) rfl rfl rfl ?_|refine AP_call1 (f:=19) rfl rfl (h4) rfl rfl rfl ?_|refine AP_call1 (f:=20) rfl rfl (h5) rfl rfl rfl ?_|refine AP_call1 (f:=17) rfl rfl (h6) rfl rfl rfl ?_|refine AP_call1 (f:=21) rfl rfl (h7) rfl rfl rfl ?_);simp [vl, handV])
    |(refine Split.by2 (fun h=>?_) (fun h=>?_)<;>(simp [h, vl, handV]))
    |refine ct rfl ?_|refine cf rfl ?_|refine cnd rfl (fun h=>?_) (fun h=>?_)|refine cd rfl (fun h=>?_) (fun h=>?_)|refine cn rfl (fun h=>?_) (fun h=>?_)|refine cc rfl (fun h=>?_) (fun h=>?_)
    |(apply hK;clear hK K)|(refine AWh (by assumption) ?_))
  exact retq1 (conv_eq rfl rfl)
end Go.Proofs.YtgmlimipejcpgaaGreatDoor
end
