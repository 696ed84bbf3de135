/-
  YtgmlimipejcpgaaGreatDoorPart14: steps of the proof of a law of the program: what these texts prove holds under the hypotheses that their theorems name, and no others.
-/
import Derived.Test.YtgmlimipejcpgaaGreatDoorPart13
import Derived.Test.YtgmlimipejcpgaaGreatDoorPart07
import Derived.Test.YtgmlimipejcpgaaGreatDoorPart10
import Derived.Test.YtgmlimipejcpgaaGreatDoorPart04
import Derived.Test.YtgmlimipejcpgaaGreatDoorPart08
section
set_option linter.unusedVariables false
set_option linter.unusedSimpArgs false
namespace Go.Proofs.YtgmlimipejcpgaaGreatDoor
open Go Go.AM Fx
def rowWG : List (List V) := [[.fn (.func 145) [] []], [.fn (.func 146) [] [.ptr 0 0]], [.fn (.func 147) [] [.ptr 0 0]], [.fn (.func 149) [] []], [.fn (.func 151) [] [.ptr 0 0]]]
set_option maxRecDepth 20000 in
set_option maxHeartbeats 16000000 in
theorem c_WholeGoal (n : NetD) (hn : n.ok) (g : List PartD) (hg : okGoal g) : PC 75 [.agg n.cells, vl PartD.cells g] (.int .i64 (wholeGoalE n g)) := by
  have h0 := c_Whole n hn
  obtain ⟨hg1, hg2⟩ := hg
  obtain ⟨r, hr⟩ : ∃ r, wholeGoalE n g = r := ⟨_, rfl⟩
  rw [hr]
  unfold wholeGoalE at hr
  rw [firstE_cons, firstE_cons] at hr
  generalize wholeE n = e0 at *
  simp only [vl, NetD.cells] at h0
  refine PCall_body Tryz.func75 rfl (by decide) Tryz.ntmps75 (by simp) Tryz.results75 ?_
  by_cases hz : e0 = 0
  · rw [if_neg (by simp [hz])] at hr
    rw [hz] at h0
    by_cases hlong : 16 < g.length
    · rw [if_pos hlong, if_pos (by decide)] at hr
      have hl' : (16 : Int) < g.length := by omega
      repeat' (first
 |refine AW_seq_k fun K hK=>?_|refine Step.by1 ?_|refine SBlock_exit_ne (by decide) ?_|refine cz rfl ?_|refine Fork.by2 (fun h=>?_) fun h=>?_
 |((first|refine AW_region_AO ?_|refine AS_call1 (f:=58) rfl rfl (h0) rfl rfl rfl ?_);simp [vl, NetD.cells, hlong, hl'])
 |(refine Split.by2 (fun h=>?_) (fun h=>?_)<;>(simp [h, vl, NetD.cells, hlong, hl']))
 |(apply hK;clear hK K)|refine AWh (by assumption) ?_)
      exact retq1 (conv_eq (by rw [← hr]; rfl) rfl)
    · rw [if_neg hlong, if_neg (by decide)] at hr
      have hl' : ¬ (16 : Int) < g.length := by omega
      obtain ⟨e1, he1⟩ : ∃ e1, goF g1E g = e1 := ⟨_, rfl⟩
      obtain ⟨e2, he2⟩ : ∃ e2, goF (g2E n) g = e2 := ⟨_, rfl⟩
      obtain ⟨e3, he3⟩ : ∃ e3, goF (fun p => clkE n p.guards) g = e3 := ⟨_, rfl⟩
      obtain ⟨e4, he4⟩ : ∃ e4, goF (fun p => cmpE p.guards) g = e4 := ⟨_, rfl⟩
      obtain ⟨e5, he5⟩ : ∃ e5, goF (fun p => truthE n p.test) g = e5 := ⟨_, rfl⟩
      rw [he1, he2, he3, he4, he5] at hr
      repeat' (first
 |refine AW_seq_k fun K hK=>?_|refine Step.by1 ?_|refine SBlock_exit_ne (by decide) ?_|refine cz rfl ?_|refine Fork.by2 (fun h=>?_) fun h=>?_
 |((first|refine AW_region_AO ?_|refine AS_call1 (f:=58) rfl rfl (h0) rfl rfl rfl ?_);simp [vl, NetD.cells, hlong, hl'])
 |(refine Split.by2 (fun h=>?_) (fun h=>?_)<;>(simp [h, vl, NetD.cells, hlong, hl']))
 |(apply hK;clear hK K)|refine AWh (by assumption) ?_)
      refine AW_loopL [1, 24, 25] (fun i : Nat => [(26, .int .i64 i)]) (fun _ => [.var n.cells, .row 172 0 0 false rowWG]) (fun i => i ≤ 5 ∧ firstE ([e1, e2, e3, e4, e5].drop i) = r) (fun i => 5 - i) 0 ⟨Nat.zero_le _, hr⟩ (by apply Weak.mk' <;> simp [vl, NetD.cells, rowWG]) (fun _ _ => rfl) ?_
      clear hr
      rintro i ⟨hi, hF⟩
      rcases i with _ | _ | _ | _ | _ | _ | i
      · rw [show [e1, e2, e3, e4, e5].drop 0 = e1 :: [e1, e2, e3, e4, e5].drop 1 from rfl, firstE_cons] at hF
        repeat' (first
 |refine AW_seq_k fun K hK=>?_|refine Step.by1 ?_|refine SBlock_exit_ne (by decide) ?_|refine cz rfl ?_|refine Fork.by2 (fun h=>?_) fun h=>?_
 |(refine AW_region_AO ?_;simp [vl, NetD.cells, rowWG, wrap_i64];try (simp (disch:=omega) only [wrap_i64];try simp [vl, NetD.cells, rowWG, wrap_i64]))
 |(refine Split.by2 (fun h=>?_) (fun h=>?_)<;>(simp [h, vl, NetD.cells, rowWG, wrap_i64];try (simp (disch:=omega) only [wrap_i64];try simp [vl, NetD.cells, rowWG, wrap_i64])))
 |(apply hK;clear hK K)|refine AWh (by assumption) ?_)
        refine AW_scan (r := e1) g 32 [1, 8, 24, 25, 26, 30, 31] (goF g1E) he1 (by apply Weak.mk' <;> simp [vl, NetD.cells, rowWG]) ?_ ?_
        · intro m p _ hlt hp hG
          rw [goF_cons] at hG
          have hpo := hg2 p (hp ▸ List.getElem_mem hlt)
          have hc := c_WG1 p
          have hlt' : (m : Int) < g.length := by omega
          have w1 : IntKind.i64.wrap ((m : Int) + 1) = m + 1 := wrap_i64 (by omega) (by omega)
          simp only [PartD.cells, vl] at hc
          generalize g1E p = q at *
          by_cases hq0 : q = 0
          · rw [if_neg (by simp [hq0])] at hG
            rw [hq0] at hc
            repeat' (first
 |refine AW_seq_k fun K hK=>?_|refine Step.by1 ?_|refine SBlock_exit_ne (by decide) ?_|refine cz rfl ?_|refine Fork.by2 (fun h=>?_) fun h=>?_
 |(refine AW_region_AO ?_;simp [vl, NetD.cells, PartD.cells, rowWG, hlt, hlt', hp, w1])
 |(refine Split.by2 (fun h=>?_) (fun h=>?_)<;>(simp [h, vl, NetD.cells, PartD.cells, rowWG, hlt, hlt', hp, w1]))
 |(refine AS_call1 (f := 145) rfl rfl hc rfl rfl rfl ?_; simp [hq0])
 |(apply hK;clear hK K)|refine AWh (by assumption) ?_)
            refine ⟨hG, ?_⟩; apply Weak.mk' <;> simp [vl, NetD.cells, rowWG]
          · rw [if_pos hq0] at hG
            subst hG
            rw [if_pos hq0] at hF
            repeat' (first
 |refine AW_seq_k fun K hK=>?_|refine Step.by1 ?_|refine SBlock_exit_ne (by decide) ?_|refine cz rfl ?_|refine Fork.by2 (fun h=>?_) fun h=>?_
 |(refine AW_region_AO ?_;simp [vl, NetD.cells, PartD.cells, rowWG, hlt, hlt', hp, w1, hq0])
 |(refine Split.by2 (fun h=>?_) (fun h=>?_)<;>(simp [h, vl, NetD.cells, PartD.cells, rowWG, hlt, hlt', hp, w1, hq0]))
 |(refine AS_call1 (f := 145) rfl rfl hc rfl rfl rfl ?_; simp [hq0])
 |(apply hK;clear hK K)|refine AWh (by assumption) ?_)
            exact retq1 (conv_eq (by rw [← hF]; rfl) rfl)
        · intro hG
          rw [goF_nil] at hG
          rw [if_neg (by simp [← hG])] at hF
          repeat' (first
 |refine AW_seq_k fun K hK=>?_|refine Step.by1 ?_|refine SBlock_exit_ne (by decide) ?_|refine cz rfl ?_|refine Fork.by2 (fun h=>?_) fun h=>?_
 |(refine AW_region_AO ?_;simp [vl, NetD.cells, rowWG, wrap_i64];try (simp (disch:=omega) only [wrap_i64];try simp [vl, NetD.cells, rowWG, wrap_i64]))
 |(refine Split.by2 (fun h=>?_) (fun h=>?_)<;>(simp [h, vl, NetD.cells, rowWG, wrap_i64];try (simp (disch:=omega) only [wrap_i64];try simp [vl, NetD.cells, rowWG, wrap_i64])))
 |(apply hK;clear hK K)|refine AWh (by assumption) ?_)
          refine ⟨1, ⟨by omega, hF⟩, by omega, ?_⟩; apply Weak.mk' <;> simp [vl, NetD.cells, rowWG]
      · rw [show [e1, e2, e3, e4, e5].drop 1 = e2 :: [e1, e2, e3, e4, e5].drop 2 from rfl, firstE_cons] at hF
        repeat' (first
 |refine AW_seq_k fun K hK=>?_|refine Step.by1 ?_|refine SBlock_exit_ne (by decide) ?_|refine cz rfl ?_|refine Fork.by2 (fun h=>?_) fun h=>?_
 |(refine AW_region_AO ?_;simp [vl, NetD.cells, rowWG, wrap_i64];try (simp (disch:=omega) only [wrap_i64];try simp [vl, NetD.cells, rowWG, wrap_i64]))
 |(refine Split.by2 (fun h=>?_) (fun h=>?_)<;>(simp [h, vl, NetD.cells, rowWG, wrap_i64];try (simp (disch:=omega) only [wrap_i64];try simp [vl, NetD.cells, rowWG, wrap_i64])))
 |(apply hK;clear hK K)|refine AWh (by assumption) ?_)
        refine AW_scan (r := e2) g 32 [1, 8, 24, 25, 26, 30, 31] (goF (g2E n)) he2 (by apply Weak.mk' <;> simp [vl, NetD.cells, rowWG]) ?_ ?_
        · intro m p _ hlt hp hG
          rw [goF_cons] at hG
          have hpo := hg2 p (hp ▸ List.getElem_mem hlt)
          have hc := c_WG2 n hn p hpo [.row 172 0 0 false rowWG, .var p.cells] (by simp [PartD.cells, vl, rowWG])
          have hlt' : (m : Int) < g.length := by omega
          have w1 : IntKind.i64.wrap ((m : Int) + 1) = m + 1 := wrap_i64 (by omega) (by omega)
          try simp only at hc
          generalize g2E n p = q at *
          by_cases hq0 : q = 0
          · rw [if_neg (by simp [hq0])] at hG
            rw [hq0] at hc
            repeat' (first
 |refine AW_seq_k fun K hK=>?_|refine Step.by1 ?_|refine SBlock_exit_ne (by decide) ?_|refine cz rfl ?_|refine Fork.by2 (fun h=>?_) fun h=>?_
 |(refine AW_region_AO ?_;simp [vl, NetD.cells, PartD.cells, rowWG, hlt, hlt', hp, w1])
 |(refine Split.by2 (fun h=>?_) (fun h=>?_)<;>(simp [h, vl, NetD.cells, PartD.cells, rowWG, hlt, hlt', hp, w1]))
 |(refine AS_callG (f := 146) rfl rfl (hc.imp (by simp [PartD.cells, vl]) (by simp [NetD.cells, PartD.cells, vl, rowWG])) rfl (fun v h' hq => ?_); obtain ⟨rfl, rfl⟩ := hq; simp [vl, NetD.cells, PartD.cells, rowWG, hq0])
 |(apply hK;clear hK K)|refine AWh (by assumption) ?_)
            refine ⟨hG, ?_⟩; apply Weak.mk' <;> simp [vl, NetD.cells, rowWG]
          · rw [if_pos hq0] at hG
            subst hG
            rw [if_pos hq0] at hF
            repeat' (first
 |refine AW_seq_k fun K hK=>?_|refine Step.by1 ?_|refine SBlock_exit_ne (by decide) ?_|refine cz rfl ?_|refine Fork.by2 (fun h=>?_) fun h=>?_
 |(refine AW_region_AO ?_;simp [vl, NetD.cells, PartD.cells, rowWG, hlt, hlt', hp, w1, hq0])
 |(refine Split.by2 (fun h=>?_) (fun h=>?_)<;>(simp [h, vl, NetD.cells, PartD.cells, rowWG, hlt, hlt', hp, w1, hq0]))
 |(refine AS_callG (f := 146) rfl rfl (hc.imp (by simp [PartD.cells, vl]) (by simp [NetD.cells, PartD.cells, vl, rowWG])) rfl (fun v h' hq => ?_); obtain ⟨rfl, rfl⟩ := hq; simp [vl, NetD.cells, PartD.cells, rowWG, hq0])
 |(apply hK;clear hK K)|refine AWh (by assumption) ?_)
            exact retq1 (conv_eq (by rw [← hF]; rfl) rfl)
        · intro hG
          rw [goF_nil] at hG
          rw [if_neg (by simp [← hG])] at hF
          repeat' (first
 |refine AW_seq_k fun K hK=>?_|refine Step.by1 ?_|refine SBlock_exit_ne (by decide) ?_|refine cz rfl ?_|refine Fork.by2 (fun h=>?_) fun h=>?_
 |(refine AW_region_AO ?_;simp [vl, NetD.cells, rowWG, wrap_i64];try (simp (disch:=omega) only [wrap_i64];try simp [vl, NetD.cells, rowWG, wrap_i64]))
 |(refine Split.by2 (fun h=>?_) (fun h=>?_)<;>(simp [h, vl, NetD.cells, rowWG, wrap_i64];try (simp (disch:=omega) only [wrap_i64];try simp [vl, NetD.cells, rowWG, wrap_i64])))
 |(apply hK;clear hK K)|refine AWh (by assumption) ?_)
          refine ⟨2, ⟨by omega, hF⟩, by omega, ?_⟩; apply Weak.mk' <;> simp [vl, NetD.cells, rowWG]
      · rw [show [e1, e2, e3, e4, e5].drop 2 = e3 :: [e1, e2, e3, e4, e5].drop 3 from rfl, firstE_cons] at hF
        repeat' (first
 |refine AW_seq_k fun K hK=>?_|refine Step.by1 ?_|refine SBlock_exit_ne (by decide) ?_|refine cz rfl ?_|refine Fork.by2 (fun h=>?_) fun h=>?_
 |(refine AW_region_AO ?_;simp [vl, NetD.cells, rowWG, wrap_i64];try (simp (disch:=omega) only [wrap_i64];try simp [vl, NetD.cells, rowWG, wrap_i64]))
 |(refine Split.by2 (fun h=>?_) (fun h=>?_)<;>(simp [h, vl, NetD.cells, rowWG, wrap_i64];try (simp (disch:=omega) only [wrap_i64];try simp [vl, NetD.cells, rowWG, wrap_i64])))
 |(apply hK;clear hK K)|refine AWh (by assumption) ?_)
        refine AW_scan (r := e3) g 32 [1, 8, 24, 25, 26, 30, 31] (goF (fun p => clkE n p.guards)) he3 (by apply Weak.mk' <;> simp [vl, NetD.cells, rowWG]) ?_ ?_
        · intro m p _ hlt hp hG
          rw [goF_cons] at hG
          have hpo := hg2 p (hp ▸ List.getElem_mem hlt)
          have hc := c_WG3 n p hpo [.row 172 0 0 false rowWG, .var p.cells]
          have hlt' : (m : Int) < g.length := by omega
          have w1 : IntKind.i64.wrap ((m : Int) + 1) = m + 1 := wrap_i64 (by omega) (by omega)
          try simp only at hc
          generalize clkE n p.guards = q at *
          by_cases hq0 : q = 0
          · rw [if_neg (by simp [hq0])] at hG
            rw [hq0] at hc
            repeat' (first
 |refine AW_seq_k fun K hK=>?_|refine Step.by1 ?_|refine SBlock_exit_ne (by decide) ?_|refine cz rfl ?_|refine Fork.by2 (fun h=>?_) fun h=>?_
 |(refine AW_region_AO ?_;simp [vl, NetD.cells, PartD.cells, rowWG, hlt, hlt', hp, w1])
 |(refine Split.by2 (fun h=>?_) (fun h=>?_)<;>(simp [h, vl, NetD.cells, PartD.cells, rowWG, hlt, hlt', hp, w1]))
 |(refine AS_callG (f := 147) rfl rfl (hc.imp (by simp [PartD.cells, vl]) (by simp [NetD.cells, PartD.cells, vl, rowWG])) rfl (fun v h' hq => ?_); obtain ⟨rfl, rfl⟩ := hq; simp [vl, NetD.cells, PartD.cells, rowWG, hq0])
 |(apply hK;clear hK K)|refine AWh (by assumption) ?_)
            refine ⟨hG, ?_⟩; apply Weak.mk' <;> simp [vl, NetD.cells, rowWG]
          · rw [if_pos hq0] at hG
            subst hG
            rw [if_pos hq0] at hF
            repeat' (first
 |refine AW_seq_k fun K hK=>?_|refine Step.by1 ?_|refine SBlock_exit_ne (by decide) ?_|refine cz rfl ?_|refine Fork.by2 (fun h=>?_) fun h=>?_
 |(refine AW_region_AO ?_;simp [vl, NetD.cells, PartD.cells, rowWG, hlt, hlt', hp, w1, hq0])
 |(refine Split.by2 (fun h=>?_) (fun h=>?_)<;>(simp [h, vl, NetD.cells, PartD.cells, rowWG, hlt, hlt', hp, w1, hq0]))
 |(refine AS_callG (f := 147) rfl rfl (hc.imp (by simp [PartD.cells, vl]) (by simp [NetD.cells, PartD.cells, vl, rowWG])) rfl (fun v h' hq => ?_); obtain ⟨rfl, rfl⟩ := hq; simp [vl, NetD.cells, PartD.cells, rowWG, hq0])
 |(apply hK;clear hK K)|refine AWh (by assumption) ?_)
            exact retq1 (conv_eq (by rw [← hF]; rfl) rfl)
        · intro hG
          rw [goF_nil] at hG
          rw [if_neg (by simp [← hG])] at hF
          repeat' (first
 |refine AW_seq_k fun K hK=>?_|refine Step.by1 ?_|refine SBlock_exit_ne (by decide) ?_|refine cz rfl ?_|refine Fork.by2 (fun h=>?_) fun h=>?_
 |(refine AW_region_AO ?_;simp [vl, NetD.cells, rowWG, wrap_i64];try (simp (disch:=omega) only [wrap_i64];try simp [vl, NetD.cells, rowWG, wrap_i64]))
 |(refine Split.by2 (fun h=>?_) (fun h=>?_)<;>(simp [h, vl, NetD.cells, rowWG, wrap_i64];try (simp (disch:=omega) only [wrap_i64];try simp [vl, NetD.cells, rowWG, wrap_i64])))
 |(apply hK;clear hK K)|refine AWh (by assumption) ?_)
          refine ⟨3, ⟨by omega, hF⟩, by omega, ?_⟩; apply Weak.mk' <;> simp [vl, NetD.cells, rowWG]
      · rw [show [e1, e2, e3, e4, e5].drop 3 = e4 :: [e1, e2, e3, e4, e5].drop 4 from rfl, firstE_cons] at hF
        repeat' (first
 |refine AW_seq_k fun K hK=>?_|refine Step.by1 ?_|refine SBlock_exit_ne (by decide) ?_|refine cz rfl ?_|refine Fork.by2 (fun h=>?_) fun h=>?_
 |(refine AW_region_AO ?_;simp [vl, NetD.cells, rowWG, wrap_i64];try (simp (disch:=omega) only [wrap_i64];try simp [vl, NetD.cells, rowWG, wrap_i64]))
 |(refine Split.by2 (fun h=>?_) (fun h=>?_)<;>(simp [h, vl, NetD.cells, rowWG, wrap_i64];try (simp (disch:=omega) only [wrap_i64];try simp [vl, NetD.cells, rowWG, wrap_i64])))
 |(apply hK;clear hK K)|refine AWh (by assumption) ?_)
        refine AW_scan (r := e4) g 32 [1, 8, 24, 25, 26, 30, 31] (goF (fun p => cmpE p.guards)) he4 (by apply Weak.mk' <;> simp [vl, NetD.cells, rowWG]) ?_ ?_
        · intro m p _ hlt hp hG
          rw [goF_cons] at hG
          have hpo := hg2 p (hp ▸ List.getElem_mem hlt)
          have hc := c_WG4 p hpo
          have hlt' : (m : Int) < g.length := by omega
          have w1 : IntKind.i64.wrap ((m : Int) + 1) = m + 1 := wrap_i64 (by omega) (by omega)
          simp only [PartD.cells, vl] at hc
          generalize cmpE p.guards = q at *
          by_cases hq0 : q = 0
          · rw [if_neg (by simp [hq0])] at hG
            rw [hq0] at hc
            repeat' (first
 |refine AW_seq_k fun K hK=>?_|refine Step.by1 ?_|refine SBlock_exit_ne (by decide) ?_|refine cz rfl ?_|refine Fork.by2 (fun h=>?_) fun h=>?_
 |(refine AW_region_AO ?_;simp [vl, NetD.cells, PartD.cells, rowWG, hlt, hlt', hp, w1])
 |(refine Split.by2 (fun h=>?_) (fun h=>?_)<;>(simp [h, vl, NetD.cells, PartD.cells, rowWG, hlt, hlt', hp, w1]))
 |(refine AS_call1 (f := 149) rfl rfl hc rfl rfl rfl ?_; simp [hq0])
 |(apply hK;clear hK K)|refine AWh (by assumption) ?_)
            refine ⟨hG, ?_⟩; apply Weak.mk' <;> simp [vl, NetD.cells, rowWG]
          · rw [if_pos hq0] at hG
            subst hG
            rw [if_pos hq0] at hF
            repeat' (first
 |refine AW_seq_k fun K hK=>?_|refine Step.by1 ?_|refine SBlock_exit_ne (by decide) ?_|refine cz rfl ?_|refine Fork.by2 (fun h=>?_) fun h=>?_
 |(refine AW_region_AO ?_;simp [vl, NetD.cells, PartD.cells, rowWG, hlt, hlt', hp, w1, hq0])
 |(refine Split.by2 (fun h=>?_) (fun h=>?_)<;>(simp [h, vl, NetD.cells, PartD.cells, rowWG, hlt, hlt', hp, w1, hq0]))
 |(refine AS_call1 (f := 149) rfl rfl hc rfl rfl rfl ?_; simp [hq0])
 |(apply hK;clear hK K)|refine AWh (by assumption) ?_)
            exact retq1 (conv_eq (by rw [← hF]; rfl) rfl)
        · intro hG
          rw [goF_nil] at hG
          rw [if_neg (by simp [← hG])] at hF
          repeat' (first
 |refine AW_seq_k fun K hK=>?_|refine Step.by1 ?_|refine SBlock_exit_ne (by decide) ?_|refine cz rfl ?_|refine Fork.by2 (fun h=>?_) fun h=>?_
 |(refine AW_region_AO ?_;simp [vl, NetD.cells, rowWG, wrap_i64];try (simp (disch:=omega) only [wrap_i64];try simp [vl, NetD.cells, rowWG, wrap_i64]))
 |(refine Split.by2 (fun h=>?_) (fun h=>?_)<;>(simp [h, vl, NetD.cells, rowWG, wrap_i64];try (simp (disch:=omega) only [wrap_i64];try simp [vl, NetD.cells, rowWG, wrap_i64])))
 |(apply hK;clear hK K)|refine AWh (by assumption) ?_)
          refine ⟨4, ⟨by omega, hF⟩, by omega, ?_⟩; apply Weak.mk' <;> simp [vl, NetD.cells, rowWG]
      · rw [show [e1, e2, e3, e4, e5].drop 4 = e5 :: [e1, e2, e3, e4, e5].drop 5 from rfl, firstE_cons] at hF
        repeat' (first
 |refine AW_seq_k fun K hK=>?_|refine Step.by1 ?_|refine SBlock_exit_ne (by decide) ?_|refine cz rfl ?_|refine Fork.by2 (fun h=>?_) fun h=>?_
 |(refine AW_region_AO ?_;simp [vl, NetD.cells, rowWG, wrap_i64];try (simp (disch:=omega) only [wrap_i64];try simp [vl, NetD.cells, rowWG, wrap_i64]))
 |(refine Split.by2 (fun h=>?_) (fun h=>?_)<;>(simp [h, vl, NetD.cells, rowWG, wrap_i64];try (simp (disch:=omega) only [wrap_i64];try simp [vl, NetD.cells, rowWG, wrap_i64])))
 |(apply hK;clear hK K)|refine AWh (by assumption) ?_)
        refine AW_scan (r := e5) g 32 [1, 8, 24, 25, 26, 30, 31] (goF (fun p => truthE n p.test)) he5 (by apply Weak.mk' <;> simp [vl, NetD.cells, rowWG]) ?_ ?_
        · intro m p _ hlt hp hG
          rw [goF_cons] at hG
          have hpo := hg2 p (hp ▸ List.getElem_mem hlt)
          have hc := c_WG5 n hn p hpo [.row 172 0 0 false rowWG, .var p.cells]
          have hlt' : (m : Int) < g.length := by omega
          have w1 : IntKind.i64.wrap ((m : Int) + 1) = m + 1 := wrap_i64 (by omega) (by omega)
          try simp only at hc
          generalize truthE n p.test = q at *
          by_cases hq0 : q = 0
          · rw [if_neg (by simp [hq0])] at hG
            rw [hq0] at hc
            repeat' (first
 |refine AW_seq_k fun K hK=>?_|refine Step.by1 ?_|refine SBlock_exit_ne (by decide) ?_|refine cz rfl ?_|refine Fork.by2 (fun h=>?_) fun h=>?_
 |(refine AW_region_AO ?_;simp [vl, NetD.cells, PartD.cells, rowWG, hlt, hlt', hp, w1])
 |(refine Split.by2 (fun h=>?_) (fun h=>?_)<;>(simp [h, vl, NetD.cells, PartD.cells, rowWG, hlt, hlt', hp, w1]))
 |(refine AS_callG (f := 151) rfl rfl (hc.imp (by simp [PartD.cells, vl]) (by simp [NetD.cells, PartD.cells, vl, rowWG])) rfl (fun v h' hq => ?_); obtain ⟨rfl, rfl⟩ := hq; simp [vl, NetD.cells, PartD.cells, rowWG, hq0])
 |(apply hK;clear hK K)|refine AWh (by assumption) ?_)
            refine ⟨hG, ?_⟩; apply Weak.mk' <;> simp [vl, NetD.cells, rowWG]
          · rw [if_pos hq0] at hG
            subst hG
            rw [if_pos hq0] at hF
            repeat' (first
 |refine AW_seq_k fun K hK=>?_|refine Step.by1 ?_|refine SBlock_exit_ne (by decide) ?_|refine cz rfl ?_|refine Fork.by2 (fun h=>?_) fun h=>?_
 |(refine AW_region_AO ?_;simp [vl, NetD.cells, PartD.cells, rowWG, hlt, hlt', hp, w1, hq0])
 |(refine Split.by2 (fun h=>?_) (fun h=>?_)<;>(simp [h, vl, NetD.cells, PartD.cells, rowWG, hlt, hlt', hp, w1, hq0]))
 |(refine AS_callG (f := 151) rfl rfl (hc.imp (by simp [PartD.cells, vl]) (by simp [NetD.cells, PartD.cells, vl, rowWG])) rfl (fun v h' hq => ?_); obtain ⟨rfl, rfl⟩ := hq; simp [vl, NetD.cells, PartD.cells, rowWG, hq0])
 |(apply hK;clear hK K)|refine AWh (by assumption) ?_)
            exact retq1 (conv_eq (by rw [← hF]; rfl) rfl)
        · intro hG
          rw [goF_nil] at hG
          rw [if_neg (by simp [← hG])] at hF
          repeat' (first
 |refine AW_seq_k fun K hK=>?_|refine Step.by1 ?_|refine SBlock_exit_ne (by decide) ?_|refine cz rfl ?_|refine Fork.by2 (fun h=>?_) fun h=>?_
 |(refine AW_region_AO ?_;simp [vl, NetD.cells, rowWG, wrap_i64];try (simp (disch:=omega) only [wrap_i64];try simp [vl, NetD.cells, rowWG, wrap_i64]))
 |(refine Split.by2 (fun h=>?_) (fun h=>?_)<;>(simp [h, vl, NetD.cells, rowWG, wrap_i64];try (simp (disch:=omega) only [wrap_i64];try simp [vl, NetD.cells, rowWG, wrap_i64])))
 |(apply hK;clear hK K)|refine AWh (by assumption) ?_)
          refine ⟨5, ⟨by omega, hF⟩, by omega, ?_⟩; apply Weak.mk' <;> simp [vl, NetD.cells, rowWG]
      · repeat' (first
 |refine AW_seq_k fun K hK=>?_|refine Step.by1 ?_|refine SBlock_exit_ne (by decide) ?_|refine cz rfl ?_|refine Fork.by2 (fun h=>?_) fun h=>?_
 |(refine AW_region_AO ?_;simp [vl, NetD.cells, rowWG])
 |(refine Split.by2 (fun h=>?_) (fun h=>?_)<;>(simp [h, vl, NetD.cells, rowWG]))
 |(apply hK;clear hK K)|refine AWh (by assumption) ?_)
        exact retq1 (conv_eq (by rw [← hF]; rfl) rfl)
      · omega
  · rw [if_pos hz] at hr
    subst hr
    repeat' (first
 |refine AW_seq_k fun K hK=>?_|refine Step.by1 ?_|refine SBlock_exit_ne (by decide) ?_|refine cz rfl ?_|refine Fork.by2 (fun h=>?_) fun h=>?_
 |((first|refine AW_region_AO ?_|refine AS_call1 (f:=58) rfl rfl (h0) rfl rfl rfl ?_);simp [vl, NetD.cells, hz])
 |(refine Split.by2 (fun h=>?_) (fun h=>?_)<;>(simp [h, vl, NetD.cells, hz]))
 |(apply hK;clear hK K)|refine AWh (by assumption) ?_)
    exact retq1 (conv_eq rfl rfl)
set_option maxRecDepth 20000 in
set_option maxHeartbeats 16000000 in
theorem c_Goal (n : NetD) (hn : n.ok) (g : List PartD) (hg : okGoal g) : PC 19 [.agg n.cells, vl PartD.cells g] (.int .i64 (goalE n g)) := by
  have h0 := c_Net n hn
  have h1 := c_WholeGoal n hn g hg
  obtain ⟨hg1, hg2⟩ := hg
  obtain ⟨r, hr⟩ : ∃ r, goalE n g = r := ⟨_, rfl⟩
  rw [hr]
  unfold goalE at hr
  rw [firstE_cons, firstE_cons] at hr
  generalize netE n = e0 at *
  generalize wholeGoalE n g = e9 at *
  simp only [vl, NetD.cells] at h0 h1
  refine PCall_body Tryz.func19 rfl (by decide) Tryz.ntmps19 (by simp) Tryz.results19 ?_
  by_cases hz : e0 = 0
  · rw [if_neg (by simp [hz])] at hr
    rw [hz] at h0
    by_cases hz9 : e9 = 0
    · rw [if_neg (by simp [hz9])] at hr
      rw [hz9] at h1
      obtain ⟨e1, he1⟩ : ∃ e1, goF (fun p => diagE p.guards) g = e1 := ⟨_, rfl⟩
      obtain ⟨e2, he2⟩ : ∃ e2, goF (fun p => greatE p.guards) g = e2 := ⟨_, rfl⟩
      rw [he1, he2] at hr
      repeat' (first
 |refine AW_seq_k fun K hK=>?_|refine Step.by1 ?_|refine SBlock_exit_ne (by decide) ?_|refine cz rfl ?_|refine Fork.by2 (fun h=>?_) fun h=>?_
 |((first|refine AW_region_AO ?_|refine AS_call1 (f:=15) rfl rfl (h0) rfl rfl rfl ?_|refine AS_call1 (f:=75) rfl rfl (h1) rfl rfl rfl ?_);simp [vl, NetD.cells])
 |(refine Split.by2 (fun h=>?_) (fun h=>?_)<;>(simp [h, vl, NetD.cells]))
 |(apply hK;clear hK K)|refine AWh (by assumption) ?_)
      refine AW_loopL [1, 23, 24] (fun i : Nat => [(25, .int .i64 i)]) (fun _ => [.var n.cells, .row 118 0 0 true [[.fn (.func 61) [] []], [.fn (.func 64) [] []]]]) (fun i => i ≤ 2 ∧ firstE ([e1, e2].drop i) = r) (fun i => 2 - i) 0 ⟨Nat.zero_le _, hr⟩ (by apply Weak.mk' <;> simp [vl, NetD.cells]) (fun _ _ => rfl) ?_
      clear hr
      rintro i ⟨hi, hF⟩
      rcases i with _ | _ | _ | i
      · rw [show [e1, e2].drop 0 = e1 :: [e1, e2].drop 1 from rfl, firstE_cons] at hF
        repeat' (first
 |refine AW_seq_k fun K hK=>?_|refine Step.by1 ?_|refine SBlock_exit_ne (by decide) ?_|refine cz rfl ?_|refine Fork.by2 (fun h=>?_) fun h=>?_
 |(refine AW_region_AO ?_;simp [vl, NetD.cells, wrap_i64];try (simp (disch:=omega) only [wrap_i64];try simp [vl, NetD.cells, wrap_i64]))
 |(refine Split.by2 (fun h=>?_) (fun h=>?_)<;>(simp [h, vl, NetD.cells, wrap_i64];try (simp (disch:=omega) only [wrap_i64];try simp [vl, NetD.cells, wrap_i64])))
 |(apply hK;clear hK K)|refine AWh (by assumption) ?_)
        refine AW_scan (r := e1) g 31 [1, 8, 23, 24, 25, 29, 30] (goF (fun p => diagE p.guards)) he1 (by apply Weak.mk' <;> simp [vl, NetD.cells]) ?_ ?_
        · intro m p _ hlt hp hG
          rw [goF_cons] at hG
          have hpo := hg2 p (hp ▸ List.getElem_mem hlt)
          have hc := c_diagE p.guards (by have := hpo.2.1.1; omega)
          have hlt' : (m : Int) < g.length := by omega
          have w1 : IntKind.i64.wrap ((m : Int) + 1) = m + 1 := wrap_i64 (by omega) (by omega)
          simp only [vl] at hc
          generalize diagE p.guards = q at *
          by_cases hq0 : q = 0
          · rw [if_neg (by simp [hq0])] at hG
            rw [hq0] at hc
            repeat' (first
 |refine AW_seq_k fun K hK=>?_|refine Step.by1 ?_|refine SBlock_exit_ne (by decide) ?_|refine cz rfl ?_|refine Fork.by2 (fun h=>?_) fun h=>?_
 |((first|refine AW_region_AO ?_|refine AS_call1 (f:=61) rfl rfl (hc) rfl rfl rfl ?_);simp [vl, NetD.cells, PartD.cells, hlt, hlt', hp, w1])
 |(refine Split.by2 (fun h=>?_) (fun h=>?_)<;>(simp [h, vl, NetD.cells, PartD.cells, hlt, hlt', hp, w1]))
 |(apply hK;clear hK K)|refine AWh (by assumption) ?_)
            refine ⟨hG, ?_⟩; apply Weak.mk' <;> simp [vl, NetD.cells]
          · rw [if_pos hq0] at hG
            subst hG
            rw [if_pos hq0] at hF
            repeat' (first
 |refine AW_seq_k fun K hK=>?_|refine Step.by1 ?_|refine SBlock_exit_ne (by decide) ?_|refine cz rfl ?_|refine Fork.by2 (fun h=>?_) fun h=>?_
 |((first|refine AW_region_AO ?_|refine AS_call1 (f:=61) rfl rfl (hc) rfl rfl rfl ?_);simp [vl, NetD.cells, PartD.cells, hlt, hlt', hp, w1, hq0])
 |(refine Split.by2 (fun h=>?_) (fun h=>?_)<;>(simp [h, vl, NetD.cells, PartD.cells, hlt, hlt', hp, w1, hq0]))
 |(apply hK;clear hK K)|refine AWh (by assumption) ?_)
            exact retq1 (conv_eq (by rw [← hF]; rfl) rfl)
        · intro hG
          rw [goF_nil] at hG
          rw [if_neg (by simp [← hG])] at hF
          repeat' (first
 |refine AW_seq_k fun K hK=>?_|refine Step.by1 ?_|refine SBlock_exit_ne (by decide) ?_|refine cz rfl ?_|refine Fork.by2 (fun h=>?_) fun h=>?_
 |(refine AW_region_AO ?_;simp [vl, NetD.cells, wrap_i64];try (simp (disch:=omega) only [wrap_i64];try simp [vl, NetD.cells, wrap_i64]))
 |(refine Split.by2 (fun h=>?_) (fun h=>?_)<;>(simp [h, vl, NetD.cells, wrap_i64];try (simp (disch:=omega) only [wrap_i64];try simp [vl, NetD.cells, wrap_i64])))
 |(apply hK;clear hK K)|refine AWh (by assumption) ?_)
          refine ⟨1, ⟨by omega, hF⟩, by omega, ?_⟩; apply Weak.mk' <;> simp [vl, NetD.cells]
      · rw [show [e1, e2].drop 1 = e2 :: [e1, e2].drop 2 from rfl, firstE_cons] at hF
        repeat' (first
 |refine AW_seq_k fun K hK=>?_|refine Step.by1 ?_|refine SBlock_exit_ne (by decide) ?_|refine cz rfl ?_|refine Fork.by2 (fun h=>?_) fun h=>?_
 |(refine AW_region_AO ?_;simp [vl, NetD.cells, wrap_i64];try (simp (disch:=omega) only [wrap_i64];try simp [vl, NetD.cells, wrap_i64]))
 |(refine Split.by2 (fun h=>?_) (fun h=>?_)<;>(simp [h, vl, NetD.cells, wrap_i64];try (simp (disch:=omega) only [wrap_i64];try simp [vl, NetD.cells, wrap_i64])))
 |(apply hK;clear hK K)|refine AWh (by assumption) ?_)
        refine AW_scan (r := e2) g 31 [1, 8, 23, 24, 25, 29, 30] (goF (fun p => greatE p.guards)) he2 (by apply Weak.mk' <;> simp [vl, NetD.cells]) ?_ ?_
        · intro m p _ hlt hp hG
          rw [goF_cons] at hG
          have hpo := hg2 p (hp ▸ List.getElem_mem hlt)
          have hc := c_greatE p.guards (by have := hpo.2.1.1; omega)
          have hlt' : (m : Int) < g.length := by omega
          have w1 : IntKind.i64.wrap ((m : Int) + 1) = m + 1 := wrap_i64 (by omega) (by omega)
          simp only [vl] at hc
          generalize greatE p.guards = q at *
          by_cases hq0 : q = 0
          · rw [if_neg (by simp [hq0])] at hG
            rw [hq0] at hc
            repeat' (first
 |refine AW_seq_k fun K hK=>?_|refine Step.by1 ?_|refine SBlock_exit_ne (by decide) ?_|refine cz rfl ?_|refine Fork.by2 (fun h=>?_) fun h=>?_
 |((first|refine AW_region_AO ?_|refine AS_call1 (f:=64) rfl rfl (hc) rfl rfl rfl ?_);simp [vl, NetD.cells, PartD.cells, hlt, hlt', hp, w1])
 |(refine Split.by2 (fun h=>?_) (fun h=>?_)<;>(simp [h, vl, NetD.cells, PartD.cells, hlt, hlt', hp, w1]))
 |(apply hK;clear hK K)|refine AWh (by assumption) ?_)
            refine ⟨hG, ?_⟩; apply Weak.mk' <;> simp [vl, NetD.cells]
          · rw [if_pos hq0] at hG
            subst hG
            rw [if_pos hq0] at hF
            repeat' (first
 |refine AW_seq_k fun K hK=>?_|refine Step.by1 ?_|refine SBlock_exit_ne (by decide) ?_|refine cz rfl ?_|refine Fork.by2 (fun h=>?_) fun h=>?_
 |((first|refine AW_region_AO ?_|refine AS_call1 (f:=64) rfl rfl (hc) rfl rfl rfl ?_);simp [vl, NetD.cells, PartD.cells, hlt, hlt', hp, w1, hq0])
 |(refine Split.by2 (fun h=>?_) (fun h=>?_)<;>(simp [h, vl, NetD.cells, PartD.cells, hlt, hlt', hp, w1, hq0]))
 |(apply hK;clear hK K)|refine AWh (by assumption) ?_)
            exact retq1 (conv_eq (by rw [← hF]; rfl) rfl)
        · intro hG
          rw [goF_nil] at hG
          rw [if_neg (by simp [← hG])] at hF
          repeat' (first
 |refine AW_seq_k fun K hK=>?_|refine Step.by1 ?_|refine SBlock_exit_ne (by decide) ?_|refine cz rfl ?_|refine Fork.by2 (fun h=>?_) fun h=>?_
 |(refine AW_region_AO ?_;simp [vl, NetD.cells, wrap_i64];try (simp (disch:=omega) only [wrap_i64];try simp [vl, NetD.cells, wrap_i64]))
 |(refine Split.by2 (fun h=>?_) (fun h=>?_)<;>(simp [h, vl, NetD.cells, wrap_i64];try (simp (disch:=omega) only [wrap_i64];try simp [vl, NetD.cells, wrap_i64])))
 |(apply hK;clear hK K)|refine AWh (by assumption) ?_)
          refine ⟨2, ⟨by omega, hF⟩, by omega, ?_⟩; apply Weak.mk' <;> simp [vl, NetD.cells]
      · repeat' (first
 |refine AW_seq_k fun K hK=>?_|refine Step.by1 ?_|refine SBlock_exit_ne (by decide) ?_|refine cz rfl ?_|refine Fork.by2 (fun h=>?_) fun h=>?_
 |(refine AW_region_AO ?_;simp [vl, NetD.cells])
 |(refine Split.by2 (fun h=>?_) (fun h=>?_)<;>(simp [h, vl, NetD.cells]))
 |(apply hK;clear hK K)|refine AWh (by assumption) ?_)
        exact retq1 (conv_eq (by rw [← hF]; rfl) rfl)
      · omega
    · rw [if_pos hz9] at hr
      subst hr
      repeat' (first
 |refine AW_seq_k fun K hK=>?_|refine Step.by1 ?_|refine SBlock_exit_ne (by decide) ?_|refine cz rfl ?_|refine Fork.by2 (fun h=>?_) fun h=>?_
 |((first|refine AW_region_AO ?_|refine AS_call1 (f:=15) rfl rfl (h0) rfl rfl rfl ?_|refine AS_call1 (f:=75) rfl rfl (h1) rfl rfl rfl ?_);simp [vl, NetD.cells, hz9])
 |(refine Split.by2 (fun h=>?_) (fun h=>?_)<;>(simp [h, vl, NetD.cells, hz9]))
 |(apply hK;clear hK K)|refine AWh (by assumption) ?_)
      exact retq1 (conv_eq rfl rfl)
  · rw [if_pos hz] at hr
    subst hr
    repeat' (first
 |refine AW_seq_k fun K hK=>?_|refine Step.by1 ?_|refine SBlock_exit_ne (by decide) ?_|refine cz rfl ?_|refine Fork.by2 (fun h=>?_) fun h=>?_
 |((first|refine AW_region_AO ?_|refine AS_call1 (f:=15) rfl rfl (h0) rfl rfl rfl ?_);simp [vl, NetD.cells, hz])
 |(refine Split.by2 (fun h=>?_) (fun h=>?_)<;>(simp [h, vl, NetD.cells, hz]))
 |(apply hK;clear hK K)|refine AWh (by assumption) ?_)
    exact retq1 (conv_eq rfl rfl)
end Go.Proofs.YtgmlimipejcpgaaGreatDoor
end

section
set_option linter.unusedVariables false
set_option linter.unusedSimpArgs false
namespace Go.Proofs.YtgmlimipejcpgaaGreatDoor
open Go Go.AM Fx
theorem firstE_zero {x : Int} {l : List Int} (h : firstE (x :: l) = 0) : x = 0 ∧ firstE l = 0 := by
  rw [firstE_cons] at h
  by_cases hx : x = 0
  · rw [if_neg (by simp [hx])] at h; exact ⟨hx, h⟩
  · rw [if_pos hx] at h; exact absurd h hx
theorem netE_whole {n : NetD} (h : netE n = 0) : wholeE n = 0 := by
  unfold netE whereE at h
  by_cases hw : wholeE n = 0
  · exact hw
  · rw [if_pos hw] at h; exact absurd h hw
theorem clkE_zero {n : NetD} {l : List GuardD} (h : clkE n l = 0) : ∀ g ∈ l, clkG n g = false := by
  unfold clkE at h
  intro g hg
  cases hc : clkG n g
  · rfl
  · rw [if_pos (List.any_eq_true.2 ⟨g, hg, hc⟩)] at h; cases h
theorem okG_of {n : NetD} {l : List GuardD} (h : clkE n l = 0) : ∀ g ∈ l, okG n.clocks.length g := fun g hg => by
  have := clkE_zero h g hg
  unfold clkG isClk at this
  simp only [Bool.or_eq_false_iff, Bool.not_eq_false', decide_eq_true_eq] at this
  exact this.1
theorem whole_guards {n : NetD} (h : wholeE n = 0) : ∀ g ∈ guardsL n, okG n.clocks.length g := by
  unfold wholeE at h
  have h1 := (firstE_zero (firstE_zero (firstE_zero (firstE_zero (firstE_zero (firstE_zero (firstE_zero h).2).2).2).2).2).2).1
  unfold clocksE at h1
  by_cases hc : clkE n (guardsL n) = 0
  · exact okG_of hc
  · rw [if_pos hc] at h1; exact absurd h1 hc
theorem goF_zero {f : PartD → Int} : ∀ {g : List PartD}, goF f g = 0 → ∀ p ∈ g, f p = 0
  | [], _, p, hp => by cases hp
  | q :: r, h, p, hp => by
    rw [goF_cons] at h
    by_cases hq : f q = 0
    · rw [if_neg (by simp [hq])] at h
      rcases List.mem_cons.1 hp with rfl | hp
      · exact hq
      · exact goF_zero h p hp
    · rw [if_pos hq] at h; exact absurd h hq
theorem goal_guards {n : NetD} {g : List PartD} (h : goalE n g = 0) : ∀ p ∈ g, ∀ x ∈ p.guards, okG n.clocks.length x := by
  unfold goalE at h
  have h1 := (firstE_zero (firstE_zero h).2).1
  unfold wholeGoalE at h1
  have h2 := (firstE_zero (firstE_zero (firstE_zero (firstE_zero (firstE_zero h1).2).2).2).2).1
  exact fun p hp => okG_of (goF_zero h2 p hp)
def raisePs (so : Int → Bool) (l : List PartD) (o : List Int) : List Int := raiseL so (l.flatMap (·.guards)) o
theorem raisePs_nil {so : Int → Bool} {o : List Int} : raisePs so [] o = o := rfl
theorem raisePs_cons {so : Int → Bool} {x : PartD} {l : List PartD} {o : List Int} : raisePs so (x :: l) o = raisePs so l (raiseL so x.guards o) := by simp only [raisePs, List.flatMap_cons, raiseL_append]
theorem raisePs_len {so : Int → Bool} {l : List PartD} {o : List Int} : (raisePs so l o).length = o.length := raiseL_len
def numG (n : NetD) (so : Int → Bool) : List (List PartD) → List Int → Option (List Int)
  | [], o => some o
  | g :: r, o => if goalE n g ≠ 0 then none else numG n so r (raisePs so g o)
theorem numG_nil {n : NetD} {so : Int → Bool} {o : List Int} : numG n so [] o = some o := rfl
theorem numG_cons {n : NetD} {so : Int → Bool} {g : List PartD} {r : List (List PartD)} {o : List Int} : numG n so (g :: r) o = if goalE n g ≠ 0 then none else numG n so r (raisePs so g o) := rfl
def numbE (n : NetD) (so : Int → Bool) (gs : List (List PartD)) : Option (List Int) :=
  if netE n ≠ 0 then none else numG n so gs (raiseL so (guardsL n) (List.replicate n.clocks.length (-1)))
/-- Numbers, or nil. -/
def numV : Option (List Int) → V
  | none => .nils
  | some o => .own 3 (o.map fun k => [V.int .i64 k])
def gsV (gs : List (List PartD)) : V := .vec (gs.map fun g => [vl PartD.cells g]) gs.length
theorem set_next {c : List Int} {i : Nat} (h : ∀ j, j < i → c[j]? = some (-1)) (hi : i < c.length) : ∀ j, j < i + 1 → (c.set i (-1))[j]? = some (-1) := fun j hj => by
  rw [List.getElem?_set]
  by_cases e : i = j
  · subst e; simp [hi]
  · rw [if_neg e]; exact h j (by omega)
theorem all_set {c : List Int} {N : Nat} (hN : c.length = N) (h : ∀ j, j < N → c[j]? = some (-1)) : c = List.replicate N (-1) := by
  apply List.ext_getElem?
  intro i
  by_cases hi : i < N
  · rw [h i hi]; simp [hi]
  · rw [List.getElem?_eq_none (by omega), List.getElem?_eq_none (by simp; omega)]
set_option maxRecDepth 20000 in
set_option maxHeartbeats 16000000 in
theorem c_numbers (n : NetD) (hn : n.ok) (fso : Nat) (so : Int → Bool) (hso : ∀ c, PC fso [.int .u8 c] (.bool (so c))) (gs : List (List PartD)) (hgl : gs.length ≤ 1048576) (hgs : ∀ g ∈ gs, okGoal g) :
    PC 79 [.agg n.cells, gsV gs, .fn (.func fso) [] []] (numV (numbE n so gs)) := by
  have hN := c_Net n hn
  have hcl : n.clocks.length ≤ 1048576 := hn.1.1
  obtain ⟨r, hr⟩ : ∃ r, numbE n so gs = r := ⟨_, rfl⟩
  rw [hr]
  unfold numbE at hr
  simp only [vl, NetD.cells] at hN
  refine PCall_body Tryz.func79 rfl (by decide) Tryz.ntmps79 (by simp) Tryz.results79 ?_
  by_cases hz : netE n = 0
  · rw [if_neg (by simp [hz])] at hr
    rw [hz] at hN
    have hgd := whole_guards (netE_whole hz)
    have b1 : (n.clocks.length : Int) * 8 ≤ 281474976710656 := by omega
    repeat' (first
 |refine AW_seq_k fun K hK=>?_|refine Step.by1 ?_|refine SBlock_exit_ne (by decide) ?_|refine cz rfl ?_|refine Fork.by2 (fun h=>?_) fun h=>?_
 |((first|refine AW_region_AO ?_|refine AS_call1 (f:=15) rfl rfl (hN) rfl rfl rfl ?_);simp [gsV, vl, NetD.cells, b1])
 |(refine Split.by2 (fun h=>?_) (fun h=>?_)<;>(simp [h, gsV, vl, NetD.cells, b1]))
 |(apply hK;clear hK K)|refine AWh (by assumption) ?_)
    refine AW_loopL [1, 3, 5, 7, 22] (fun s : Nat × List Int => [(23, .int .i64 s.1)]) (fun s => [.var n.cells, .var [.fn (.func fso) [] []], .row 3 0 0 true (s.2.map fun k => [V.int .i64 k]), .var [.ref 2 0 0 n.clocks.length]]) (fun s => s.1 ≤ n.clocks.length ∧ s.2.length = n.clocks.length ∧ ∀ j, j < s.1 → s.2[j]? = some (-1)) (fun s => n.clocks.length - s.1) (0, List.replicate n.clocks.length 0) ⟨Nat.zero_le _, by simp, fun j hj => by omega⟩ (by apply Weak.mk' <;> simp [vl, NetD.cells]) (fun _ _ => rfl) ?_
    rintro ⟨i, c⟩ ⟨hi, hlen, hset⟩
    simp only at hi hlen hset
    by_cases hlt : i < n.clocks.length
    · have hlt' : (i : Int) < n.clocks.length := by omega
      have hic : i < c.length := by omega
      have w1 : IntKind.i64.wrap ((i : Int) + 1) = i + 1 := wrap_i64 (by omega) (by omega)
      repeat' (first
 |refine AW_seq_k fun K hK=>?_|refine Step.by1 ?_|refine SBlock_exit_ne (by decide) ?_|refine cz rfl ?_|refine Fork.by2 (fun h=>?_) fun h=>?_
 |(refine AW_region_AO ?_;simp [gsV, vl, NetD.cells, hlt, hlt', hic, hlen, w1])
 |(refine Split.by2 (fun h=>?_) (fun h=>?_)<;>(simp [h, gsV, vl, NetD.cells, hlt, hlt', hic, hlen, w1]))
 |(apply hK;clear hK K)|refine AWh (by assumption) ?_)
      refine ⟨i + 1, c.set i (-1), ⟨by omega, by simp [hlen], set_next hset hic⟩, by omega, ?_⟩
      apply Weak.mk' <;> simp [vl, NetD.cells]
    · have hlt' : ¬ (i : Int) < n.clocks.length := by omega
      have hc := all_set hlen (fun j hj => hset j (by omega))
      rw [← hc] at hr
      clear hset
      have hS := c_searchG n hn fso so hso c (by omega) (by rw [hlen]; exact hgd)
      have hl2 : (raiseL so (guardsL n) c).length = n.clocks.length := by rw [raiseL_len, hlen]
      generalize raiseL so (guardsL n) c = o at *
      clear hc
      repeat' (first
 |refine AW_seq_k fun K hK=>?_|refine Step.by1 ?_|refine SBlock_exit_ne (by decide) ?_|refine cz rfl ?_|refine Fork.by2 (fun h=>?_) fun h=>?_
 |(refine AW_region_AO ?_;simp [gsV, vl, NetD.cells, hlt, hlt'])
 |(refine Split.by2 (fun h=>?_) (fun h=>?_)<;>(simp [h, gsV, vl, NetD.cells, hlt, hlt']))
 |(refine AS_callG (f := 59) rfl rfl (hS.imp (by simp [vl, NetD.cells]) (by simp [H5, NetD.cells, vl, hlen])) rfl (fun v h' hq => ?_); obtain ⟨rfl, rfl⟩ := hq; simp [vl, H5, NetD.cells])
 |(apply hK;clear hK K)|refine AWh (by assumption) ?_)
      refine AW_range (r := r) gs 37 [3, 7, 9, 35, 36] (fun c : List Int => []) (fun c => H5 n fso c) (fun i c => c.length = n.clocks.length) (numG n so) o
        hr hl2 (by apply Weak.mk' <;> simp [vl, NetD.cells, H5]) (fun _ _ _ => by simp [H5_len, H5]) ?_ ?_
      · intro k q g _ hkt hg hJ hF
        rw [numG_cons] at hF
        have hgo := hgs g (hg ▸ List.getElem_mem hkt)
        have hc := c_Goal n hn g hgo
        obtain ⟨hg1, hg2⟩ := hgo
        have hgg := goal_guards (n := n) (g := g)
        have hkt' : (k : Int) < gs.length := by omega
        have w1 : IntKind.i64.wrap ((k : Int) + 1) = k + 1 := wrap_i64 (by omega) (by omega)
        simp only [vl, NetD.cells] at hc
        generalize goalE n g = ge at *
        by_cases hge : ge = 0
        · rw [if_neg (by simp [hge])] at hF
          rw [hge] at hc
          have hgg := hgg hge
          repeat' (first
 |refine AW_seq_k fun K hK=>?_|refine Step.by1 ?_|refine SBlock_exit_ne (by decide) ?_|refine cz rfl ?_|refine Fork.by2 (fun h=>?_) fun h=>?_
 |((first|refine AW_region_AO ?_|refine AS_call1 (f:=19) rfl rfl (hc) rfl rfl rfl ?_);simp [gsV, vl, NetD.cells, H5, hkt, hkt', hg])
 |(refine Split.by2 (fun h=>?_) (fun h=>?_)<;>(simp [h, gsV, vl, NetD.cells, H5, hkt, hkt', hg]))
 |(apply hK;clear hK K)|refine AWh (by assumption) ?_)
          obtain ⟨o2, ho2⟩ : ∃ o2, raisePs so g q = o2 := ⟨_, rfl⟩
          have hl3 : o2.length = n.clocks.length := by rw [← ho2, raisePs_len, hJ]
          rw [ho2] at hF
          refine AW_range (r := o2) g 47 [3, 7, 9, 35, 36, 37, 45, 46] (fun c : List Int => []) (fun c => H5 n fso c) (fun i c => c.length = n.clocks.length) (raisePs so) q
            ho2 hJ (by apply Weak.mk' <;> simp [vl, NetD.cells, H5]) (fun _ _ _ => by simp [H5_len, H5]) ?_ ?_
          · intro m q2 p _ hmt hp hJ2 hG
            rw [raisePs_cons] at hG
            have hmp : p ∈ g := hp ▸ List.getElem_mem hmt
            have hR := c_raise n fso so hso p.guards q2 [.var p.cells] (by omega) (hg2 p hmp).2.1.1 (fun x hx => by rw [hJ2]; exact hgg p hmp x hx) (by simp [PartD.cells, vl])
            have hl4 : (raiseL so p.guards q2).length = n.clocks.length := by rw [raiseL_len, hJ2]
            have hmt' : (m : Int) < g.length := by omega
            have w2 : IntKind.i64.wrap ((m : Int) + 1) = m + 1 := wrap_i64 (by omega) (by omega)
            generalize raiseL so p.guards q2 = q' at *
            repeat' (first
 |refine AW_seq_k fun K hK=>?_|refine Step.by1 ?_|refine SBlock_exit_ne (by decide) ?_|refine cz rfl ?_|refine Fork.by2 (fun h=>?_) fun h=>?_
 |(refine AW_region_AO ?_;simp [gsV, vl, NetD.cells, PartD.cells, H5, hmt, hmt', hp, w2])
 |(refine Split.by2 (fun h=>?_) (fun h=>?_)<;>(simp [h, gsV, vl, NetD.cells, PartD.cells, H5, hmt, hmt', hp, w2]))
 |(refine AS_callG (f := 157) rfl rfl (hR.imp (by simp [vl]) (by simp [H5, NetD.cells, PartD.cells, vl])) rfl (fun v h' hq => ?_); obtain ⟨rfl, rfl⟩ := hq; simp [vl, H5, NetD.cells, PartD.cells])
 |(apply hK;clear hK K)|refine AWh (by assumption) ?_)
            exact ⟨q', hG, hl4, by apply Weak.mk' <;> simp [vl, NetD.cells, H5]⟩
          · intro q2 hJ2 hG
            rw [raisePs_nil] at hG
            subst hG
            repeat' (first
 |refine AW_seq_k fun K hK=>?_|refine Step.by1 ?_|refine SBlock_exit_ne (by decide) ?_|refine cz rfl ?_|refine Fork.by2 (fun h=>?_) fun h=>?_
 |(refine AW_region_AO ?_;simp [gsV, vl, NetD.cells, H5, w1])
 |(refine Split.by2 (fun h=>?_) (fun h=>?_)<;>(simp [h, gsV, vl, NetD.cells, H5, w1]))
 |(apply hK;clear hK K)|refine AWh (by assumption) ?_)
            exact ⟨q2, hF, hJ2, by apply Weak.mk' <;> simp [vl, NetD.cells, H5]⟩
        · rw [if_pos hge] at hF
          subst hF
          repeat' (first
 |refine AW_seq_k fun K hK=>?_|refine Step.by1 ?_|refine SBlock_exit_ne (by decide) ?_|refine cz rfl ?_|refine Fork.by2 (fun h=>?_) fun h=>?_
 |((first|refine AW_region_AO ?_|refine AS_call1 (f:=19) rfl rfl (hc) rfl rfl rfl ?_);simp [gsV, vl, NetD.cells, H5, hkt, hkt', hg, hge])
 |(refine Split.by2 (fun h=>?_) (fun h=>?_)<;>(simp [h, gsV, vl, NetD.cells, H5, hkt, hkt', hg, hge]))
 |(apply hK;clear hK K)|refine AWh (by assumption) ?_)
          exact retq1 (conv_eq rfl rfl)
      · intro q hJ hF
        rw [numG_nil] at hF
        subst hF
        repeat' (first
 |refine AW_seq_k fun K hK=>?_|refine Step.by1 ?_|refine SBlock_exit_ne (by decide) ?_|refine cz rfl ?_|refine Fork.by2 (fun h=>?_) fun h=>?_
 |(refine AW_region_AO ?_;simp [gsV, vl, NetD.cells, H5])
 |(refine Split.by2 (fun h=>?_) (fun h=>?_)<;>(simp [h, gsV, vl, NetD.cells, H5]))
 |(apply hK;clear hK K)|refine AWh (by assumption) ?_)
        exact retq1 (.inr (.inl (conv1_own rfl (by simp))))
  · rw [if_pos hz] at hr
    subst hr
    repeat' (first
 |refine AW_seq_k fun K hK=>?_|refine Step.by1 ?_|refine SBlock_exit_ne (by decide) ?_|refine cz rfl ?_|refine Fork.by2 (fun h=>?_) fun h=>?_
 |((first|refine AW_region_AO ?_|refine AS_call1 (f:=15) rfl rfl (hN) rfl rfl rfl ?_);simp [gsV, vl, NetD.cells, hz])
 |(refine Split.by2 (fun h=>?_) (fun h=>?_)<;>(simp [h, gsV, vl, NetD.cells, hz]))
 |(apply hK;clear hK K)|refine AWh (by assumption) ?_)
    exact retq1 (conv_eq rfl rfl)
end Go.Proofs.YtgmlimipejcpgaaGreatDoor
end

section
set_option linter.unusedVariables false
namespace Go.Proofs.YtgmlimipejcpgaaGreatDoor
open Go Go.AM
theorem zco41 : Tryz.prog.cellsOf 41 = 1 := by kernel_rfl
theorem rnGoal : RdN KB Tryz.prog 41 (fun g : List PartD => [vl PartD.cells g]) okGoal :=
  (RdN_slice Tryz.underlying41 (by rw [zco130]; decide) rnPartD (fun _ => by rw [zco130]; rfl)).map id (fun _ => rfl) (fun _ h => h)
def okGoals (gs : List (List PartD)) : Prop := gs.length ≤ 1048576 ∧ ∀ g ∈ gs, okGoal g
theorem rnGoals : RdN KB Tryz.prog 46 (fun gs : List (List PartD) => [gsV gs]) okGoals :=
  (RdN_slice Tryz.underlying46 (by rw [zco41]; decide) rnGoal (fun _ => by rw [zco41]; rfl)).map id (fun _ => rfl) (fun _ h => h)
end Go.Proofs.YtgmlimipejcpgaaGreatDoor
end

section
set_option linter.unusedVariables false
set_option linter.unusedSimpArgs false
namespace Go.AM
section
variable {P : Program} {ge : GEnv} {st : St} {Q : Exit → St → Prop} {ops : Array Oper}
variable {d : Option Tmp} {t : TypeId} {p : String} {af : Array Edge} {g : Option (Nat × Bool)}
/-- The walk of a region whose slices are built frozen. -/
def AOL (P : Program) (ge : GEnv) (ops : Array Oper) (Q : Exit → St → Prop) : List Oper → St → Prop
  | [], st => Q .normal st
  | ⟨d, .buildSlice T len parts, _, _, _, none⟩ :: rest, st => dstOk st.n d = true ∧ bsOk P ge st T len parts ∧
      AOL P ge ops Q rest ⟨st.n, putD d (.vec (rowsV (List.replicate len (zeroD P (elemOf P T))) (partsV ge st.tm parts.toList)) len) st.tm, st.h⟩
  | ⟨d, op, t, p, af, none⟩ :: rest, st =>
      if plainOp op = true then dstOk st.n d = true ∧ opOk P ge st op ∧ AOL P ge ops Q rest ⟨st.n, putD d (opVal P ge st op).1 st.tm, (opVal P ge st op).2⟩
      else AS P ge ops (⟨d, op, t, p, af, none⟩ :: rest) Q st
  | ⟨d, op, t, p, af, some g⟩ :: rest, st => AS P ge ops (⟨d, op, t, p, af, some g⟩ :: rest) Q st
theorem AS_of_AOL : ∀ {l : List Oper} {st : St}, AOL P ge ops Q l st → AS P ge ops l Q st
  | [], st, h => by rw [AOL] at h; exact AS_nil h
  | ⟨d, op, t, p, af, some g⟩ :: rest, st, h => by
    cases op <;> (rw [AOL] at h; try exact h) <;> (intro hh; cases hh)
  | ⟨d, op, t, p, af, none⟩ :: rest, st, h => by
    by_cases hb : ∃ T len parts, op = .buildSlice T len parts
    · obtain ⟨T, len, parts, rfl⟩ := hb
      rw [AOL] at h
      obtain ⟨h1, h2, h3⟩ := h
      exact AS_op rfl h1 (S_bsOk h2) (AS_of_AOL h3)
    · rw [AOL] at h
      · split at h
        · obtain ⟨h1, h2, h3⟩ := h
          exact AS_op rfl h1 (opS_of_ok h2) (AS_of_AOL h3)
        · exact h
      · intro T len parts e; exact hb ⟨T, len, parts, e⟩
theorem AW_region_AOL {id : Nat} (h : AOL P ge ops Q ops.toList st) : AW P ge (.region id ops false) Q st := AW_region (AS_of_AOL h)
end
mutual
def V.dn : V → V
  | .nils => .vec [] 0
  | .vec xs len => .vec (V.dnR xs) len
  | .agg cs => .agg (V.dns cs)
  | .tup cs => .tup (V.dns cs)
  | .fp cs off => .fp (V.dns cs) off
  | v => v
def V.dns : List V → List V
  | [] => []
  | v :: r => V.dn v :: V.dns r
def V.dnR : List (List V) → List (List V)
  | [] => []
  | x :: r => V.dns x :: V.dnR r
end
theorem dns_eq : ∀ cs : List V, V.dns cs = cs.map V.dn
  | [] => rfl
  | v :: r => by rw [V.dns, List.map_cons, dns_eq r]
theorem dnR_eq : ∀ xs : List (List V), V.dnR xs = xs.map V.dns
  | [] => rfl
  | x :: r => by rw [V.dnR, List.map_cons, dnR_eq r]
theorem R.dn {G : Gh} {w : World} {fr : Bool} {v : V} {c : Value} (h : R G w fr v c) : R G w fr v.dn c := by
  have tg : ∀ {cs : List V} {j : Nat} {v : V}, (V.dns cs)[j]? = some v → ∃ u, cs[j]? = some u ∧ v = u.dn := fun {cs j v} hv => by
    rw [dns_eq, List.getElem?_map] at hv
    obtain ⟨u, h1, h2⟩ := Option.map_eq_some_iff.1 hv
    exact ⟨u, h1, h2.symm⟩
  have rg : ∀ {xs : List (List V)} {i : Nat} {x : List V}, (V.dnR xs)[i]? = some x → ∃ y, xs[i]? = some y ∧ x = V.dns y := fun {xs i x} hx => by
    rw [dnR_eq, List.getElem?_map] at hx
    obtain ⟨y, h1, h2⟩ := Option.map_eq_some_iff.1 hx
    exact ⟨y, h1, h2.symm⟩
  induction h with
  | nils => exact .emp (Nat.zero_le _)
  | emp h => exact .emp h
  | @vec _ _ _ _ _ _ sz h1 h2 h3 hl hc ho hr ih =>
    refine .vec (sz := sz) (by rw [dnR_eq, List.length_map]; exact h1) (by rw [dnR_eq, List.length_map]; exact h2) h3 (fun i x hx => ?_) (fun i x j v hx hv => ?_) (fun i x j v hx hv => ?_) (fun i x j v hx hv => ?_)
    · obtain ⟨y, h4, rfl⟩ := rg hx; rw [dns_eq, List.length_map]; exact hl i y h4
    · obtain ⟨y, h4, rfl⟩ := rg hx; obtain ⟨u, h5, rfl⟩ := tg hv; exact hc i y j u h4 h5
    · obtain ⟨y, h4, rfl⟩ := rg hx; obtain ⟨u, h5, rfl⟩ := tg hv; exact ho i y j u h4 h5
    · obtain ⟨y, h4, rfl⟩ := rg hx; obtain ⟨u, h5, rfl⟩ := tg hv; exact ih i y j u h4 h5
  | fp hc ho hr ih =>
    refine .fp (fun j v hv => ?_) (fun j v hv => ?_) (fun j v hv => ?_)
    · obtain ⟨u, h5, rfl⟩ := tg hv; exact hc j u h5
    · obtain ⟨u, h5, rfl⟩ := tg hv; exact ho j u h5
    · obtain ⟨u, h5, rfl⟩ := tg hv; exact ih j u h5
  | agg hs ho hr ih =>
    refine .agg (by rw [dns_eq, List.length_map]; exact hs) (fun i v hv => ?_) (fun i v hv => ?_)
    · obtain ⟨u, h5, rfl⟩ := tg hv; exact ho i u h5
    · obtain ⟨u, h5, rfl⟩ := tg hv; exact ih i u h5
  | tup hs hr ih =>
    refine .tup (by rw [dns_eq, List.length_map]; exact hs) (fun i v hv => ?_)
    obtain ⟨u, h5, rfl⟩ := tg hv; exact ih i u h5
  | fn hs hr hs' hr' => exact .fn hs hr hs' hr'
  | ifc hr => exact .ifc hr
  | junk => exact .junk
  | void => exact .void
  | bool => exact .bool
  | int => exact .int
  | str => exact .str
  | nilp => exact .nilp
  | nilf => exact .nilf
  | nilm => exact .nilm
  | nili => exact .nili
  | ref hb hg hm hle => exact .ref hb hg hm hle
  | refn hb hg hm => exact .refn hb hg hm
  | ptr hb hm => exact .ptr hb hm
  | ep hb hg hm => exact .ep hb hg hm
  | mp hb hm => exact .mp hb hm
/-- A contract for what nil, deep inside the arguments, shows. -/
theorem PCall.dn {P : Program} {ge : GEnv} {f : Nat} {args args' : List V} {r : V} (hc : PCall P ge f args' r) (ha : V.dns args = args') : PCall P ge f args r := by
  subst ha
  refine ⟨hc.1, fun G w cargs h hg => hc.2 G w cargs ⟨by rw [dns_eq, List.length_map]; exact h.1, fun i v hv => ?_⟩ hg⟩
  rw [dns_eq, List.getElem?_map] at hv
  obtain ⟨u, h1, rfl⟩ := Option.map_eq_some_iff.1 hv
  exact (h.2 i u h1).dn
/-- A result, as it shows with nil deep inside. -/
theorem PCall.dnr {P : Program} {ge : GEnv} {f : Nat} {args : List V} {r r' : V} (hc : PCall P ge f args r) (hp : r.plain = true) (he : r.dn = r') (h1 : ∀ T xs, r' ≠ .own T xs) (h2 : ∀ vs, r' ≠ .tup vs) : PCall P ge f args r' := by
  refine ⟨hc.1, fun G w cargs ha hg => (hc.2 G w cargs ha hg).mono fun e w' ⟨c, G', k1, k2, k3⟩ => ⟨c, G', k1, k2, ?_⟩⟩
  have h4 := (k3.plain hp).dn
  rw [he] at h4
  cases r' <;> first | exact h4 | exact (h1 _ _ rfl).elim | exact (h2 _ rfl).elim
attribute [simp] AOL
end Go.AM
end

section
set_option linter.unusedVariables false
set_option linter.unusedSimpArgs false
namespace Go.Proofs.YtgmlimipejcpgaaGreatDoor
open Go Go.AM Fx
theorem c_Max1 (c : Int) : PC 80 [.int .u8 c] (.bool true) := by
  refine PCall_body Tryz.func80 rfl (by decide) Tryz.ntmps80 (by simp) Tryz.results80 ?_
  repeat' (first
 |refine AW_seq_k fun K hK=>?_|refine Step.by1 ?_|refine SBlock_exit_ne (by decide) ?_|refine cz rfl ?_|refine Fork.by2 (fun h=>?_) fun h=>?_
 |(refine AW_region_AO ?_;simp)
 |(refine Split.by2 (fun h=>?_) (fun h=>?_)<;>(simp [h]))
 |(apply hK;clear hK K)|refine AWh (by assumption) ?_)
  exact retq1 (conv_eq rfl rfl)
def lowB (c : Int) : Bool := decide (c = 4 ∨ c = 5 ∨ c = 3)
theorem c_Lower1 (c : Int) : PC 81 [.int .u8 c] (.bool (lowB c)) := by
  refine PCall_body Tryz.func81 rfl (by decide) Tryz.ntmps81 (by simp) Tryz.results81 ?_
  repeat' (first
 |refine AW_seq_k fun K hK=>?_|refine Step.by1 ?_|refine SBlock_exit_ne (by decide) ?_|refine cz rfl ?_|refine Fork.by2 (fun h=>?_) fun h=>?_
 |(refine AW_region_AO ?_;simp)
 |(refine Split.by2 (fun h=>?_) (fun h=>?_)<;>(simp [h]))
 |(apply hK;clear hK K)|refine AWh (by assumption) ?_)
  all_goals first
    | exact retq1 (conv_eq (by simp [lowB, *]; done) rfl)
    | exact retq1 (conv_eq (by simp [lowB, *]; omega) rfl)
    | trace_state
theorem c_Max (n : NetD) (hn : n.ok) (gs : List (List PartD)) (hgl : gs.length ≤ 1048576) (hgs : ∀ g ∈ gs, okGoal g) : PC 22 [.agg n.cells, gsV gs] (numV (numbE n (fun _ => true) gs)) := by
  have hc := c_numbers n hn 80 (fun _ => true) c_Max1 gs hgl hgs
  simp only [gsV, vl, NetD.cells] at hc
  cases h : numbE n (fun _ => true) gs with
  | none =>
    rw [h] at hc
    simp only [numV] at hc ⊢
    refine PCall_body Tryz.func22 rfl (by decide) Tryz.ntmps22 (by simp) Tryz.results22 ?_
    repeat' (first
 |refine AW_seq_k fun K hK=>?_|refine Step.by1 ?_|refine SBlock_exit_ne (by decide) ?_|refine cz rfl ?_|refine Fork.by2 (fun h=>?_) fun h=>?_
 |((first|refine AW_region_AO ?_|refine AS_call1 (f:=79) rfl rfl (hc) rfl rfl rfl ?_);simp [gsV, vl, NetD.cells])
 |(refine Split.by2 (fun h=>?_) (fun h=>?_)<;>(simp [h, gsV, vl, NetD.cells]))
 |(apply hK;clear hK K)|refine AWh (by assumption) ?_)
    exact retq1 (conv_eq rfl rfl)
  | some o =>
    rw [h] at hc
    simp only [numV] at hc ⊢
    refine PCall_body Tryz.func22 rfl (by decide) Tryz.ntmps22 (by simp) Tryz.results22 ?_
    repeat' (first
 |refine AW_seq_k fun K hK=>?_|refine Step.by1 ?_|refine SBlock_exit_ne (by decide) ?_|refine cz rfl ?_|refine Fork.by2 (fun h=>?_) fun h=>?_
 |((first|refine AW_region_AO ?_|refine AS_callO (f:=79) rfl rfl (hc) rfl rfl ?_);simp [gsV, vl, NetD.cells])
 |(refine Split.by2 (fun h=>?_) (fun h=>?_)<;>(simp [h, gsV, vl, NetD.cells]))
 |(apply hK;clear hK K)|refine AWh (by assumption) ?_)
    exact retq1 (.inr (.inl (conv1_own rfl (by simp))))
theorem c_Lower (n : NetD) (hn : n.ok) (gs : List (List PartD)) (hgl : gs.length ≤ 1048576) (hgs : ∀ g ∈ gs, okGoal g) : PC 23 [.agg n.cells, gsV gs] (numV (numbE n lowB gs)) := by
  have hc := c_numbers n hn 81 lowB c_Lower1 gs hgl hgs
  simp only [gsV, vl, NetD.cells] at hc
  cases h : numbE n lowB gs with
  | none =>
    rw [h] at hc
    simp only [numV] at hc ⊢
    refine PCall_body Tryz.func23 rfl (by decide) Tryz.ntmps23 (by simp) Tryz.results23 ?_
    repeat' (first
 |refine AW_seq_k fun K hK=>?_|refine Step.by1 ?_|refine SBlock_exit_ne (by decide) ?_|refine cz rfl ?_|refine Fork.by2 (fun h=>?_) fun h=>?_
 |((first|refine AW_region_AO ?_|refine AS_call1 (f:=79) rfl rfl (hc) rfl rfl rfl ?_);simp [gsV, vl, NetD.cells])
 |(refine Split.by2 (fun h=>?_) (fun h=>?_)<;>(simp [h, gsV, vl, NetD.cells]))
 |(apply hK;clear hK K)|refine AWh (by assumption) ?_)
    exact retq1 (conv_eq rfl rfl)
  | some o =>
    rw [h] at hc
    simp only [numV] at hc ⊢
    refine PCall_body Tryz.func23 rfl (by decide) Tryz.ntmps23 (by simp) Tryz.results23 ?_
    repeat' (first
 |refine AW_seq_k fun K hK=>?_|refine Step.by1 ?_|refine SBlock_exit_ne (by decide) ?_|refine cz rfl ?_|refine Fork.by2 (fun h=>?_) fun h=>?_
 |((first|refine AW_region_AO ?_|refine AS_callO (f:=79) rfl rfl (hc) rfl rfl ?_);simp [gsV, vl, NetD.cells])
 |(refine Split.by2 (fun h=>?_) (fun h=>?_)<;>(simp [h, gsV, vl, NetD.cells]))
 |(apply hK;clear hK K)|refine AWh (by assumption) ?_)
    exact retq1 (.inr (.inl (conv1_own rfl (by simp))))
def smallN : NetD := { clocks := [⟨#[120]⟩], vars := [], chans := [], autos := [{ name := ⟨#[65]⟩, locs := [{ name := ⟨#[97]⟩, kind := 0, inv := [{ clock := 1, other := 0, cmp := 2, n := 5 }] }, { name := ⟨#[98]⟩, kind := 0, inv := [] }], edges := [{ frm := 0, to := 1, guards := [{ clock := 1, other := 0, cmp := 4, n := 3 }], test := [], chan := 0, send := false, sets := [{ clock := 1, n := 0, var := 0, expr := [] }] }] }] }
theorem small_ok : smallN.ok := by
  simp [smallN, NetD.ok, AutoD.ok, LocD.ok, EdgeD.ok, GuardD.ok, SetD.ok, I64]
  decide
end Go.Proofs.YtgmlimipejcpgaaGreatDoor
end

section
set_option linter.unusedVariables false
set_option linter.unusedSimpArgs false
namespace Go.AM
def refsV : Nat → List V → List V
  | _, [] => []
  | n, .own _ xs :: r => .ref n 0 0 xs.length :: refsV (n + 1) r
  | n, v :: r => v :: refsV n r
def rowsB : List V → List B
  | [] => []
  | .own T xs :: r => .row T 0 0 true xs :: rowsB r
  | _ :: r => rowsB r
theorem refsV_not {n : Nat} {v : V} {r : List V} (h : v.isOwn = false) : refsV n (v :: r) = v :: refsV n r := by cases v <;> first | rfl | cases h
theorem rowsB_not {v : V} {r : List V} (h : v.isOwn = false) : rowsB (v :: r) = rowsB r := by cases v <;> first | rfl | cases h
theorem isOwn_iff {v : V} (h : v.isOwn = true) : ∃ T xs, v = .own T xs := by cases v <;> first | exact ⟨_, _, rfl⟩ | cases h
section
variable {P : Program} {ge : GEnv} {st : St} {G : Gh} {w w' : World} {Q : Exit → St → Prop}
variable {d : Option Tmp} {t : TypeId} {p : String} {af : Array Edge}
theorem RO1_not {base : Nat} {v : V} {c : Value} (h : v.isOwn = false) (hr : RO1 P G w base v c) : R G w true v c := by cases v <;> first | exact hr | cases h
/-- A block that is no block yet. -/
theorem RH.push2 {h : List B} (rh : RH P ge G h w) {k : Option Nat} {sz cap : Nat} {x : B} (hx : RB P (G.push k sz cap) w G.n x)
    (hk : ∀ k', (G.push k sz cap).at G.n x = some k' → ∀ (b : Nat) (y : B), h[b]? = some y → G.at b y ≠ some k') : RH P ge (G.push k sz cap) (h ++ [x]) w := by
  have le := GLe.push rh (.refl w) k sz cap
  have hlt : ∀ {b y}, h[b]? = some y → b < G.n := fun {b y} hy => by have := (List.getElem?_eq_some_iff.1 hy).1; rw [rh.n] at this; exact this
  have part : ∀ {b y}, (h ++ [x])[b]? = some y → (h[b]? = some y ∧ b < G.n) ∨ (b = G.n ∧ y = x) := fun {b y} hy => by
    rcases Nat.lt_or_ge b h.length with h1 | h1
    · rw [List.getElem?_append_left h1] at hy; exact .inl ⟨hy, hlt hy⟩
    · rw [List.getElem?_append_right h1] at hy
      have h2 : b - h.length = 0 := by
        rcases Nat.eq_zero_or_pos (b - h.length) with h | h
        · exact h
        · rw [List.getElem?_eq_none (by simp; omega)] at hy; cases hy
      rw [h2] at hy; simp at hy
      exact .inr ⟨by rw [← rh.n]; omega, hy.symm⟩
  refine ⟨by simp [Gh.push, rh.n], ?_, ?_, ?_, ?_⟩
  · intro b y hy
    rcases part hy with ⟨hy, hb⟩ | ⟨rfl, rfl⟩
    · refine RB.keep le hb (by simp only [Gh.push]; rw [if_neg (by omega)]) (fun k' hk' => ⟨rfl, rfl⟩) (rh.bl b y hy)
    · exact hx
  · intro b b' y y' k' hy hy' h1 h2
    rcases part hy with ⟨oy, hb⟩ | ⟨rfl, rfl⟩ <;> rcases part hy' with ⟨oy', hb'⟩ | ⟨rfl, rfl⟩
    · rw [at_push (by omega)] at h1 h2; exact rh.inj b b' y y' k' oy oy' h1 h2
    · rw [at_push (by omega)] at h1
      exact absurd h1 (hk k' h2 b y oy)
    · rw [at_push (by omega)] at h2
      exact absurd h2 (hk k' h1 b' y' oy')
    · rfl
  · exact rh.fzlt
  · intro g cs hg; exact (rh.ge g cs hg).mono le
theorem owns_push {G0 G' : Gh} {h0 : List B} {w0 : World} : ∀ (us : List V) (cs : List Value) (Gc : Gh) (hc : List B), us.length = cs.length → RH P ge Gc hc w' → Ext G0 h0 w0 Gc hc w' → Gc.fz = G'.fz →
    (∀ (i : Nat) (u : V) (c : Value), us[i]? = some u → cs[i]? = some c → RO1 P G' w' w0.heap.size u c) →
    (∀ (i : Nat) (u : V) (c : Value) (k : Nat), us[i]? = some u → u.isOwn = true → cs[i]? = some c → blkOf c = some k → ∀ (b : Nat) (y : B), hc[b]? = some y → Gc.at b y ≠ some k) →
    (∀ (i j : Nat) (u v : V) (c e : Value) (k : Nat), us[i]? = some u → us[j]? = some v → u.isOwn = true → v.isOwn = true → cs[i]? = some c → cs[j]? = some e → blkOf c = some k → blkOf e = some k → i = j) →
    ∃ Gn, RH P ge Gn (hc ++ rowsB us) w' ∧ Ext G0 h0 w0 Gn (hc ++ rowsB us) w' ∧ GLe Gc w' Gn w' ∧ (refsV hc.length us).length = us.length ∧
      ∀ (i : Nat) (v : V) (c : Value), (refsV hc.length us)[i]? = some v → cs[i]? = some c → R Gn w' false v c
  | [], cs, Gc, hc, hl, rh, ext, hfz, h1, h2, h3 => ⟨Gc, by simpa [rowsB] using rh, by simpa [rowsB] using ext, .refl _ _, rfl, fun i v c hv => by simp [refsV] at hv⟩
  | u :: us, [], Gc, hc, hl, _, _, _, _, _, _ => by simp at hl
  | u :: us, c :: cs, Gc, hc, hl, rh, ext, hfz, h1, h2, h3 => by
    have hl' : us.length = cs.length := by simpa using hl
    cases ho : u.isOwn with
    | false =>
      obtain ⟨Gn, a1, a2, a3, a4, a5⟩ := owns_push us cs Gc hc hl' rh ext hfz (fun i u c hu hc => h1 (i + 1) u c (by simpa using hu) (by simpa using hc))
        (fun i u c k hu ho hc hk => h2 (i + 1) u c k (by simpa using hu) ho (by simpa using hc) hk)
        (fun i j u v c e k hu hv a b hc he a' b' => by have := h3 (i + 1) (j + 1) u v c e k (by simpa using hu) (by simpa using hv) a b (by simpa using hc) (by simpa using he) a' b'; omega)
      rw [refsV_not ho, rowsB_not ho]
      refine ⟨Gn, a1, a2, a3, by simp [a4], fun i v c' hv hc' => ?_⟩
      cases i with
      | zero =>
        simp at hv hc'; subst hv; subst hc'
        exact ((RO1_not ho (h1 0 u c (by simp) (by simp))).monoT (fun k => by rw [← hfz]; exact a3.fz k) (fun _ _ _ => rfl) rfl).weak rfl
      | succ i => exact a5 i v c' (by simpa using hv) (by simpa using hc')
    | true =>
      obtain ⟨T, xs, rfl⟩ := isOwn_iff ho
      obtain ⟨k, cap, hcv, hk1, hk2, hk3, hrb⟩ := RB_own (show OwnR P G' w' w0.heap.size T xs c from h1 0 (.own T xs) c (by simp) (by simp))
      have hat : (Gc.push k (szOf P T) cap).at Gc.n (.row T 0 0 true xs) = k := by simp [Gh.at, Gh.push]
      have hblk : ∀ j, k = some j → blkOf c = some j := fun j hj => by subst hj; rw [hcv]; rfl
      have rh1 := rh.push2 (hrb Gc hfz) (fun k' hk' b y hy => by rw [hat] at hk'; exact h2 0 _ c k' (by simp) ho (by simp) (hblk k' hk') b y hy)
      have le1 : GLe Gc w' (Gc.push k (szOf P T) cap) w' := GLe.push rh (.refl w') _ _ _
      have part : ∀ {b y}, (hc ++ [B.row T 0 0 true xs])[b]? = some y → (hc[b]? = some y ∧ b < Gc.n) ∨ (b = Gc.n ∧ y = .row T 0 0 true xs) := fun {b y} hy => by
        rcases Nat.lt_or_ge b hc.length with h3 | h3
        · rw [List.getElem?_append_left h3] at hy; exact .inl ⟨hy, by rw [← rh.n]; exact h3⟩
        · rw [List.getElem?_append_right h3] at hy
          have h4 : b - hc.length = 0 := by
            rcases Nat.eq_zero_or_pos (b - hc.length) with h | h
            · exact h
            · rw [List.getElem?_eq_none (by simp; omega)] at hy; cases hy
          rw [h4] at hy; simp at hy
          exact .inr ⟨by rw [← rh.n]; omega, hy.symm⟩
      have atp : ∀ {b y}, b < Gc.n → (Gc.push k (szOf P T) cap).at b y = Gc.at b y := fun {b y} hb => at_push (by omega)
      have ext1 : Ext G0 h0 w0 (Gc.push k (szOf P T) cap) (hc ++ [B.row T 0 0 true xs]) w' := by
        refine ⟨ext.le.trans le1, ext.size, fun j hj hn => ext.frame j hj hn, fun b y j hy hj => ?_, ext.os, ext.out⟩
        rcases part hy with ⟨hy, hb⟩ | ⟨rfl, rfl⟩
        · rw [atp hb] at hj; exact ext.fresh b y j hy hj
        · rw [hat] at hj; exact .inl (hk1 j hj)
      obtain ⟨Gn, a1, a2, a3, a4, a5⟩ := owns_push us cs (Gc.push k (szOf P T) cap) (hc ++ [B.row T 0 0 true xs]) hl' rh1 ext1 hfz (fun i u c hu hc => h1 (i + 1) u c (by simpa using hu) (by simpa using hc))
        (fun i u e k' hu hu' he hk' b y hy => by
          rcases part hy with ⟨hy, hb⟩ | ⟨rfl, rfl⟩
          · rw [atp hb]; exact h2 (i + 1) u e k' (by simpa using hu) hu' (by simpa using he) hk' b y hy
          · rw [hat]; intro hkk
            have := h3 0 (i + 1) _ u c e k' (by simp) (by simpa using hu) ho hu' (by simp) (by simpa using he) (hblk k' hkk) hk'
            omega)
        (fun i j u v c e k hu hv a b hc he a' b' => by have := h3 (i + 1) (j + 1) u v c e k (by simpa using hu) (by simpa using hv) a b (by simpa using hc) (by simpa using he) a' b'; omega)
      have hlen : (hc ++ [B.row T 0 0 true xs]).length = hc.length + 1 := by simp
      rw [hlen] at a4 a5
      simp only [refsV, rowsB]
      rw [List.append_assoc] at a1 a2
      refine ⟨Gn, a1, a2, le1.trans a3, by simp [a4], fun i v c' hv hc' => ?_⟩
      cases i with
      | zero =>
        simp at hv hc'; subst hv; subst hc'
        refine R.mono a3 ?_
        rw [rh.n]
        cases k with
        | none =>
          simp only at hcv
          subst hcv
          rw [hk2 rfl]
          exact .refn (by simp [Gh.push]) (by simp [Gh.push]) (by simp [Gh.push])
        | some k =>
          simp only at hcv
          subst hcv
          have := R.ref (G := Gc.push (some k) (szOf P T) cap) (w := w') (b := Gc.n) (g := 0) (off := 0) (len := xs.length) (k := k) (by simp [Gh.push]) (by simp [Gh.push]) (by simp [Gh.push])
            (by simp [Gh.push]; exact hk3 k rfl)
          simpa [Gh.push] using this
      | succ i => exact a5 i v c' (by simpa using hv) (by simpa using hc')
theorem GCall_owns {f : Nat} {args vs : List V} (hc : PCall P ge f args (.tup vs)) (hf : V.isFs args = true) (h : List B) :
    GCall P ge f args h fun v h' => v = .tup (refsV h.length vs) ∧ h' = h ++ rowsB vs := by
  refine ⟨hc.1, fun G w cargs ha hr => ?_⟩
  have ha' : ArgsR G w true args cargs := ⟨ha.1, fun i v hv => (ha.2 i v hv).frozen (V.isFs_get hf i v hv)⟩
  refine (hc.2 G w cargs ha' ⟨hr.fzlt, hr.ge⟩).mono ?_
  rintro e w' ⟨c, G', rfl, kept, arr, rfl, hsz, hro, hdis⟩
  obtain ⟨h1, h2⟩ := kept.rh hr
  have hget : ∀ (i : Nat) (c : Value), arr.toList[i]? = some c → arr.getD i undef = c := fun i c h => by
    have : arr[i]? = some c := by simpa using h
    rw [Array.getD_eq_getD_getElem?, this]; rfl
  obtain ⟨Gn, a1, a2, a3, a4, a5⟩ := owns_push (G' := G') vs arr.toList (G.withFz G'.fz) h (by simp [hsz]) h1 h2 rfl (fun i u c hu hc => by have := hro i u hu; rw [hget i c hc] at this; exact this)
    (fun i u c k hu ho hc hk b y hy hat => by
      have h3 := hro i u hu
      rw [hget i c hc] at h3
      obtain ⟨T, xs, rfl⟩ := isOwn_iff ho
      have h4 : G.at b y = some k := by cases y <;> exact hat
      have h5 := at_lt hr hy h4
      obtain ⟨_, ⟨rfl, rfl⟩ | ⟨k', cap, arr', rfl, hb, _⟩⟩ := h3
      · cases hk
      · simp only [blkOf, Option.some.injEq] at hk; subst hk; omega)
    (fun i j u v c e k hu hv a b hc he a' b' => hdis i j u v k hu hv a b (by rw [hget i c hc]; exact a') (by rw [hget j e he]; exact b'))
  refine ⟨_, Gn, _, _, rfl, ⟨rfl, rfl⟩, a1, .tup (by rw [a4]; exact hsz) (fun i v hv => ?_), a2⟩
  have hi : i < arr.size := by have := (List.getElem?_eq_some_iff.1 hv).1; omega
  have hc' : arr.toList[i]? = some arr[i] := by simp [hi]
  rw [hget i _ hc']
  exact a5 i v _ hv hc'
theorem AS_callT {ops : Array Oper} {rest : List Oper} {x : Operand} {xs : Array Operand} {ts : Array TypeId} {f : Nat} {A C args : List V} {vs : List V}
    (hx : ev ge st.tm x = .fn (.func f) A C) (ha : A ++ evs ge st.tm xs.toList ++ C = args) (hc : PCall P ge f args (.tup vs)) (hf : V.isFs args = true) (hd : dstOk st.n d = true)
    (h : AO P ge ops Q rest ⟨st.n, putD d (.tup (refsV st.h.length vs)) st.tm, st.h ++ rowsB vs⟩) :
    AS P ge ops (⟨d, .call { callee := .value x, args := xs, argTypes := ts }, t, p, af, none⟩ :: rest) Q st :=
  AS_callG hx ha (GCall_owns hc hf st.h) hd (by rintro v h' ⟨rfl, rfl⟩; exact h)
end
attribute [simp] refsV rowsB
end Go.AM
end

section
set_option linter.unusedVariables false
set_option linter.unusedSimpArgs false
namespace Go.AM
section
variable {P : Program} {ge : GEnv} {st : St} {Q : Exit → St → Prop} {G : Gh} {w : World}
/-- A symbolic heap, what is new behind it falls. -/
theorem Weak.sym {st : St} {tm : List (Nat × V)} {h x : List B} (hh : st.h = h ++ x) (hl : ∀ y ∈ h, y.lt h.length) (ht : ∀ p ∈ tm, lk st.tm p.1 = p.2 ∧ p.2.lt h.length = true) : Weak st ⟨st.n, tm, h⟩ := by
  refine ⟨rfl, by rw [hh]; simp, ht, fun b y hy => .inr ⟨?_, hl y (List.mem_of_getElem? hy)⟩⟩
  rw [hh, List.getElem?_append_left (List.getElem?_eq_some_iff.1 hy).1]; exact hy
theorem Leaves.sym {h0 h : List B} (h1 : h0.length ≤ h.length) (hl : ∀ y ∈ h, y.lt h.length) : Leaves h0 h h :=
  ⟨h1, Nat.le_refl _, fun b x hx => .inr ⟨hx, .inr (hl x (List.mem_of_getElem? hx))⟩⟩
end
end Go.AM
end
