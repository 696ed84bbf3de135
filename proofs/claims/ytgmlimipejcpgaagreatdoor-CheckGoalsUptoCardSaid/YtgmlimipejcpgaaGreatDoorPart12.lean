/-
  YtgmlimipejcpgaaGreatDoorPart12: steps of the proof of a law of the program: what these texts prove holds under the hypotheses that their theorems name, and no others.
-/
import Derived.Test.YtgmlimipejcpgaaGreatDoorPart11
import Derived.Test.YtgmlimipejcpgaaGreatDoorPart06
import Derived.Test.YtgmlimipejcpgaaGreatDoorPart07
section
set_option linter.unusedVariables false
set_option linter.unusedSimpArgs false
namespace Go.Proofs.YtgmlimipejcpgaaGreatDoor
open Go Go.AM Fx
def rowWG : List (List V) := [[.fn (.func 145) [] []], [.fn (.func 146) [] [.ptr 0 0]], [.fn (.func 147) [] [.ptr 0 0]], [.fn (.func 149) [] []], [.fn (.func 151) [] [.ptr 0 0]]]
set_option maxRecDepth 20000 in
set_option maxHeartbeats 16000000 in
theorem c_WholeGoal (n : NetD) (hn : n.ok) (g : List PartD) (hg : okGoal g) : PC 75 [.agg n.cells, vl PartD.cells g] (.int .i64 (wholeGoalE n g)) := by
  have h0 := c_Whole n hn
  obtain ⟨hg1, hg2⟩ := hg
  obtain ⟨r, hr⟩ : ∃ r, wholeGoalE n g = r := ⟨_, rfl⟩
  rw [hr]
  unfold wholeGoalE at hr
  rw [firstE_cons, firstE_cons] at hr
  generalize wholeE n = e0 at *
  simp only [vl, NetD.cells] at h0
  refine PCall_body Tryz.func75 rfl (by decide) Tryz.ntmps75 (by simp) Tryz.results75 ?_
  by_cases hz : e0 = 0
  · rw [if_neg (by simp [hz])] at hr
    rw [hz] at h0
    by_cases hlong : 16 < g.length
    · rw [if_pos hlong, if_pos (by decide)] at hr
      have hl' : (16 : Int) < g.length := by omega
      repeat' (first
    |refine AW_seq_k fun K hK=>?_|refine Step.by1 ?_|refine SBlock_exit_ne (by decide) ?_
    |((first|refine AW_region_AO ?_|refine AS_call1 (f:=58) rfl rfl (h0) rfl rfl rfl ?_);simp [vl, NetD.cells, hlong, hl'])
    |(refine Split.by2 (fun h=>?_) (fun h=>?_)<;>(simp [h, vl, NetD.cells, hlong, hl']))
    |refine ct rfl ?_|refine cf rfl ?_|refine cnd rfl (fun h=>?_) (fun h=>?_)|refine cd rfl (fun h=>?_) (fun h=>?_)|refine cn rfl (fun h=>?_) (fun h=>?_)|refine cc rfl (fun h=>?_) (fun h=>?_)
    |(apply hK;clear hK K)|(refine AWh (by assumption) ?_))
      exact retq1 (conv_eq (by rw [← hr]; rfl) rfl)
    · rw [if_neg hlong, if_neg (by decide)] at hr
      have hl' : ¬ (16 : Int) < g.length := by omega
      obtain ⟨e1, he1⟩ : ∃ e1, goF g1E g = e1 := ⟨_, rfl⟩
      obtain ⟨e2, he2⟩ : ∃ e2, goF (g2E n) g = e2 := ⟨_, rfl⟩
      obtain ⟨e3, he3⟩ : ∃ e3, goF (fun p => clkE n p.guards) g = e3 := ⟨_, rfl⟩
      obtain ⟨e4, he4⟩ : ∃ e4, goF (fun p => cmpE p.guards) g = e4 := ⟨_, rfl⟩
      obtain ⟨e5, he5⟩ : ∃ e5, goF (fun p => truthE n p.test) g = e5 := ⟨_, rfl⟩
      rw [he1, he2, he3, he4, he5] at hr
      repeat' (first
    |refine AW_seq_k fun K hK=>?_|refine Step.by1 ?_|refine SBlock_exit_ne (by decide) ?_
    |((first|refine AW_region_AO ?_|refine AS_call1 (f:=58) rfl rfl (h0) rfl rfl rfl ?_);simp [vl, NetD.cells, hlong, hl'])
    |(refine Split.by2 (fun h=>?_) (fun h=>?_)<;>(simp [h, vl, NetD.cells, hlong, hl']))
    |refine ct rfl ?_|refine cf rfl ?_|refine cnd rfl (fun h=>?_) (fun h=>?_)|refine cd rfl (fun h=>?_) (fun h=>?_)|refine cn rfl (fun h=>?_) (fun h=>?_)|refine cc rfl (fun h=>?_) (fun h=>?_)
    |(apply hK;clear hK K)|(refine AWh (by assumption) ?_))
      refine AW_loopL [1, 24, 25] (fun i : Nat => [(26, .int .i64 i)]) (fun _ => [.var n.cells, .row 172 0 0 false rowWG]) (fun i => i ≤ 5 ∧ firstE ([e1, e2, e3, e4, e5].drop i) = r) (fun i => 5 - i) 0 ⟨Nat.zero_le _, hr⟩ (by apply Weak.mk' <;> simp [vl, NetD.cells, rowWG]) (fun _ _ => rfl) ?_
      clear hr
      rintro i ⟨hi, hF⟩
      rcases i with _ | _ | _ | _ | _ | _ | i
      · rw [show [e1, e2, e3, e4, e5].drop 0 = e1 :: [e1, e2, e3, e4, e5].drop 1 from rfl, firstE_cons] at hF
        repeat' (first
    |refine AW_seq_k fun K hK=>?_|refine Step.by1 ?_|refine SBlock_exit_ne (by decide) ?_
    |((first|refine AW_region_AO ?_);simp [vl, NetD.cells, rowWG, wrap_i64];try (simp (disch:=omega) only [wrap_i64];try simp [vl, NetD.cells, rowWG, wrap_i64]))
    |(refine Split.by2 (fun h=>?_) (fun h=>?_)<;>(simp [h, vl, NetD.cells, rowWG, wrap_i64];try (simp (disch:=omega) only [wrap_i64];try simp [vl, NetD.cells, rowWG, wrap_i64])))
    |refine ct rfl ?_|refine cf rfl ?_|refine cnd rfl (fun h=>?_) (fun h=>?_)|refine cd rfl (fun h=>?_) (fun h=>?_)|refine cn rfl (fun h=>?_) (fun h=>?_)|refine cc rfl (fun h=>?_) (fun h=>?_)
    |(apply hK;clear hK K)|(refine AWh (by assumption) ?_))
        refine AW_scan (r := e1) g 32 [1, 8, 24, 25, 26, 30, 31] (goF g1E) he1 (by apply Weak.mk' <;> simp [vl, NetD.cells, rowWG]) ?_ ?_
        · intro m p _ hlt hp hG
          rw [goF_cons] at hG
          have hpo := hg2 p (hp ▸ List.getElem_mem hlt)
          have hc := c_WG1 p
          have hlt' : (m : Int) < g.length := by omega
          have w1 : IntKind.i64.wrap ((m : Int) + 1) = m + 1 := wrap_i64 (by omega) (by omega)
          simp only [PartD.cells, vl] at hc
          generalize g1E p = q at *
          by_cases hq0 : q = 0
          · rw [if_neg (by simp [hq0])] at hG
            rw [hq0] at hc
            repeat' (first
    |refine AW_seq_k fun K hK=>?_|refine Step.by1 ?_|refine SBlock_exit_ne (by decide) ?_
    |((first|refine AW_region_AO ?_);simp [vl, NetD.cells, PartD.cells, rowWG, hlt, hlt', hp, w1])
    |(refine Split.by2 (fun h=>?_) (fun h=>?_)<;>(simp [h, vl, NetD.cells, PartD.cells, rowWG, hlt, hlt', hp, w1]))
    |refine ct rfl ?_|refine cf rfl ?_|refine cnd rfl (fun h=>?_) (fun h=>?_)|refine cd rfl (fun h=>?_) (fun h=>?_)|refine cn rfl (fun h=>?_) (fun h=>?_)|refine cc rfl (fun h=>?_) (fun h=>?_)
    |(refine AS_call1 (f := 145) rfl rfl hc rfl rfl rfl ?_; simp [hq0])
    |(apply hK;clear hK K)|(refine AWh (by assumption) ?_))
            refine ⟨hG, ?_⟩; apply Weak.mk' <;> simp [vl, NetD.cells, rowWG]
          · rw [if_pos hq0] at hG
            subst hG
            rw [if_pos hq0] at hF
            repeat' (first
    |refine AW_seq_k fun K hK=>?_|refine Step.by1 ?_|refine SBlock_exit_ne (by decide) ?_
    |((first|refine AW_region_AO ?_);simp [vl, NetD.cells, PartD.cells, rowWG, hlt, hlt', hp, w1, hq0])
    |(refine Split.by2 (fun h=>?_) (fun h=>?_)<;>(simp [h, vl, NetD.cells, PartD.cells, rowWG, hlt, hlt', hp, w1, hq0]))
    |refine ct rfl ?_|refine cf rfl ?_|refine cnd rfl (fun h=>?_) (fun h=>?_)|refine cd rfl (fun h=>?_) (fun h=>?_)|refine cn rfl (fun h=>?_) (fun h=>?_)|refine cc rfl (fun h=>?_) (fun h=>?_)
    |(refine AS_call1 (f := 145) rfl rfl hc rfl rfl rfl ?_; simp [hq0])
    |(apply hK;clear hK K)|(refine AWh (by assumption) ?_))
            exact retq1 (conv_eq (by rw [← hF]; rfl) rfl)
        · intro hG
          rw [goF_nil] at hG
          rw [if_neg (by simp [← hG])] at hF
          repeat' (first
    |refine AW_seq_k fun K hK=>?_|refine Step.by1 ?_|refine SBlock_exit_ne (by decide) ?_
    |((first|refine AW_region_AO ?_);simp [vl, NetD.cells, rowWG, wrap_i64];try (simp (disch:=omega) only [wrap_i64];try simp [vl, NetD.cells, rowWG, wrap_i64]))
    |(refine Split.by2 (fun h=>?_) (fun h=>?_)<;>(simp [h, vl, NetD.cells, rowWG, wrap_i64];try (simp (disch:=omega) only [wrap_i64];try simp [vl, NetD.cells, rowWG, wrap_i64])))
    |refine ct rfl ?_|refine cf rfl ?_|refine cnd rfl (fun h=>?_) (fun h=>?_)|refine cd rfl (fun h=>?_) (fun h=>?_)|refine cn rfl (fun h=>?_) (fun h=>?_)|refine cc rfl (fun h=>?_) (fun h=>?_)
    |(apply hK;clear hK K)|(refine AWh (by assumption) ?_))
          refine ⟨1, ⟨by omega, hF⟩, by omega, ?_⟩; apply Weak.mk' <;> simp [vl, NetD.cells, rowWG]
      · rw [show [e1, e2, e3, e4, e5].drop 1 = e2 :: [e1, e2, e3, e4, e5].drop 2 from rfl, firstE_cons] at hF
        repeat' (first
    |refine AW_seq_k fun K hK=>?_|refine Step.by1 ?_|refine SBlock_exit_ne (by decide) ?_
    |((first|refine AW_region_AO ?_);simp [vl, NetD.cells, rowWG, wrap_i64];try (simp (disch:=omega) only [wrap_i64];try simp [vl, NetD.cells, rowWG, wrap_i64]))
    |(refine Split.by2 (fun h=>?_) (fun h=>?_)<;>(simp [h, vl, NetD.cells, rowWG, wrap_i64];try (simp (disch:=omega) only [wrap_i64];try simp [vl, NetD.cells, rowWG, wrap_i64])))
    |refine ct rfl ?_|refine cf rfl ?_|refine cnd rfl (fun h=>?_) (fun h=>?_)|refine cd rfl (fun h=>?_) (fun h=>?_)|refine cn rfl (fun h=>?_) (fun h=>?_)|refine cc rfl (fun h=>?_) (fun h=>?_)
    |(apply hK;clear hK K)|(refine AWh (by assumption) ?_))
        refine AW_scan (r := e2) g 32 [1, 8, 24, 25, 26, 30, 31] (goF (g2E n)) he2 (by apply Weak.mk' <;> simp [vl, NetD.cells, rowWG]) ?_ ?_
        · intro m p _ hlt hp hG
          rw [goF_cons] at hG
          have hpo := hg2 p (hp ▸ List.getElem_mem hlt)
          have hc := c_WG2 n hn p hpo [.row 172 0 0 false rowWG, .var p.cells] (by simp [PartD.cells, vl, rowWG])
          have hlt' : (m : Int) < g.length := by omega
          have w1 : IntKind.i64.wrap ((m : Int) + 1) = m + 1 := wrap_i64 (by omega) (by omega)
          try simp only at hc
          generalize g2E n p = q at *
          by_cases hq0 : q = 0
          · rw [if_neg (by simp [hq0])] at hG
            rw [hq0] at hc
            repeat' (first
    |refine AW_seq_k fun K hK=>?_|refine Step.by1 ?_|refine SBlock_exit_ne (by decide) ?_
    |((first|refine AW_region_AO ?_);simp [vl, NetD.cells, PartD.cells, rowWG, hlt, hlt', hp, w1])
    |(refine Split.by2 (fun h=>?_) (fun h=>?_)<;>(simp [h, vl, NetD.cells, PartD.cells, rowWG, hlt, hlt', hp, w1]))
    |refine ct rfl ?_|refine cf rfl ?_|refine cnd rfl (fun h=>?_) (fun h=>?_)|refine cd rfl (fun h=>?_) (fun h=>?_)|refine cn rfl (fun h=>?_) (fun h=>?_)|refine cc rfl (fun h=>?_) (fun h=>?_)
    |(refine AS_callG (f := 146) rfl rfl (hc.imp (by simp [PartD.cells, vl]) (by simp [NetD.cells, PartD.cells, vl, rowWG])) rfl (fun v h' hq => ?_); obtain ⟨rfl, rfl⟩ := hq; simp [vl, NetD.cells, PartD.cells, rowWG, hq0])
    |(apply hK;clear hK K)|(refine AWh (by assumption) ?_))
            refine ⟨hG, ?_⟩; apply Weak.mk' <;> simp [vl, NetD.cells, rowWG]
          · rw [if_pos hq0] at hG
            subst hG
            rw [if_pos hq0] at hF
            repeat' (first
    |refine AW_seq_k fun K hK=>?_|refine Step.by1 ?_|refine SBlock_exit_ne (by decide) ?_
    |((first|refine AW_region_AO ?_);simp [vl, NetD.cells, PartD.cells, rowWG, hlt, hlt', hp, w1, hq0])
    |(refine Split.by2 (fun h=>?_) (fun h=>?_)<;>(simp [h, vl, NetD.cells, PartD.cells, rowWG, hlt, hlt', hp, w1, hq0]))
    |refine ct rfl ?_|refine cf rfl ?_|refine cnd rfl (fun h=>?_) (fun h=>?_)|refine cd rfl (fun h=>?_) (fun h=>?_)|refine cn rfl (fun h=>?_) (fun h=>?_)|refine cc rfl (fun h=>?_) (fun h=>?_)
    |(refine AS_callG (f := 146) rfl rfl (hc.imp (by simp [PartD.cells, vl]) (by simp [NetD.cells, PartD.cells, vl, rowWG])) rfl (fun v h' hq => ?_); obtain ⟨rfl, rfl⟩ := hq; simp [vl, NetD.cells, PartD.cells, rowWG, hq0])
    |(apply hK;clear hK K)|(refine AWh (by assumption) ?_))
            exact retq1 (conv_eq (by rw [← hF]; rfl) rfl)
        · intro hG
          rw [goF_nil] at hG
          rw [if_neg (by simp [← hG])] at hF
          repeat' (first
    |refine AW_seq_k fun K hK=>?_|refine Step.by1 ?_|refine SBlock_exit_ne (by decide) ?_
    |((first|refine AW_region_AO ?_);simp [vl, NetD.cells, rowWG, wrap_i64];try (simp (disch:=omega) only [wrap_i64];try simp [vl, NetD.cells, rowWG, wrap_i64]))
    |(refine Split.by2 (fun h=>?_) (fun h=>?_)<;>(simp [h, vl, NetD.cells, rowWG, wrap_i64];try (simp (disch:=omega) only [wrap_i64];try simp [vl, NetD.cells, rowWG, wrap_i64])))
    |refine ct rfl ?_|refine cf rfl ?_|refine cnd rfl (fun h=>?_) (fun h=>?_)|refine cd rfl (fun h=>?_) (fun h=>?_)|refine cn rfl (fun h=>?_) (fun h=>?_)|refine cc rfl (fun h=>?_) (fun h=>?_)
    |(apply hK;clear hK K)|(refine AWh (by assumption) ?_))
          refine ⟨2, ⟨by omega, hF⟩, by omega, ?_⟩; apply Weak.mk' <;> simp [vl, NetD.cells, rowWG]
      · rw [show [e1, e2, e3, e4, e5].drop 2 = e3 :: [e1, e2, e3, e4, e5].drop 3 from rfl, firstE_cons] at hF
        repeat' (first
    |refine AW_seq_k fun K hK=>?_|refine Step.by1 ?_|refine SBlock_exit_ne (by decide) ?_
    |((first|refine AW_region_AO ?_);simp [vl, NetD.cells, rowWG, wrap_i64];try (simp (disch:=omega) only [wrap_i64];try simp [vl, NetD.cells, rowWG, wrap_i64]))
    |(refine Split.by2 (fun h=>?_) (fun h=>?_)<;>(simp [h, vl, NetD.cells, rowWG, wrap_i64];try (simp (disch:=omega) only [wrap_i64];try simp [vl, NetD.cells, rowWG, wrap_i64])))
    |refine ct rfl ?_|refine cf rfl ?_|refine cnd rfl (fun h=>?_) (fun h=>?_)|refine cd rfl (fun h=>?_) (fun h=>?_)|refine cn rfl (fun h=>?_) (fun h=>?_)|refine cc rfl (fun h=>?_) (fun h=>?_)
    |(apply hK;clear hK K)|(refine AWh (by assumption) ?_))
        refine AW_scan (r := e3) g 32 [1, 8, 24, 25, 26, 30, 31] (goF (fun p => clkE n p.guards)) he3 (by apply Weak.mk' <;> simp [vl, NetD.cells, rowWG]) ?_ ?_
        · intro m p _ hlt hp hG
          rw [goF_cons] at hG
          have hpo := hg2 p (hp ▸ List.getElem_mem hlt)
          have hc := c_WG3 n p hpo [.row 172 0 0 false rowWG, .var p.cells]
          have hlt' : (m : Int) < g.length := by omega
          have w1 : IntKind.i64.wrap ((m : Int) + 1) = m + 1 := wrap_i64 (by omega) (by omega)
          try simp only at hc
          generalize clkE n p.guards = q at *
          by_cases hq0 : q = 0
          · rw [if_neg (by simp [hq0])] at hG
            rw [hq0] at hc
            repeat' (first
    |refine AW_seq_k fun K hK=>?_|refine Step.by1 ?_|refine SBlock_exit_ne (by decide) ?_
    |((first|refine AW_region_AO ?_);simp [vl, NetD.cells, PartD.cells, rowWG, hlt, hlt', hp, w1])
    |(refine Split.by2 (fun h=>?_) (fun h=>?_)<;>(simp [h, vl, NetD.cells, PartD.cells, rowWG, hlt, hlt', hp, w1]))
    |refine ct rfl ?_|refine cf rfl ?_|refine cnd rfl (fun h=>?_) (fun h=>?_)|refine cd rfl (fun h=>?_) (fun h=>?_)|refine cn rfl (fun h=>?_) (fun h=>?_)|refine cc rfl (fun h=>?_) (fun h=>?_)
    |(refine AS_callG (f := 147) rfl rfl (hc.imp (by simp [PartD.cells, vl]) (by simp [NetD.cells, PartD.cells, vl, rowWG])) rfl (fun v h' hq => ?_); obtain ⟨rfl, rfl⟩ := hq; simp [vl, NetD.cells, PartD.cells, rowWG, hq0])
    |(apply hK;clear hK K)|(refine AWh (by assumption) ?_))
            refine ⟨hG, ?_⟩; apply Weak.mk' <;> simp [vl, NetD.cells, rowWG]
          · rw [if_pos hq0] at hG
            subst hG
            rw [if_pos hq0] at hF
            repeat' (first
    |refine AW_seq_k fun K hK=>?_|refine Step.by1 ?_|refine SBlock_exit_ne (by decide) ?_
    |((first|refine AW_region_AO ?_);simp [vl, NetD.cells, PartD.cells, rowWG, hlt, hlt', hp, w1, hq0])
    |(refine Split.by2 (fun h=>?_) (fun h=>?_)<;>(simp [h, vl, NetD.cells, PartD.cells, rowWG, hlt, hlt', hp, w1, hq0]))
    |refine ct rfl ?_|refine cf rfl ?_|refine cnd rfl (fun h=>?_) (fun h=>?_)|refine cd rfl (fun h=>?_) (fun h=>?_)|refine cn rfl (fun h=>?_) (fun h=>?_)|refine cc rfl (fun h=>?_) (fun h=>?_)
    |(refine AS_callG (f := 147) rfl rfl (hc.imp (by simp [PartD.cells, vl]) (by simp [NetD.cells, PartD.cells, vl, rowWG])) rfl (fun v h' hq => ?_); obtain ⟨rfl, rfl⟩ := hq; simp [vl, NetD.cells, PartD.cells, rowWG, hq0])
    |(apply hK;clear hK K)|(refine AWh (by assumption) ?_))
            exact retq1 (conv_eq (by rw [← hF]; rfl) rfl)
        · intro hG
          rw [goF_nil] at hG
          rw [if_neg (by simp [← hG])] at hF
          repeat' (first
    |refine AW_seq_k fun K hK=>?_|refine Step.by1 ?_|refine SBlock_exit_ne (by decide) ?_
    |((first|refine AW_region_AO ?_);simp [vl, NetD.cells, rowWG, wrap_i64];try (simp (disch:=omega) only [wrap_i64];try simp [vl, NetD.cells, rowWG, wrap_i64]))
    |(refine Split.by2 (fun h=>?_) (fun h=>?_)<;>(simp [h, vl, NetD.cells, rowWG, wrap_i64];try (simp (disch:=omega) only [wrap_i64];try simp [vl, NetD.cells, rowWG, wrap_i64])))
    |refine ct rfl ?_|refine cf rfl ?_|refine cnd rfl (fun h=>?_) (fun h=>?_)|refine cd rfl (fun h=>?_) (fun h=>?_)|refine cn rfl (fun h=>?_) (fun h=>?_)|refine cc rfl (fun h=>?_) (fun h=>?_)
    |(apply hK;clear hK K)|(refine AWh (by assumption) ?_))
          refine ⟨3, ⟨by omega, hF⟩, by omega, ?_⟩; apply Weak.mk' <;> simp [vl, NetD.cells, rowWG]
      · rw [show [e1, e2, e3, e4, e5].drop 3 = e4 :: [e1, e2, e3, e4, e5].drop 4 from rfl, firstE_cons] at hF
        repeat' (first
    |refine AW_seq_k fun K hK=>?_|refine Step.by1 ?_|refine SBlock_exit_ne (by decide) ?_
    |((first|refine AW_region_AO ?_);simp [vl, NetD.cells, rowWG, wrap_i64];try (simp (disch:=omega) only [wrap_i64];try simp [vl, NetD.cells, rowWG, wrap_i64]))
    |(refine Split.by2 (fun h=>?_) (fun h=>?_)<;>(simp [h, vl, NetD.cells, rowWG, wrap_i64];try (simp (disch:=omega) only [wrap_i64];try simp [vl, NetD.cells, rowWG, wrap_i64])))
    |refine ct rfl ?_|refine cf rfl ?_|refine cnd rfl (fun h=>?_) (fun h=>?_)|refine cd rfl (fun h=>?_) (fun h=>?_)|refine cn rfl (fun h=>?_) (fun h=>?_)|refine cc rfl (fun h=>?_) (fun h=>?_)
    |(apply hK;clear hK K)|(refine AWh (by assumption) ?_))
        refine AW_scan (r := e4) g 32 [1, 8, 24, 25, 26, 30, 31] (goF (fun p => cmpE p.guards)) he4 (by apply Weak.mk' <;> simp [vl, NetD.cells, rowWG]) ?_ ?_
        · intro m p _ hlt hp hG
          rw [goF_cons] at hG
          have hpo := hg2 p (hp ▸ List.getElem_mem hlt)
          have hc := c_WG4 p hpo
          have hlt' : (m : Int) < g.length := by omega
          have w1 : IntKind.i64.wrap ((m : Int) + 1) = m + 1 := wrap_i64 (by omega) (by omega)
          simp only [PartD.cells, vl] at hc
          generalize cmpE p.guards = q at *
          by_cases hq0 : q = 0
          · rw [if_neg (by simp [hq0])] at hG
            rw [hq0] at hc
            repeat' (first
    |refine AW_seq_k fun K hK=>?_|refine Step.by1 ?_|refine SBlock_exit_ne (by decide) ?_
    |((first|refine AW_region_AO ?_);simp [vl, NetD.cells, PartD.cells, rowWG, hlt, hlt', hp, w1])
    |(refine Split.by2 (fun h=>?_) (fun h=>?_)<;>(simp [h, vl, NetD.cells, PartD.cells, rowWG, hlt, hlt', hp, w1]))
    |refine ct rfl ?_|refine cf rfl ?_|refine cnd rfl (fun h=>?_) (fun h=>?_)|refine cd rfl (fun h=>?_) (fun h=>?_)|refine cn rfl (fun h=>?_) (fun h=>?_)|refine cc rfl (fun h=>?_) (fun h=>?_)
    |(refine AS_call1 (f := 149) rfl rfl hc rfl rfl rfl ?_; simp [hq0])
    |(apply hK;clear hK K)|(refine AWh (by assumption) ?_))
            refine ⟨hG, ?_⟩; apply Weak.mk' <;> simp [vl, NetD.cells, rowWG]
          · rw [if_pos hq0] at hG
            subst hG
            rw [if_pos hq0] at hF
            repeat' (first
    |refine AW_seq_k fun K hK=>?_|refine Step.by1 ?_|refine SBlock_exit_ne (by decide) ?_
    |((first|refine AW_region_AO ?_);simp [vl, NetD.cells, PartD.cells, rowWG, hlt, hlt', hp, w1, hq0])
    |(refine Split.by2 (fun h=>?_) (fun h=>?_)<;>(simp [h, vl, NetD.cells, PartD.cells, rowWG, hlt, hlt', hp, w1, hq0]))
    |refine ct rfl ?_|refine cf rfl ?_|refine cnd rfl (fun h=>?_) (fun h=>?_)|refine cd rfl (fun h=>?_) (fun h=>?_)|refine cn rfl (fun h=>?_) (fun h=>?_)|refine cc rfl (fun h=>?_) (fun h=>?_)
    |(refine AS_call1 (f := 149) rfl rfl hc rfl rfl rfl ?_; simp [hq0])
    |(apply hK;clear hK K)|(refine AWh (by assumption) ?_))
            exact retq1 (conv_eq (by rw [← hF]; rfl) rfl)
        · intro hG
          rw [goF_nil] at hG
          rw [if_neg (by simp [← hG])] at hF
          repeat' (first
    |refine AW_seq_k fun K hK=>?_|refine Step.by1 ?_|refine SBlock_exit_ne (by decide) ?_
    |((first|refine AW_region_AO ?_);simp [vl, NetD.cells, rowWG, wrap_i64];try (simp (disch:=omega) only [wrap_i64];try simp [vl, NetD.cells, rowWG, wrap_i64]))
    |(refine Split.by2 (fun h=>?_) (fun h=>?_)<;>(simp [h, vl, NetD.cells, rowWG, wrap_i64];try (simp (disch:=omega) only [wrap_i64];try simp [vl, NetD.cells, rowWG, wrap_i64])))
    |refine ct rfl ?_|refine cf rfl ?_|refine cnd rfl (fun h=>?_) (fun h=>?_)|refine cd rfl (fun h=>?_) (fun h=>?_)|refine cn rfl (fun h=>?_) (fun h=>?_)|refine cc rfl (fun h=>?_) (fun h=>?_)
    |(apply hK;clear hK K)|(refine AWh (by assumption) ?_))
          refine ⟨4, ⟨by omega, hF⟩, by omega, ?_⟩; apply Weak.mk' <;> simp [vl, NetD.cells, rowWG]
      · rw [show [e1, e2, e3, e4, e5].drop 4 = e5 :: [e1, e2, e3, e4, e5].drop 5 from rfl, firstE_cons] at hF
        repeat' (first
    |refine AW_seq_k fun K hK=>?_|refine Step.by1 ?_|refine SBlock_exit_ne (by decide) ?_
    |((first|refine AW_region_AO ?_);simp [vl, NetD.cells, rowWG, wrap_i64];try (simp (disch:=omega) only [wrap_i64];try simp [vl, NetD.cells, rowWG, wrap_i64]))
    |(refine Split.by2 (fun h=>?_) (fun h=>?_)<;>(simp [h, vl, NetD.cells, rowWG, wrap_i64];try (simp (disch:=omega) only [wrap_i64];try simp [vl, NetD.cells, rowWG, wrap_i64])))
    |refine ct rfl ?_|refine cf rfl ?_|refine cnd rfl (fun h=>?_) (fun h=>?_)|refine cd rfl (fun h=>?_) (fun h=>?_)|refine cn rfl (fun h=>?_) (fun h=>?_)|refine cc rfl (fun h=>?_) (fun h=>?_)
    |(apply hK;clear hK K)|(refine AWh (by assumption) ?_))
        refine AW_scan (r := e5) g 32 [1, 8, 24, 25, 26, 30, 31] (goF (fun p => truthE n p.test)) he5 (by apply Weak.mk' <;> simp [vl, NetD.cells, rowWG]) ?_ ?_
        · intro m p _ hlt hp hG
          rw [goF_cons] at hG
          have hpo := hg2 p (hp ▸ List.getElem_mem hlt)
          have hc := c_WG5 n hn p hpo [.row 172 0 0 false rowWG, .var p.cells]
          have hlt' : (m : Int) < g.length := by omega
          have w1 : IntKind.i64.wrap ((m : Int) + 1) = m + 1 := wrap_i64 (by omega) (by omega)
          try simp only at hc
          generalize truthE n p.test = q at *
          by_cases hq0 : q = 0
          · rw [if_neg (by simp [hq0])] at hG
            rw [hq0] at hc
            repeat' (first
    |refine AW_seq_k fun K hK=>?_|refine Step.by1 ?_|refine SBlock_exit_ne (by decide) ?_
    |((first|refine AW_region_AO ?_);simp [vl, NetD.cells, PartD.cells, rowWG, hlt, hlt', hp, w1])
    |(refine Split.by2 (fun h=>?_) (fun h=>?_)<;>(simp [h, vl, NetD.cells, PartD.cells, rowWG, hlt, hlt', hp, w1]))
    |refine ct rfl ?_|refine cf rfl ?_|refine cnd rfl (fun h=>?_) (fun h=>?_)|refine cd rfl (fun h=>?_) (fun h=>?_)|refine cn rfl (fun h=>?_) (fun h=>?_)|refine cc rfl (fun h=>?_) (fun h=>?_)
    |(refine AS_callG (f := 151) rfl rfl (hc.imp (by simp [PartD.cells, vl]) (by simp [NetD.cells, PartD.cells, vl, rowWG])) rfl (fun v h' hq => ?_); obtain ⟨rfl, rfl⟩ := hq; simp [vl, NetD.cells, PartD.cells, rowWG, hq0])
    |(apply hK;clear hK K)|(refine AWh (by assumption) ?_))
            refine ⟨hG, ?_⟩; apply Weak.mk' <;> simp [vl, NetD.cells, rowWG]
          · rw [if_pos hq0] at hG
            subst hG
            rw [if_pos hq0] at hF
            repeat' (first
    |refine AW_seq_k fun K hK=>?_|refine Step.by1 ?_|refine SBlock_exit_ne (by decide) ?_
    |((first|refine AW_region_AO ?_);simp [vl, NetD.cells, PartD.cells, rowWG, hlt, hlt', hp, w1, hq0])
    |(refine Split.by2 (fun h=>?_) (fun h=>?_)<;>(simp [h, vl, NetD.cells, PartD.cells, rowWG, hlt, hlt', hp, w1, hq0]))
    |refine ct rfl ?_|refine cf rfl ?_|refine cnd rfl (fun h=>?_) (fun h=>?_)|refine cd rfl (fun h=>?_) (fun h=>?_)|refine cn rfl (fun h=>?_) (fun h=>?_)|refine cc rfl (fun h=>?_) (fun h=>?_)
    |(refine AS_callG (f := 151) rfl rfl (hc.imp (by simp [PartD.cells, vl]) (by simp [NetD.cells, PartD.cells, vl, rowWG])) rfl (fun v h' hq => ?_); obtain ⟨rfl, rfl⟩ := hq; simp [vl, NetD.cells, PartD.cells, rowWG, hq0])
    |(apply hK;clear hK K)|(refine AWh (by assumption) ?_))
            exact retq1 (conv_eq (by rw [← hF]; rfl) rfl)
        · intro hG
          rw [goF_nil] at hG
          rw [if_neg (by simp [← hG])] at hF
          repeat' (first
    |refine AW_seq_k fun K hK=>?_|refine Step.by1 ?_|refine SBlock_exit_ne (by decide) ?_
    |((first|refine AW_region_AO ?_);simp [vl, NetD.cells, rowWG, wrap_i64];try (simp (disch:=omega) only [wrap_i64];try simp [vl, NetD.cells, rowWG, wrap_i64]))
    |(refine Split.by2 (fun h=>?_) (fun h=>?_)<;>(simp [h, vl, NetD.cells, rowWG, wrap_i64];try (simp (disch:=omega) only [wrap_i64];try simp [vl, NetD.cells, rowWG, wrap_i64])))
    |refine ct rfl ?_|refine cf rfl ?_|refine cnd rfl (fun h=>?_) (fun h=>?_)|refine cd rfl (fun h=>?_) (fun h=>?_)|refine cn rfl (fun h=>?_) (fun h=>?_)|refine cc rfl (fun h=>?_) (fun h=>?_)
    |(apply hK;clear hK K)|(refine AWh (by assumption) ?_))
          refine ⟨5, ⟨by omega, hF⟩, by omega, ?_⟩; apply Weak.mk' <;> simp [vl, NetD.cells, rowWG]
      · repeat' (first
    |refine AW_seq_k fun K hK=>?_|refine Step.by1 ?_|refine SBlock_exit_ne (by decide) ?_
    |((first|refine AW_region_AO ?_);simp [vl, NetD.cells, rowWG])
    |(refine Split.by2 (fun h=>?_) (fun h=>?_)<;>(simp [h, vl, NetD.cells, rowWG]))
    |refine ct rfl ?_|refine cf rfl ?_|refine cnd rfl (fun h=>?_) (fun h=>?_)|refine cd rfl (fun h=>?_) (fun h=>?_)|refine cn rfl (fun h=>?_) (fun h=>?_)|refine cc rfl (fun h=>?_) (fun h=>?_)
    |(apply hK;clear hK K)|(refine AWh (by assumption) ?_))
        exact retq1 (conv_eq (by rw [← hF]; rfl) rfl)
      · omega
  · rw [if_pos hz] at hr
    subst hr
    repeat' (first
    |refine AW_seq_k fun K hK=>?_|refine Step.by1 ?_|refine SBlock_exit_ne (by decide) ?_
    |((first|refine AW_region_AO ?_|refine AS_call1 (f:=58) rfl rfl (h0) rfl rfl rfl ?_);simp [vl, NetD.cells, hz])
    |(refine Split.by2 (fun h=>?_) (fun h=>?_)<;>(simp [h, vl, NetD.cells, hz]))
    |refine ct rfl ?_|refine cf rfl ?_|refine cnd rfl (fun h=>?_) (fun h=>?_)|refine cd rfl (fun h=>?_) (fun h=>?_)|refine cn rfl (fun h=>?_) (fun h=>?_)|refine cc rfl (fun h=>?_) (fun h=>?_)
    |(apply hK;clear hK K)|(refine AWh (by assumption) ?_))
    exact retq1 (conv_eq rfl rfl)
set_option maxRecDepth 20000 in
set_option maxHeartbeats 16000000 in
theorem c_Goal (n : NetD) (hn : n.ok) (g : List PartD) (hg : okGoal g) : PC 19 [.agg n.cells, vl PartD.cells g] (.int .i64 (goalE n g)) := by
  have h0 := c_Net n hn
  have h1 := c_WholeGoal n hn g hg
  obtain ⟨hg1, hg2⟩ := hg
  obtain ⟨r, hr⟩ : ∃ r, goalE n g = r := ⟨_, rfl⟩
  rw [hr]
  unfold goalE at hr
  rw [firstE_cons, firstE_cons] at hr
  generalize netE n = e0 at *
  generalize wholeGoalE n g = e9 at *
  simp only [vl, NetD.cells] at h0 h1
  refine PCall_body Tryz.func19 rfl (by decide) Tryz.ntmps19 (by simp) Tryz.results19 ?_
  by_cases hz : e0 = 0
  · rw [if_neg (by simp [hz])] at hr
    rw [hz] at h0
    by_cases hz9 : e9 = 0
    · rw [if_neg (by simp [hz9])] at hr
      rw [hz9] at h1
      obtain ⟨e1, he1⟩ : ∃ e1, goF (fun p => diagE p.guards) g = e1 := ⟨_, rfl⟩
      obtain ⟨e2, he2⟩ : ∃ e2, goF (fun p => greatE p.guards) g = e2 := ⟨_, rfl⟩
      rw [he1, he2] at hr
      repeat' (first
    |refine AW_seq_k fun K hK=>?_|refine Step.by1 ?_|refine SBlock_exit_ne (by decide) ?_
    |((first|refine AW_region_AO ?_|refine AS_call1 (f:=15) rfl rfl (h0) rfl rfl rfl ?_|refine AS_call1 (f:=75) rfl rfl (h1) rfl rfl rfl ?_);simp [vl, NetD.cells])
    |(refine Split.by2 (fun h=>?_) (fun h=>?_)<;>(simp [h, vl, NetD.cells]))
    |refine ct rfl ?_|refine cf rfl ?_|refine cnd rfl (fun h=>?_) (fun h=>?_)|refine cd rfl (fun h=>?_) (fun h=>?_)|refine cn rfl (fun h=>?_) (fun h=>?_)|refine cc rfl (fun h=>?_) (fun h=>?_)
    |(apply hK;clear hK K)|(refine AWh (by assumption) ?_))
      refine AW_loopL [1, 23, 24] (fun i : Nat => [(25, .int .i64 i)]) (fun _ => [.var n.cells, .row 118 0 0 true [[.fn (.func 61) [] []], [.fn (.func 64) [] []]]]) (fun i => i ≤ 2 ∧ firstE ([e1, e2].drop i) = r) (fun i => 2 - i) 0 ⟨Nat.zero_le _, hr⟩ (by apply Weak.mk' <;> simp [vl, NetD.cells]) (fun _ _ => rfl) ?_
      clear hr
      rintro i ⟨hi, hF⟩
      rcases i with _ | _ | _ | i
      · rw [show [e1, e2].drop 0 = e1 :: [e1, e2].drop 1 from rfl, firstE_cons] at hF
        repeat' (first
    |refine AW_seq_k fun K hK=>?_|refine Step.by1 ?_|refine SBlock_exit_ne (by decide) ?_
    |((first|refine AW_region_AO ?_);simp [vl, NetD.cells, wrap_i64];try (simp (disch:=omega) only [wrap_i64];try simp [vl, NetD.cells, wrap_i64]))
    |(refine Split.by2 (fun h=>?_) (fun h=>?_)<;>(simp [h, vl, NetD.cells, wrap_i64];try (simp (disch:=omega) only [wrap_i64];try simp [vl, NetD.cells, wrap_i64])))
    |refine ct rfl ?_|refine cf rfl ?_|refine cnd rfl (fun h=>?_) (fun h=>?_)|refine cd rfl (fun h=>?_) (fun h=>?_)|refine cn rfl (fun h=>?_) (fun h=>?_)|refine cc rfl (fun h=>?_) (fun h=>?_)
    |(apply hK;clear hK K)|(refine AWh (by assumption) ?_))
        refine AW_scan (r := e1) g 31 [1, 8, 23, 24, 25, 29, 30] (goF (fun p => diagE p.guards)) he1 (by apply Weak.mk' <;> simp [vl, NetD.cells]) ?_ ?_
        · intro m p _ hlt hp hG
          rw [goF_cons] at hG
          have hpo := hg2 p (hp ▸ List.getElem_mem hlt)
          have hc := c_diagE p.guards (by have := hpo.2.1.1; omega)
          have hlt' : (m : Int) < g.length := by omega
          have w1 : IntKind.i64.wrap ((m : Int) + 1) = m + 1 := wrap_i64 (by omega) (by omega)
          simp only [vl] at hc
          generalize diagE p.guards = q at *
          by_cases hq0 : q = 0
          · rw [if_neg (by simp [hq0])] at hG
            rw [hq0] at hc
            repeat' (first
    |refine AW_seq_k fun K hK=>?_|refine Step.by1 ?_|refine SBlock_exit_ne (by decide) ?_
    |((first|refine AW_region_AO ?_|refine AS_call1 (f:=61) rfl rfl (hc) rfl rfl rfl ?_);simp [vl, NetD.cells, PartD.cells, hlt, hlt', hp, w1])
    |(refine Split.by2 (fun h=>?_) (fun h=>?_)<;>(simp [h, vl, NetD.cells, PartD.cells, hlt, hlt', hp, w1]))
    |refine ct rfl ?_|refine cf rfl ?_|refine cnd rfl (fun h=>?_) (fun h=>?_)|refine cd rfl (fun h=>?_) (fun h=>?_)|refine cn rfl (fun h=>?_) (fun h=>?_)|refine cc rfl (fun h=>?_) (fun h=>?_)
    |(apply hK;clear hK K)|(refine AWh (by assumption) ?_))
            refine ⟨hG, ?_⟩; apply Weak.mk' <;> simp [vl, NetD.cells]
          · rw [if_pos hq0] at hG
            subst hG
            rw [if_pos hq0] at hF
            repeat' (first
    |refine AW_seq_k fun K hK=>?_|refine Step.by1 ?_|refine SBlock_exit_ne (by decide) ?_
    |((first|refine AW_region_AO ?_|refine AS_call1 (f:=61) rfl rfl (hc) rfl rfl rfl ?_);simp [vl, NetD.cells, PartD.cells, hlt, hlt', hp, w1, hq0])
    |(refine Split.by2 (fun h=>?_) (fun h=>?_)<;>(simp [h, vl, NetD.cells, PartD.cells, hlt, hlt', hp, w1, hq0]))
    |refine ct rfl ?_|refine cf rfl ?_|refine cnd rfl (fun h=>?_) (fun h=>?_)|refine cd rfl (fun h=>?_) (fun h=>?_)|refine cn rfl (fun h=>?_) (fun h=>?_)|refine cc rfl (fun h=>?_) (fun h=>?_)
    |(apply hK;clear hK K)|(refine AWh (by assumption) ?_))
            exact retq1 (conv_eq (by rw [← hF]; rfl) rfl)
        · intro hG
          rw [goF_nil] at hG
          rw [if_neg (by simp [← hG])] at hF
          repeat' (first
    |refine AW_seq_k fun K hK=>?_|refine Step.by1 ?_|refine SBlock_exit_ne (by decide) ?_
    |((first|refine AW_region_AO ?_);simp [vl, NetD.cells, wrap_i64];try (simp (disch:=omega) only [wrap_i64];try simp [vl, NetD.cells, wrap_i64]))
    |(refine Split.by2 (fun h=>?_) (fun h=>?_)<;>(simp [h, vl, NetD.cells, wrap_i64];try (simp (disch:=omega) only [wrap_i64];try simp [vl, NetD.cells, wrap_i64])))
    |refine ct rfl ?_|refine cf rfl ?_|refine cnd rfl (fun h=>?_) (fun h=>?_)|refine cd rfl (fun h=>?_) (fun h=>?_)|refine cn rfl (fun h=>?_) (fun h=>?_)|refine cc rfl (fun h=>?_) (fun h=>?_)
    |(apply hK;clear hK K)|(refine AWh (by assumption) ?_))
          refine ⟨1, ⟨by omega, hF⟩, by omega, ?_⟩; apply Weak.mk' <;> simp [vl, NetD.cells]
      · rw [show [e1, e2].drop 1 = e2 :: [e1, e2].drop 2 from rfl, firstE_cons] at hF
        repeat' (first
    |refine AW_seq_k fun K hK=>?_|refine Step.by1 ?_|refine SBlock_exit_ne (by decide) ?_
    |((first|refine AW_region_AO ?_);simp [vl, NetD.cells, wrap_i64];try (simp (disch:=omega) only [wrap_i64];try simp [vl, NetD.cells, wrap_i64]))
    |(refine Split.by2 (fun h=>?_) (fun h=>?_)<;>(simp [h, vl, NetD.cells, wrap_i64];try (simp (disch:=omega) only [wrap_i64];try simp [vl, NetD.cells, wrap_i64])))
    |refine ct rfl ?_|refine cf rfl ?_|refine cnd rfl (fun h=>?_) (fun h=>?_)|refine cd rfl (fun h=>?_) (fun h=>?_)|refine cn rfl (fun h=>?_) (fun h=>?_)|refine cc rfl (fun h=>?_) (fun h=>?_)
    |(apply hK;clear hK K)|(refine AWh (by assumption) ?_))
        refine AW_scan (r := e2) g 31 [1, 8, 23, 24, 25, 29, 30] (goF (fun p => greatE p.guards)) he2 (by apply Weak.mk' <;> simp [vl, NetD.cells]) ?_ ?_
        · intro m p _ hlt hp hG
          rw [goF_cons] at hG
          have hpo := hg2 p (hp ▸ List.getElem_mem hlt)
          have hc := c_greatE p.guards (by have := hpo.2.1.1; omega)
          have hlt' : (m : Int) < g.length := by omega
          have w1 : IntKind.i64.wrap ((m : Int) + 1) = m + 1 := wrap_i64 (by omega) (by omega)
          simp only [vl] at hc
          generalize greatE p.guards = q at *
          by_cases hq0 : q = 0
          · rw [if_neg (by simp [hq0])] at hG
            rw [hq0] at hc
            repeat' (first
    |refine AW_seq_k fun K hK=>?_|refine Step.by1 ?_|refine SBlock_exit_ne (by decide) ?_
    |((first|refine AW_region_AO ?_|refine AS_call1 (f:=64) rfl rfl (hc) rfl rfl rfl ?_);simp [vl, NetD.cells, PartD.cells, hlt, hlt', hp, w1])
    |(refine Split.by2 (fun h=>?_) (fun h=>?_)<;>(simp [h, vl, NetD.cells, PartD.cells, hlt, hlt', hp, w1]))
    |refine ct rfl ?_|refine cf rfl ?_|refine cnd rfl (fun h=>?_) (fun h=>?_)|refine cd rfl (fun h=>?_) (fun h=>?_)|refine cn rfl (fun h=>?_) (fun h=>?_)|refine cc rfl (fun h=>?_) (fun h=>?_)
    |(apply hK;clear hK K)|(refine AWh (by assumption) ?_))
            refine ⟨hG, ?_⟩; apply Weak.mk' <;> simp [vl, NetD.cells]
          · rw [if_pos hq0] at hG
            subst hG
            rw [if_pos hq0] at hF
            repeat' (first
    |refine AW_seq_k fun K hK=>?_|refine Step.by1 ?_|refine SBlock_exit_ne (by decide) ?_
    |((first|refine AW_region_AO ?_|refine AS_call1 (f:=64) rfl rfl (hc) rfl rfl rfl ?_);simp [vl, NetD.cells, PartD.cells, hlt, hlt', hp, w1, hq0])
    |(refine Split.by2 (fun h=>?_) (fun h=>?_)<;>(simp [h, vl, NetD.cells, PartD.cells, hlt, hlt', hp, w1, hq0]))
    |refine ct rfl ?_|refine cf rfl ?_|refine cnd rfl (fun h=>?_) (fun h=>?_)|refine cd rfl (fun h=>?_) (fun h=>?_)|refine cn rfl (fun h=>?_) (fun h=>?_)|refine cc rfl (fun h=>?_) (fun h=>?_)
    |(apply hK;clear hK K)|(refine AWh (by assumption) ?_))
            exact retq1 (conv_eq (by rw [← hF]; rfl) rfl)
        · intro hG
          rw [goF_nil] at hG
          rw [if_neg (by simp [← hG])] at hF
          repeat' (first
    |refine AW_seq_k fun K hK=>?_|refine Step.by1 ?_|refine SBlock_exit_ne (by decide) ?_
    |((first|refine AW_region_AO ?_);simp [vl, NetD.cells, wrap_i64];try (simp (disch:=omega) only [wrap_i64];try simp [vl, NetD.cells, wrap_i64]))
    |(refine Split.by2 (fun h=>?_) (fun h=>?_)<;>(simp [h, vl, NetD.cells, wrap_i64];try (simp (disch:=omega) only [wrap_i64];try simp [vl, NetD.cells, wrap_i64])))
    |refine ct rfl ?_|refine cf rfl ?_|refine cnd rfl (fun h=>?_) (fun h=>?_)|refine cd rfl (fun h=>?_) (fun h=>?_)|refine cn rfl (fun h=>?_) (fun h=>?_)|refine cc rfl (fun h=>?_) (fun h=>?_)
    |(apply hK;clear hK K)|(refine AWh (by assumption) ?_))
          refine ⟨2, ⟨by omega, hF⟩, by omega, ?_⟩; apply Weak.mk' <;> simp [vl, NetD.cells]
      · repeat' (first
    |refine AW_seq_k fun K hK=>?_|refine Step.by1 ?_|refine SBlock_exit_ne (by decide) ?_
    |((first|refine AW_region_AO ?_);simp [vl, NetD.cells])
    |(refine Split.by2 (fun h=>?_) (fun h=>?_)<;>(simp [h, vl, NetD.cells]))
    |refine ct rfl ?_|refine cf rfl ?_|refine cnd rfl (fun h=>?_) (fun h=>?_)|refine cd rfl (fun h=>?_) (fun h=>?_)|refine cn rfl (fun h=>?_) (fun h=>?_)|refine cc rfl (fun h=>?_) (fun h=>?_)
    |(apply hK;clear hK K)|(refine AWh (by assumption) ?_))
        exact retq1 (conv_eq (by rw [← hF]; rfl) rfl)
      · omega
    · rw [if_pos hz9] at hr
      subst hr
      repeat' (first
    |refine AW_seq_k fun K hK=>?_|refine Step.by1 ?_|refine SBlock_exit_ne (by decide) ?_
    |((first|refine AW_region_AO ?_|refine AS_call1 (f:=15) rfl rfl (h0) rfl rfl rfl ?_|refine AS_call1 (f:=75) rfl rfl (h1) rfl rfl rfl ?_);simp [vl, NetD.cells, hz9])
    |(refine Split.by2 (fun h=>?_) (fun h=>?_)<;>(simp [h, vl, NetD.cells, hz9]))
    |refine ct rfl ?_|refine cf rfl ?_|refine cnd rfl (fun h=>?_) (fun h=>?_)|refine cd rfl (fun h=>?_) (fun h=>?_)|refine cn rfl (fun h=>?_) (fun h=>?_)|refine cc rfl (fun h=>?_) (fun h=>?_)
    |(apply hK;clear hK K)|(refine AWh (by assumption) ?_))
      exact retq1 (conv_eq rfl rfl)
  · rw [if_pos hz] at hr
    subst hr
    repeat' (first
    |refine AW_seq_k fun K hK=>?_|refine Step.by1 ?_|refine SBlock_exit_ne (by decide) ?_
    |((first|refine AW_region_AO ?_|refine AS_call1 (f:=15) rfl rfl (h0) rfl rfl rfl ?_);simp [vl, NetD.cells, hz])
    |(refine Split.by2 (fun h=>?_) (fun h=>?_)<;>(simp [h, vl, NetD.cells, hz]))
    |refine ct rfl ?_|refine cf rfl ?_|refine cnd rfl (fun h=>?_) (fun h=>?_)|refine cd rfl (fun h=>?_) (fun h=>?_)|refine cn rfl (fun h=>?_) (fun h=>?_)|refine cc rfl (fun h=>?_) (fun h=>?_)
    |(apply hK;clear hK K)|(refine AWh (by assumption) ?_))
    exact retq1 (conv_eq rfl rfl)
end Go.Proofs.YtgmlimipejcpgaaGreatDoor
end

section
set_option linter.unusedVariables false
set_option linter.unusedSimpArgs false
namespace Go.Proofs.YtgmlimipejcpgaaGreatDoor
open Go Go.AM Fx
/-! The numbers that clocks are held against. -/
theorem firstE_zero {x : Int} {l : List Int} (h : firstE (x :: l) = 0) : x = 0 ∧ firstE l = 0 := by
  rw [firstE_cons] at h
  by_cases hx : x = 0
  · rw [if_neg (by simp [hx])] at h; exact ⟨hx, h⟩
  · rw [if_pos hx] at h; exact absurd h hx
theorem netE_whole {n : NetD} (h : netE n = 0) : wholeE n = 0 := by
  unfold netE whereE at h
  by_cases hw : wholeE n = 0
  · exact hw
  · rw [if_pos hw] at h; exact absurd h hw
theorem clkE_zero {n : NetD} {l : List GuardD} (h : clkE n l = 0) : ∀ g ∈ l, clkG n g = false := by
  unfold clkE at h
  intro g hg
  cases hc : clkG n g
  · rfl
  · rw [if_pos (List.any_eq_true.2 ⟨g, hg, hc⟩)] at h; cases h
theorem okG_of {n : NetD} {l : List GuardD} (h : clkE n l = 0) : ∀ g ∈ l, okG n.clocks.length g := fun g hg => by
  have := clkE_zero h g hg
  unfold clkG isClk at this
  simp only [Bool.or_eq_false_iff, Bool.not_eq_false', decide_eq_true_eq] at this
  exact this.1
theorem whole_guards {n : NetD} (h : wholeE n = 0) : ∀ g ∈ guardsL n, okG n.clocks.length g := by
  unfold wholeE at h
  have h1 := (firstE_zero (firstE_zero (firstE_zero (firstE_zero (firstE_zero (firstE_zero (firstE_zero h).2).2).2).2).2).2).1
  unfold clocksE at h1
  by_cases hc : clkE n (guardsL n) = 0
  · exact okG_of hc
  · rw [if_pos hc] at h1; exact absurd h1 hc
theorem goF_zero {f : PartD → Int} : ∀ {g : List PartD}, goF f g = 0 → ∀ p ∈ g, f p = 0
  | [], _, p, hp => by cases hp
  | q :: r, h, p, hp => by
    rw [goF_cons] at h
    by_cases hq : f q = 0
    · rw [if_neg (by simp [hq])] at h
      rcases List.mem_cons.1 hp with rfl | hp
      · exact hq
      · exact goF_zero h p hp
    · rw [if_pos hq] at h; exact absurd h hq
theorem goal_guards {n : NetD} {g : List PartD} (h : goalE n g = 0) : ∀ p ∈ g, ∀ x ∈ p.guards, okG n.clocks.length x := by
  unfold goalE at h
  have h1 := (firstE_zero (firstE_zero h).2).1
  unfold wholeGoalE at h1
  have h2 := (firstE_zero (firstE_zero (firstE_zero (firstE_zero (firstE_zero h1).2).2).2).2).1
  exact fun p hp => okG_of (goF_zero h2 p hp)
def raisePs (so : Int → Bool) (l : List PartD) (o : List Int) : List Int := raiseL so (l.flatMap (·.guards)) o
theorem raisePs_nil {so : Int → Bool} {o : List Int} : raisePs so [] o = o := rfl
theorem raisePs_cons {so : Int → Bool} {x : PartD} {l : List PartD} {o : List Int} : raisePs so (x :: l) o = raisePs so l (raiseL so x.guards o) := by simp only [raisePs, List.flatMap_cons, raiseL_append]
theorem raisePs_len {so : Int → Bool} {l : List PartD} {o : List Int} : (raisePs so l o).length = o.length := raiseL_len
def numG (n : NetD) (so : Int → Bool) : List (List PartD) → List Int → Option (List Int)
  | [], o => some o
  | g :: r, o => if goalE n g ≠ 0 then none else numG n so r (raisePs so g o)
theorem numG_nil {n : NetD} {so : Int → Bool} {o : List Int} : numG n so [] o = some o := rfl
theorem numG_cons {n : NetD} {so : Int → Bool} {g : List PartD} {r : List (List PartD)} {o : List Int} : numG n so (g :: r) o = if goalE n g ≠ 0 then none else numG n so r (raisePs so g o) := rfl
def numbE (n : NetD) (so : Int → Bool) (gs : List (List PartD)) : Option (List Int) :=
  if netE n ≠ 0 then none else numG n so gs (raiseL so (guardsL n) (List.replicate n.clocks.length (-1)))
/-- Numbers, or nil. -/
def numV : Option (List Int) → V
  | none => .nils
  | some o => .own 3 (o.map fun k => [V.int .i64 k])
def gsV (gs : List (List PartD)) : V := .vec (gs.map fun g => [vl PartD.cells g]) gs.length
theorem set_next {c : List Int} {i : Nat} (h : ∀ j, j < i → c[j]? = some (-1)) (hi : i < c.length) : ∀ j, j < i + 1 → (c.set i (-1))[j]? = some (-1) := fun j hj => by
  rw [List.getElem?_set]
  by_cases e : i = j
  · subst e; simp [hi]
  · rw [if_neg e]; exact h j (by omega)
theorem all_set {c : List Int} {N : Nat} (hN : c.length = N) (h : ∀ j, j < N → c[j]? = some (-1)) : c = List.replicate N (-1) := by
  apply List.ext_getElem?
  intro i
  by_cases hi : i < N
  · rw [h i hi]; simp [hi]
  · rw [List.getElem?_eq_none (by omega), List.getElem?_eq_none (by simp; omega)]
set_option maxRecDepth 20000 in
set_option maxHeartbeats 16000000 in
theorem c_numbers (n : NetD) (hn : n.ok) (fso : Nat) (so : Int → Bool) (hso : ∀ c, PC fso [.int .u8 c] (.bool (so c))) (gs : List (List PartD)) (hgl : gs.length ≤ 1048576) (hgs : ∀ g ∈ gs, okGoal g) :
    PC 79 [.agg n.cells, gsV gs, .fn (.func fso) [] []] (numV (numbE n so gs)) := by
  have hN := c_Net n hn
  have hcl : n.clocks.length ≤ 1048576 := hn.1.1
  obtain ⟨r, hr⟩ : ∃ r, numbE n so gs = r := ⟨_, rfl⟩
  rw [hr]
  unfold numbE at hr
  simp only [vl, NetD.cells] at hN
  refine PCall_body Tryz.func79 rfl (by decide) Tryz.ntmps79 (by simp) Tryz.results79 ?_
  by_cases hz : netE n = 0
  · rw [if_neg (by simp [hz])] at hr
    rw [hz] at hN
    have hgd := whole_guards (netE_whole hz)
    have b1 : (n.clocks.length : Int) * 8 ≤ 281474976710656 := by omega
    repeat' (first
    |refine AW_seq_k fun K hK=>?_|refine Step.by1 ?_|refine SBlock_exit_ne (by decide) ?_
    |((first|refine AW_region_AO ?_|refine AS_call1 (f:=15) rfl rfl (hN) rfl rfl rfl ?_);simp [gsV, vl, NetD.cells, b1])
    |(refine Split.by2 (fun h=>?_) (fun h=>?_)<;>(simp [h, gsV, vl, NetD.cells, b1]))
    |refine ct rfl ?_|refine cf rfl ?_|refine cnd rfl (fun h=>?_) (fun h=>?_)|refine cd rfl (fun h=>?_) (fun h=>?_)|refine cn rfl (fun h=>?_) (fun h=>?_)|refine cc rfl (fun h=>?_) (fun h=>?_)
    |(apply hK;clear hK K)|(refine AWh (by assumption) ?_))
    refine AW_loopL [1, 3, 5, 7, 22] (fun s : Nat × List Int => [(23, .int .i64 s.1)]) (fun s => [.var n.cells, .var [.fn (.func fso) [] []], .row 3 0 0 true (s.2.map fun k => [V.int .i64 k]), .var [.ref 2 0 0 n.clocks.length]]) (fun s => s.1 ≤ n.clocks.length ∧ s.2.length = n.clocks.length ∧ ∀ j, j < s.1 → s.2[j]? = some (-1)) (fun s => n.clocks.length - s.1) (0, List.replicate n.clocks.length 0) ⟨Nat.zero_le _, by simp, fun j hj => by omega⟩ (by apply Weak.mk' <;> simp [vl, NetD.cells]) (fun _ _ => rfl) ?_
    rintro ⟨i, c⟩ ⟨hi, hlen, hset⟩
    simp only at hi hlen hset
    by_cases hlt : i < n.clocks.length
    · have hlt' : (i : Int) < n.clocks.length := by omega
      have hic : i < c.length := by omega
      have w1 : IntKind.i64.wrap ((i : Int) + 1) = i + 1 := wrap_i64 (by omega) (by omega)
      repeat' (first
    |refine AW_seq_k fun K hK=>?_|refine Step.by1 ?_|refine SBlock_exit_ne (by decide) ?_
    |((first|refine AW_region_AO ?_);simp [gsV, vl, NetD.cells, hlt, hlt', hic, hlen, w1])
    |(refine Split.by2 (fun h=>?_) (fun h=>?_)<;>(simp [h, gsV, vl, NetD.cells, hlt, hlt', hic, hlen, w1]))
    |refine ct rfl ?_|refine cf rfl ?_|refine cnd rfl (fun h=>?_) (fun h=>?_)|refine cd rfl (fun h=>?_) (fun h=>?_)|refine cn rfl (fun h=>?_) (fun h=>?_)|refine cc rfl (fun h=>?_) (fun h=>?_)
    |(apply hK;clear hK K)|(refine AWh (by assumption) ?_))
      refine ⟨i + 1, c.set i (-1), ⟨by omega, by simp [hlen], set_next hset hic⟩, by omega, ?_⟩
      apply Weak.mk' <;> simp [vl, NetD.cells]
    · have hlt' : ¬ (i : Int) < n.clocks.length := by omega
      have hc := all_set hlen (fun j hj => hset j (by omega))
      rw [← hc] at hr
      clear hset
      have hS := c_searchG n hn fso so hso c (by omega) (by rw [hlen]; exact hgd)
      have hl2 : (raiseL so (guardsL n) c).length = n.clocks.length := by rw [raiseL_len, hlen]
      generalize raiseL so (guardsL n) c = o at *
      clear hc
      repeat' (first
    |refine AW_seq_k fun K hK=>?_|refine Step.by1 ?_|refine SBlock_exit_ne (by decide) ?_
    |((first|refine AW_region_AO ?_);simp [gsV, vl, NetD.cells, hlt, hlt'])
    |(refine Split.by2 (fun h=>?_) (fun h=>?_)<;>(simp [h, gsV, vl, NetD.cells, hlt, hlt']))
    |refine ct rfl ?_|refine cf rfl ?_|refine cnd rfl (fun h=>?_) (fun h=>?_)|refine cd rfl (fun h=>?_) (fun h=>?_)|refine cn rfl (fun h=>?_) (fun h=>?_)|refine cc rfl (fun h=>?_) (fun h=>?_)
    |(refine AS_callG (f := 59) rfl rfl (hS.imp (by simp [vl, NetD.cells]) (by simp [H5, NetD.cells, vl, hlen])) rfl (fun v h' hq => ?_); obtain ⟨rfl, rfl⟩ := hq; simp [vl, H5, NetD.cells])
    |(apply hK;clear hK K)|(refine AWh (by assumption) ?_))
      refine AW_range (r := r) gs 37 [3, 7, 9, 35, 36] (fun c : List Int => []) (fun c => H5 n fso c) (fun i c => c.length = n.clocks.length) (numG n so) o
        hr hl2 (by apply Weak.mk' <;> simp [vl, NetD.cells, H5]) (fun _ _ _ => by simp [H5_len, H5]) ?_ ?_
      · intro k q g _ hkt hg hJ hF
        rw [numG_cons] at hF
        have hgo := hgs g (hg ▸ List.getElem_mem hkt)
        have hc := c_Goal n hn g hgo
        obtain ⟨hg1, hg2⟩ := hgo
        have hgg := goal_guards (n := n) (g := g)
        have hkt' : (k : Int) < gs.length := by omega
        have w1 : IntKind.i64.wrap ((k : Int) + 1) = k + 1 := wrap_i64 (by omega) (by omega)
        simp only [vl, NetD.cells] at hc
        generalize goalE n g = ge at *
        by_cases hge : ge = 0
        · rw [if_neg (by simp [hge])] at hF
          rw [hge] at hc
          have hgg := hgg hge
          repeat' (first
    |refine AW_seq_k fun K hK=>?_|refine Step.by1 ?_|refine SBlock_exit_ne (by decide) ?_
    |((first|refine AW_region_AO ?_|refine AS_call1 (f:=19) rfl rfl (hc) rfl rfl rfl ?_);simp [gsV, vl, NetD.cells, H5, hkt, hkt', hg])
    |(refine Split.by2 (fun h=>?_) (fun h=>?_)<;>(simp [h, gsV, vl, NetD.cells, H5, hkt, hkt', hg]))
    |refine ct rfl ?_|refine cf rfl ?_|refine cnd rfl (fun h=>?_) (fun h=>?_)|refine cd rfl (fun h=>?_) (fun h=>?_)|refine cn rfl (fun h=>?_) (fun h=>?_)|refine cc rfl (fun h=>?_) (fun h=>?_)
    |(apply hK;clear hK K)|(refine AWh (by assumption) ?_))
          obtain ⟨o2, ho2⟩ : ∃ o2, raisePs so g q = o2 := ⟨_, rfl⟩
          have hl3 : o2.length = n.clocks.length := by rw [← ho2, raisePs_len, hJ]
          rw [ho2] at hF
          refine AW_range (r := o2) g 47 [3, 7, 9, 35, 36, 37, 45, 46] (fun c : List Int => []) (fun c => H5 n fso c) (fun i c => c.length = n.clocks.length) (raisePs so) q
            ho2 hJ (by apply Weak.mk' <;> simp [vl, NetD.cells, H5]) (fun _ _ _ => by simp [H5_len, H5]) ?_ ?_
          · intro m q2 p _ hmt hp hJ2 hG
            rw [raisePs_cons] at hG
            have hmp : p ∈ g := hp ▸ List.getElem_mem hmt
            have hR := c_raise n fso so hso p.guards q2 [.var p.cells] (by omega) (hg2 p hmp).2.1.1 (fun x hx => by rw [hJ2]; exact hgg p hmp x hx) (by simp [PartD.cells, vl])
            have hl4 : (raiseL so p.guards q2).length = n.clocks.length := by rw [raiseL_len, hJ2]
            have hmt' : (m : Int) < g.length := by omega
            have w2 : IntKind.i64.wrap ((m : Int) + 1) = m + 1 := wrap_i64 (by omega) (by omega)
            generalize raiseL so p.guards q2 = q' at *
            repeat' (first
    |refine AW_seq_k fun K hK=>?_|refine Step.by1 ?_|refine SBlock_exit_ne (by decide) ?_
    |((first|refine AW_region_AO ?_);simp [gsV, vl, NetD.cells, PartD.cells, H5, hmt, hmt', hp, w2])
    |(refine Split.by2 (fun h=>?_) (fun h=>?_)<;>(simp [h, gsV, vl, NetD.cells, PartD.cells, H5, hmt, hmt', hp, w2]))
    |refine ct rfl ?_|refine cf rfl ?_|refine cnd rfl (fun h=>?_) (fun h=>?_)|refine cd rfl (fun h=>?_) (fun h=>?_)|refine cn rfl (fun h=>?_) (fun h=>?_)|refine cc rfl (fun h=>?_) (fun h=>?_)
    |(refine AS_callG (f := 157) rfl rfl (hR.imp (by simp [vl]) (by simp [H5, NetD.cells, PartD.cells, vl])) rfl (fun v h' hq => ?_); obtain ⟨rfl, rfl⟩ := hq; simp [vl, H5, NetD.cells, PartD.cells])
    |(apply hK;clear hK K)|(refine AWh (by assumption) ?_))
            exact ⟨q', hG, hl4, by apply Weak.mk' <;> simp [vl, NetD.cells, H5]⟩
          · intro q2 hJ2 hG
            rw [raisePs_nil] at hG
            subst hG
            repeat' (first
    |refine AW_seq_k fun K hK=>?_|refine Step.by1 ?_|refine SBlock_exit_ne (by decide) ?_
    |((first|refine AW_region_AO ?_);simp [gsV, vl, NetD.cells, H5, w1])
    |(refine Split.by2 (fun h=>?_) (fun h=>?_)<;>(simp [h, gsV, vl, NetD.cells, H5, w1]))
    |refine ct rfl ?_|refine cf rfl ?_|refine cnd rfl (fun h=>?_) (fun h=>?_)|refine cd rfl (fun h=>?_) (fun h=>?_)|refine cn rfl (fun h=>?_) (fun h=>?_)|refine cc rfl (fun h=>?_) (fun h=>?_)
    |(apply hK;clear hK K)|(refine AWh (by assumption) ?_))
            exact ⟨q2, hF, hJ2, by apply Weak.mk' <;> simp [vl, NetD.cells, H5]⟩
        · rw [if_pos hge] at hF
          subst hF
          repeat' (first
    |refine AW_seq_k fun K hK=>?_|refine Step.by1 ?_|refine SBlock_exit_ne (by decide) ?_
    |((first|refine AW_region_AO ?_|refine AS_call1 (f:=19) rfl rfl (hc) rfl rfl rfl ?_);simp [gsV, vl, NetD.cells, H5, hkt, hkt', hg, hge])
    |(refine Split.by2 (fun h=>?_) (fun h=>?_)<;>(simp [h, gsV, vl, NetD.cells, H5, hkt, hkt', hg, hge]))
    |refine ct rfl ?_|refine cf rfl ?_|refine cnd rfl (fun h=>?_) (fun h=>?_)|refine cd rfl (fun h=>?_) (fun h=>?_)|refine cn rfl (fun h=>?_) (fun h=>?_)|refine cc rfl (fun h=>?_) (fun h=>?_)
    |(apply hK;clear hK K)|(refine AWh (by assumption) ?_))
          exact retq1 (conv_eq rfl rfl)
      · intro q hJ hF
        rw [numG_nil] at hF
        subst hF
        repeat' (first
    |refine AW_seq_k fun K hK=>?_|refine Step.by1 ?_|refine SBlock_exit_ne (by decide) ?_
    |((first|refine AW_region_AO ?_);simp [gsV, vl, NetD.cells, H5])
    |(refine Split.by2 (fun h=>?_) (fun h=>?_)<;>(simp [h, gsV, vl, NetD.cells, H5]))
    |refine ct rfl ?_|refine cf rfl ?_|refine cnd rfl (fun h=>?_) (fun h=>?_)|refine cd rfl (fun h=>?_) (fun h=>?_)|refine cn rfl (fun h=>?_) (fun h=>?_)|refine cc rfl (fun h=>?_) (fun h=>?_)
    |(apply hK;clear hK K)|(refine AWh (by assumption) ?_))
        exact retq1 (.inr (.inl (conv1_own rfl (by simp))))
  · rw [if_pos hz] at hr
    subst hr
    repeat' (first
    |refine AW_seq_k fun K hK=>?_|refine Step.by1 ?_|refine SBlock_exit_ne (by decide) ?_
    |((first|refine AW_region_AO ?_|refine AS_call1 (f:=15) rfl rfl (hN) rfl rfl rfl ?_);simp [gsV, vl, NetD.cells, hz])
    |(refine Split.by2 (fun h=>?_) (fun h=>?_)<;>(simp [h, gsV, vl, NetD.cells, hz]))
    |refine ct rfl ?_|refine cf rfl ?_|refine cnd rfl (fun h=>?_) (fun h=>?_)|refine cd rfl (fun h=>?_) (fun h=>?_)|refine cn rfl (fun h=>?_) (fun h=>?_)|refine cc rfl (fun h=>?_) (fun h=>?_)
    |(apply hK;clear hK K)|(refine AWh (by assumption) ?_))
    exact retq1 (conv_eq rfl rfl)
end Go.Proofs.YtgmlimipejcpgaaGreatDoor
end

section
set_option linter.unusedVariables false
namespace Go.Proofs.YtgmlimipejcpgaaGreatDoor
open Go Go.AM
/-! Goals, and lists of goals, as readings. -/
theorem zco41 : Tryz.prog.cellsOf 41 = 1 := by kernel_rfl
theorem rnGoal : RdN KB Tryz.prog 41 (fun g : List PartD => [vl PartD.cells g]) okGoal :=
  (RdN_slice Tryz.underlying41 (by rw [zco130]; decide) rnPartD (fun _ => by rw [zco130]; rfl)).map id (fun _ => rfl) (fun _ h => h)
def okGoals (gs : List (List PartD)) : Prop := gs.length ≤ 1048576 ∧ ∀ g ∈ gs, okGoal g
theorem rnGoals : RdN KB Tryz.prog 46 (fun gs : List (List PartD) => [gsV gs]) okGoals :=
  (RdN_slice Tryz.underlying46 (by rw [zco41]; decide) rnGoal (fun _ => by rw [zco41]; rfl)).map id (fun _ => rfl) (fun _ h => h)
end Go.Proofs.YtgmlimipejcpgaaGreatDoor
end

section
set_option linter.unusedVariables false
set_option linter.unusedSimpArgs false
namespace Go.Proofs.YtgmlimipejcpgaaGreatDoor
open Go Go.AM Fx

theorem GuardD_eq (x y : GuardD) : x = y ↔ (x.clock = y.clock ∧ x.other = y.other ∧ x.cmp = y.cmp ∧ x.n = y.n) := by cases x; cases y; simp
set_option maxHeartbeats 2000000 in
theorem c_SameGuards (a b : List GuardD) (ha : a.length ≤ 1099511627776) : PC 143 [vl GuardD.cells a, vl GuardD.cells b] (.bool (decide (a = b))) := by
  refine PCall_body Tryz.func143 rfl (by decide) Tryz.ntmps143 (by simp) Tryz.results143 ?_
  by_cases hab : a.length = b.length
  · have hab' : (a.length : Int) = b.length := by omega
    repeat' (first
    |refine AW_seq_k fun K hK=>?_|refine Step.by1 ?_|refine SBlock_exit_ne (by decide) ?_
    |((first|refine AW_region_AO ?_);simp [vl, hab'])
    |(refine Split.by2 (fun h=>?_) (fun h=>?_)<;>(simp [h, vl, hab']))
    |refine ct rfl ?_|refine cf rfl ?_|refine cnd rfl (fun h=>?_) (fun h=>?_)|refine cd rfl (fun h=>?_) (fun h=>?_)|refine cn rfl (fun h=>?_) (fun h=>?_)|refine cc rfl (fun h=>?_) (fun h=>?_)
    |(apply hK;clear hK K)|(refine AWh (by assumption) ?_))
    refine AW_loopL [0, 1] (fun i : Nat => [(5, .int .i64 i)]) (fun _ => []) (fun i => i ≤ a.length ∧ a.take i = b.take i) (fun i => a.length - i) 0 ⟨Nat.zero_le _, rfl⟩ (by apply Weak.mk' <;> simp) (fun _ _ => rfl) ?_
    intro i hi
    by_cases hlt : i < a.length
    · have hlb : i < b.length := by omega
      have hne : a[i] ≠ b[i] → a ≠ b := fun h e => h (by subst e; rfl)
      have hsucc := fun h => take_same hi.2 hlt hlb h
      obtain ⟨x, hx⟩ : ∃ x, a[i] = x := ⟨_, rfl⟩
      obtain ⟨y, hy⟩ : ∃ y, b[i] = y := ⟨_, rfl⟩
      rw [hx, hy] at hne hsucc
      rw [ne_eq, GuardD_eq] at hne
      rw [GuardD_eq] at hsucc
      repeat' (first
    |refine AW_seq_k fun K hK=>?_|refine Step.by1 ?_|refine SBlock_exit_ne (by decide) ?_
    |((first|refine AW_region_AO ?_|refine AW_region_APx (id:=6) 9 mixed (by decide) ?_);simp [vl, hlt, hlb, hx, hy, GuardD.cells, wrap_i64];try (simp (disch:=omega) only [wrap_i64];try simp [vl, hlt, hlb, hx, hy, GuardD.cells, wrap_i64]))
    |(refine Split.by2 (fun h=>?_) (fun h=>?_)<;>(simp [h, vl, hlt, hlb, hx, hy, GuardD.cells, wrap_i64];try (simp (disch:=omega) only [wrap_i64];try simp [vl, hlt, hlb, hx, hy, GuardD.cells, wrap_i64])))
    |refine ct rfl ?_|refine cf rfl ?_|refine cnd rfl (fun h=>?_) (fun h=>?_)|refine cd rfl (fun h=>?_) (fun h=>?_)|refine cn rfl (fun h=>?_) (fun h=>?_)|refine cc rfl (fun h=>?_) (fun h=>?_)
    |(apply hK;clear hK K)|(refine AWh (by assumption) ?_))
      all_goals first
        | exact retq1 (conv_eq (by simp; exact hne (by first | exact h | (simp at h; intro he; simp [he] at h))) rfl)
        | (refine ⟨i + 1, ⟨by omega, hsucc (by first | exact h | (simp at h; simp [h]))⟩, by omega, ?_⟩; apply Weak.mk' <;> simp [vl])
    · have hie : i = a.length := by omega
      subst hie
      have he : a = b := take_end hi.2 hab
      repeat' (first
    |refine AW_seq_k fun K hK=>?_|refine Step.by1 ?_|refine SBlock_exit_ne (by decide) ?_
    |((first|refine AW_region_AO ?_);simp [vl, hlt])
    |(refine Split.by2 (fun h=>?_) (fun h=>?_)<;>(simp [h, vl, hlt]))
    |refine ct rfl ?_|refine cf rfl ?_|refine cnd rfl (fun h=>?_) (fun h=>?_)|refine cd rfl (fun h=>?_) (fun h=>?_)|refine cn rfl (fun h=>?_) (fun h=>?_)|refine cc rfl (fun h=>?_) (fun h=>?_)
    |(apply hK;clear hK K)|(refine AWh (by assumption) ?_))
      exact retq1 (conv_eq (by simp [he]) rfl)
  · have hab' : ¬ (a.length : Int) = b.length := by omega
    have he : ¬ a = b := fun h => hab (by rw [h])
    repeat' (first
    |refine AW_seq_k fun K hK=>?_|refine Step.by1 ?_|refine SBlock_exit_ne (by decide) ?_
    |((first|refine AW_region_AO ?_);simp [vl, hab'])
    |(refine Split.by2 (fun h=>?_) (fun h=>?_)<;>(simp [h, vl, hab']))
    |refine ct rfl ?_|refine cf rfl ?_|refine cnd rfl (fun h=>?_) (fun h=>?_)|refine cd rfl (fun h=>?_) (fun h=>?_)|refine cn rfl (fun h=>?_) (fun h=>?_)|refine cc rfl (fun h=>?_) (fun h=>?_)
    |(apply hK;clear hK K)|(refine AWh (by assumption) ?_))
    exact retq1 (conv_eq (by simp [he]) rfl)

def markGuards (j : Nat) : List V := [.int .i64 0, .int .i64 0, .int .u8 0, .int .i64 (-700 - (j : Int))]
set_option maxHeartbeats 2000000 in
theorem c_HandGuards (l : List GuardD) (hl : l.length ≤ 1099511627776) : PC 56 [vl GuardD.cells l] (handV GuardD.cells markGuards l) := by
  have w9 : IntKind.i64.wrap ((l.length : Int) + 9) = (l.length : Int) + 9 := wrap_i64 (by omega) (by omega)
  have t9 : ((l.length : Int) + 9).toNat = l.length + 9 := by omega
  have n9 : ((l.length : Int) + 9) * 32 ≤ 281474976710656 := by omega
  have hz : (0 : Int) ≤ (l.length : Int) + 9 := by omega
  refine PCall_body Tryz.func56 rfl (by decide) Tryz.ntmps56 (by simp) Tryz.results56 ?_
  repeat' (first
    |refine AW_seq_k fun K hK=>?_|refine Step.by1 ?_|refine SBlock_exit_ne (by decide) ?_
    |((first|refine AW_region_AO ?_);simp [vl, w9, n9, hz, t9])
    |(refine Split.by2 (fun h=>?_) (fun h=>?_)<;>(simp [h, vl, w9, n9, hz, t9]))
    |refine ct rfl ?_|refine cf rfl ?_|refine cnd rfl (fun h=>?_) (fun h=>?_)|refine cd rfl (fun h=>?_) (fun h=>?_)|refine cn rfl (fun h=>?_) (fun h=>?_)|refine cc rfl (fun h=>?_) (fun h=>?_)
    |(apply hK;clear hK K)|(refine AWh (by assumption) ?_))
  refine AW_loopL [0, 3] (fun i : Nat => [(4, .int .i64 i)]) (fun i => [.row 127 0 0 true (fillR (handF GuardD.cells markGuards l) [.int .i64 0, .int .i64 0, .int .u8 0, .int .i64 0] (l.length + 9) i)]) (fun i => i ≤ l.length) (fun i => l.length - i) 0 (Nat.zero_le _) (by apply Weak.mk' <;> simp [vl, fillR, t9]) (fun _ _ => rfl) ?_
  intro i hi
  by_cases hlt : i < l.length
  · have hlt9 : i < l.length + 9 := by omega
    have hlt8 : (i : Int) < l.length + 9 := by omega
    have hset := fillR_set (f := handF GuardD.cells markGuards l) (z := [.int .i64 0, .int .i64 0, .int .u8 0, .int .i64 0]) hlt9
    have hlen := fillR_len (f := handF GuardD.cells markGuards l) (z := [.int .i64 0, .int .i64 0, .int .u8 0, .int .i64 0]) (n := l.length + 9) (i := i) (by omega)
    have hget := fillR_get (f := handF GuardD.cells markGuards l) (z := [.int .i64 0, .int .i64 0, .int .u8 0, .int .i64 0]) hlt9
    rw [handF_in hlt] at hset
    obtain ⟨x, hx⟩ : ∃ x, l[i] = x := ⟨_, rfl⟩
    rw [hx] at hset
    generalize fillR (handF GuardD.cells markGuards l) [.int .i64 0, .int .i64 0, .int .u8 0, .int .i64 0] (l.length + 9) i = row at *
    have hrl : i < row.length := by omega
    have hri : row[i] = [.int .i64 0, .int .i64 0, .int .u8 0, .int .i64 0] := by rw [List.getElem?_eq_getElem hrl] at hget; exact Option.some.inj hget
    repeat' (first
    |refine AW_seq_k fun K hK=>?_|refine Step.by1 ?_|refine SBlock_exit_ne (by decide) ?_
    |((first|refine AW_region_AO ?_);simp [vl, hlt, hlt9, hlt8, t9, hrl, hri, hx, hlen, GuardD.cells, wrap_i64];try (simp (disch:=omega) only [wrap_i64];try simp [vl, hlt, hlt9, hlt8, t9, hrl, hri, hx, hlen, GuardD.cells, wrap_i64]))
    |(refine Split.by2 (fun h=>?_) (fun h=>?_)<;>(simp [h, vl, hlt, hlt9, hlt8, t9, hrl, hri, hx, hlen, GuardD.cells, wrap_i64];try (simp (disch:=omega) only [wrap_i64];try simp [vl, hlt, hlt9, hlt8, t9, hrl, hri, hx, hlen, GuardD.cells, wrap_i64])))
    |refine ct rfl ?_|refine cf rfl ?_|refine cnd rfl (fun h=>?_) (fun h=>?_)|refine cd rfl (fun h=>?_) (fun h=>?_)|refine cn rfl (fun h=>?_) (fun h=>?_)|refine cc rfl (fun h=>?_) (fun h=>?_)
    |(apply hK;clear hK K)|(refine AWh (by assumption) ?_))
    refine ⟨i + 1, by omega, by omega, ?_⟩
    apply Weak.mk' <;> simp [vl]
    simpa [GuardD.cells] using hset
  · have hie : i = l.length := by omega
    subst hie
    repeat' (first
    |refine AW_seq_k fun K hK=>?_|refine Step.by1 ?_|refine SBlock_exit_ne (by decide) ?_
    |((first|refine AW_region_AO ?_);simp [vl, hlt])
    |(refine Split.by2 (fun h=>?_) (fun h=>?_)<;>(simp [h, vl, hlt]))
    |refine ct rfl ?_|refine cf rfl ?_|refine cnd rfl (fun h=>?_) (fun h=>?_)|refine cd rfl (fun h=>?_) (fun h=>?_)|refine cn rfl (fun h=>?_) (fun h=>?_)|refine cc rfl (fun h=>?_) (fun h=>?_)
    |(apply hK;clear hK K)|(refine AWh (by assumption) ?_))
    refine AW_loopL [0, 3] (fun j : Nat => [(5, .int .i64 (l.length + j : Nat))]) (fun j => [.row 127 0 0 true (fillR (handF GuardD.cells markGuards l) [.int .i64 0, .int .i64 0, .int .u8 0, .int .i64 0] (l.length + 9) (l.length + j))]) (fun j => j ≤ 9) (fun j => 9 - j) 0 (Nat.zero_le _) (by apply Weak.mk' <;> simp [vl]) (fun _ _ => rfl) ?_
    intro j hj
    by_cases hjt : j < 9
    · have hlt9 : l.length + j < l.length + 9 := by omega
      have hset := fillR_set (f := handF GuardD.cells markGuards l) (z := [.int .i64 0, .int .i64 0, .int .u8 0, .int .i64 0]) hlt9
      have hlen := fillR_len (f := handF GuardD.cells markGuards l) (z := [.int .i64 0, .int .i64 0, .int .u8 0, .int .i64 0]) (n := l.length + 9) (i := l.length + j) (by omega)
      have hget := fillR_get (f := handF GuardD.cells markGuards l) (z := [.int .i64 0, .int .i64 0, .int .u8 0, .int .i64 0]) hlt9
      rw [handF_out] at hset
      rw [show l.length + j + 1 = l.length + (j + 1) by omega] at hset
      generalize fillR (handF GuardD.cells markGuards l) [.int .i64 0, .int .i64 0, .int .u8 0, .int .i64 0] (l.length + 9) (l.length + j) = row at *
      have hrl : l.length + j < row.length := by omega
      have hri : row[l.length + j] = [.int .i64 0, .int .i64 0, .int .u8 0, .int .i64 0] := by rw [List.getElem?_eq_getElem hrl] at hget; exact Option.some.inj hget
      have hle : (l.length : Int) + j ≤ 1099511627785 := by omega
      have w1 : IntKind.i64.wrap (-700 - ((l.length : Int) + j)) = -700 - ((l.length : Int) + j) := wrap_i64 (by omega) (by omega)
      have w2 : IntKind.i64.wrap (-700 - ((l.length : Int) + j) + l.length) = -700 - (j : Int) := by rw [wrap_i64 (by omega) (by omega)]; omega
      have w3 : IntKind.i64.wrap ((l.length : Int) + j + 1) = (l.length : Int) + j + 1 := wrap_i64 (by omega) (by omega)
      have hjn : ((l.length : Int) + j).toNat = l.length + j := by omega
      have hj0 : (0 : Int) ≤ (l.length : Int) + j := by omega
      have hj1 : (l.length : Int) + j < (l.length : Int) + 9 := by omega
      have hjt' : (j : Int) < 9 := by omega
      repeat' (first
    |refine AW_seq_k fun K hK=>?_|refine Step.by1 ?_|refine SBlock_exit_ne (by decide) ?_
    |((first|refine AW_region_AO ?_);simp [vl, hlt9, hrl, hri, hlen, w1, w2, w3, hjn, hj0, hj1, hjt', hjt, t9])
    |(refine Split.by2 (fun h=>?_) (fun h=>?_)<;>(simp [h, vl, hlt9, hrl, hri, hlen, w1, w2, w3, hjn, hj0, hj1, hjt', hjt, t9]))
    |refine ct rfl ?_|refine cf rfl ?_|refine cnd rfl (fun h=>?_) (fun h=>?_)|refine cd rfl (fun h=>?_) (fun h=>?_)|refine cn rfl (fun h=>?_) (fun h=>?_)|refine cc rfl (fun h=>?_) (fun h=>?_)
    |(apply hK;clear hK K)|(refine AWh (by assumption) ?_))
      refine ⟨j + 1, by omega, by omega, ?_⟩
      apply Weak.mk' <;> simp [vl]
      · omega
      · simpa [markGuards] using hset
    · have hje : j = 9 := by omega
      subst hje
      have hfin : fillR (handF GuardD.cells markGuards l) [.int .i64 0, .int .i64 0, .int .u8 0, .int .i64 0] (l.length + 9) (l.length + 9) = l.map GuardD.cells ++ (List.range 9).map markGuards := by unfold fillR; rw [range_hand]; simp
      rw [hfin]
      repeat' (first
    |refine AW_seq_k fun K hK=>?_|refine Step.by1 ?_|refine SBlock_exit_ne (by decide) ?_
    |((first|refine AW_region_AO ?_);simp [vl, t9])
    |(refine Split.by2 (fun h=>?_) (fun h=>?_)<;>(simp [h, vl, t9]))
    |refine ct rfl ?_|refine cf rfl ?_|refine cnd rfl (fun h=>?_) (fun h=>?_)|refine cd rfl (fun h=>?_) (fun h=>?_)|refine cn rfl (fun h=>?_) (fun h=>?_)|refine cc rfl (fun h=>?_) (fun h=>?_)
    |(apply hK;clear hK K)|(refine AWh (by assumption) ?_))
      exact retq1 (.inl ⟨1, by simp [handV], rfl⟩)

theorem trims_GuardD (x : GuardD) : V.trims (GuardD.cells x) = GuardD.cells x := trims_map _ (by simp [GuardD.cells, V.trim])
theorem trim_handGuards (l : List GuardD) : (handV GuardD.cells markGuards l).trim = vl GuardD.cells l := trim_pad _ fun x _ => trims_GuardD x
theorem trim_vlGuards (l : List GuardD) : (vl GuardD.cells l).trim = vl GuardD.cells l := trim_vl fun x _ => trims_GuardD x
set_option maxHeartbeats 2000000 in
theorem c_KeptGuards (l : List GuardD) (hl : l.length ≤ 1099511627776) : PC 72 [handV GuardD.cells markGuards l, vl GuardD.cells l] (.bool true) := by
  have hs := (c_SameGuards l l hl).trim (args := [handV GuardD.cells markGuards l, vl GuardD.cells l]) (by simp only [V.trims, trim_handGuards, trim_vlGuards])
  have w9 : IntKind.i64.wrap ((l.length : Int) + 9) = (l.length : Int) + 9 := wrap_i64 (by omega) (by omega)
  have t9 : ((l.length : Int) + 9).toNat = l.length + 9 := by omega
  have hz : (0 : Int) ≤ (l.length : Int) + 9 := by omega
  obtain ⟨row, hrow⟩ : ∃ row, l.map GuardD.cells ++ (List.range 9).map markGuards = row := ⟨_, rfl⟩
  have hlen : row.length = l.length + 9 := by rw [← hrow]; simp
  have hall : ∀ x ∈ row, x.length = 4 := fun x hx => by
    rw [← hrow] at hx
    rcases List.mem_append.1 hx with h | h
    · obtain ⟨y, _, rfl⟩ := List.mem_map.1 h; rfl
    · obtain ⟨y, _, rfl⟩ := List.mem_map.1 h; rfl
  have hget : ∀ j, j < 9 → row[l.length + j]? = some (markGuards j) := fun j hj => by
    rw [← hrow, List.getElem?_append_right (by simp), List.length_map, Nat.add_sub_cancel_left, List.getElem?_map, List.getElem?_range hj]; rfl
  simp only [handV, hrow, vl, decide_true] at hs
  unfold handV
  rw [hrow]
  refine PCall_body Tryz.func72 rfl (by decide) Tryz.ntmps72 (by simp) Tryz.results72 ?_
  repeat' (first
    |refine AW_seq_k fun K hK=>?_|refine Step.by1 ?_|refine SBlock_exit_ne (by decide) ?_
    |((first|refine AW_region_AO ?_|refine AS_call1 (f:=143) rfl rfl (hs) rfl rfl rfl ?_);simp [vl, w9, t9, hz, hlen])
    |(refine Split.by2 (fun h=>?_) (fun h=>?_)<;>(simp [h, vl, w9, t9, hz, hlen]))
    |refine ct rfl ?_|refine cf rfl ?_|refine cnd rfl (fun h=>?_) (fun h=>?_)|refine cd rfl (fun h=>?_) (fun h=>?_)|refine cn rfl (fun h=>?_) (fun h=>?_)|refine cc rfl (fun h=>?_) (fun h=>?_)
    |refine And.intro hall ?_
    |(apply hK;clear hK K)|(refine AWh (by assumption) ?_))
  refine AW_loopL [1, 5] (fun j : Nat => [(6, .int .i64 (l.length + j : Nat))]) (fun _ => []) (fun j => j ≤ 9) (fun j => 9 - j) 0 (Nat.zero_le _) (by apply Weak.mk' <;> simp [vl]) (fun _ _ => rfl) ?_
  intro j hj
  by_cases hjt : j < 9
  · have hm := hget j hjt
    have hrl : l.length + j < row.length := by omega
    have hri : row[l.length + j] = markGuards j := by rw [List.getElem?_eq_getElem hrl] at hm; exact Option.some.inj hm
    have w1 : IntKind.i64.wrap (-700 - ((l.length : Int) + j)) = -700 - ((l.length : Int) + j) := wrap_i64 (by omega) (by omega)
    have w2 : IntKind.i64.wrap (-700 - ((l.length : Int) + j) + l.length) = -700 - (j : Int) := by rw [wrap_i64 (by omega) (by omega)]; omega
    have w3 : IntKind.i64.wrap ((l.length : Int) + j + 1) = (l.length : Int) + j + 1 := wrap_i64 (by omega) (by omega)
    have hjn : ((l.length : Int) + j).toNat = l.length + j := by omega
    have hj0 : (0 : Int) ≤ (l.length : Int) + j := by omega
    have hj1 : (l.length : Int) + j < (l.length : Int) + 9 := by omega
    have hjt' : (j : Int) < 9 := by omega
    repeat' (first
    |refine AW_seq_k fun K hK=>?_|refine Step.by1 ?_|refine SBlock_exit_ne (by decide) ?_
    |((first|refine AW_region_AO ?_);simp [vl, hrl, hri, hlen, w1, w2, w3, hjn, hj0, hj1, hjt', hjt, t9, markGuards])
    |(refine Split.by2 (fun h=>?_) (fun h=>?_)<;>(simp [h, vl, hrl, hri, hlen, w1, w2, w3, hjn, hj0, hj1, hjt', hjt, t9, markGuards]))
    |refine ct rfl ?_|refine cf rfl ?_|refine cnd rfl (fun h=>?_) (fun h=>?_)|refine cd rfl (fun h=>?_) (fun h=>?_)|refine cn rfl (fun h=>?_) (fun h=>?_)|refine cc rfl (fun h=>?_) (fun h=>?_)
    |(apply hK;clear hK K)|(refine AWh (by assumption) ?_))
    refine ⟨j + 1, by omega, by omega, ?_⟩
    apply Weak.mk' <;> simp [vl]
    omega
  · have hje : j = 9 := by omega
    subst hje
    repeat' (first
    |refine AW_seq_k fun K hK=>?_|refine Step.by1 ?_|refine SBlock_exit_ne (by decide) ?_
    |((first|refine AW_region_AO ?_);simp [vl, t9])
    |(refine Split.by2 (fun h=>?_) (fun h=>?_)<;>(simp [h, vl, t9]))
    |refine ct rfl ?_|refine cf rfl ?_|refine cnd rfl (fun h=>?_) (fun h=>?_)|refine cd rfl (fun h=>?_) (fun h=>?_)|refine cn rfl (fun h=>?_) (fun h=>?_)|refine cc rfl (fun h=>?_) (fun h=>?_)
    |(apply hK;clear hK K)|(refine AWh (by assumption) ?_))
    exact retq1 (conv_eq rfl rfl)

end Go.Proofs.YtgmlimipejcpgaaGreatDoor
end

section
set_option linter.unusedVariables false
set_option linter.unusedSimpArgs false
namespace Go.Proofs.YtgmlimipejcpgaaGreatDoor
open Go Go.AM Fx

theorem NodeD_eq (x y : NodeD) : x = y ↔ (x.op = y.op ∧ x.n = y.n) := by cases x; cases y; simp
set_option maxHeartbeats 2000000 in
theorem c_SameNodes (a b : List NodeD) (ha : a.length ≤ 1099511627776) : PC 144 [vl NodeD.cells a, vl NodeD.cells b] (.bool (decide (a = b))) := by
  refine PCall_body Tryz.func144 rfl (by decide) Tryz.ntmps144 (by simp) Tryz.results144 ?_
  by_cases hab : a.length = b.length
  · have hab' : (a.length : Int) = b.length := by omega
    repeat' (first
    |refine AW_seq_k fun K hK=>?_|refine Step.by1 ?_|refine SBlock_exit_ne (by decide) ?_
    |((first|refine AW_region_AO ?_);simp [vl, hab'])
    |(refine Split.by2 (fun h=>?_) (fun h=>?_)<;>(simp [h, vl, hab']))
    |refine ct rfl ?_|refine cf rfl ?_|refine cnd rfl (fun h=>?_) (fun h=>?_)|refine cd rfl (fun h=>?_) (fun h=>?_)|refine cn rfl (fun h=>?_) (fun h=>?_)|refine cc rfl (fun h=>?_) (fun h=>?_)
    |(apply hK;clear hK K)|(refine AWh (by assumption) ?_))
    refine AW_loopL [0, 1] (fun i : Nat => [(5, .int .i64 i)]) (fun _ => []) (fun i => i ≤ a.length ∧ a.take i = b.take i) (fun i => a.length - i) 0 ⟨Nat.zero_le _, rfl⟩ (by apply Weak.mk' <;> simp) (fun _ _ => rfl) ?_
    intro i hi
    by_cases hlt : i < a.length
    · have hlb : i < b.length := by omega
      have hne : a[i] ≠ b[i] → a ≠ b := fun h e => h (by subst e; rfl)
      have hsucc := fun h => take_same hi.2 hlt hlb h
      obtain ⟨x, hx⟩ : ∃ x, a[i] = x := ⟨_, rfl⟩
      obtain ⟨y, hy⟩ : ∃ y, b[i] = y := ⟨_, rfl⟩
      rw [hx, hy] at hne hsucc
      rw [ne_eq, NodeD_eq] at hne
      rw [NodeD_eq] at hsucc
      repeat' (first
    |refine AW_seq_k fun K hK=>?_|refine Step.by1 ?_|refine SBlock_exit_ne (by decide) ?_
    |((first|refine AW_region_AO ?_|refine AW_region_APx (id:=6) 9 mixed (by decide) ?_);simp [vl, hlt, hlb, hx, hy, NodeD.cells, wrap_i64];try (simp (disch:=omega) only [wrap_i64];try simp [vl, hlt, hlb, hx, hy, NodeD.cells, wrap_i64]))
    |(refine Split.by2 (fun h=>?_) (fun h=>?_)<;>(simp [h, vl, hlt, hlb, hx, hy, NodeD.cells, wrap_i64];try (simp (disch:=omega) only [wrap_i64];try simp [vl, hlt, hlb, hx, hy, NodeD.cells, wrap_i64])))
    |refine ct rfl ?_|refine cf rfl ?_|refine cnd rfl (fun h=>?_) (fun h=>?_)|refine cd rfl (fun h=>?_) (fun h=>?_)|refine cn rfl (fun h=>?_) (fun h=>?_)|refine cc rfl (fun h=>?_) (fun h=>?_)
    |(apply hK;clear hK K)|(refine AWh (by assumption) ?_))
      all_goals first
        | exact retq1 (conv_eq (by simp; exact hne (by first | exact h | (simp at h; intro he; simp [he] at h))) rfl)
        | (refine ⟨i + 1, ⟨by omega, hsucc (by first | exact h | (simp at h; simp [h]))⟩, by omega, ?_⟩; apply Weak.mk' <;> simp [vl])
    · have hie : i = a.length := by omega
      subst hie
      have he : a = b := take_end hi.2 hab
      repeat' (first
    |refine AW_seq_k fun K hK=>?_|refine Step.by1 ?_|refine SBlock_exit_ne (by decide) ?_
    |((first|refine AW_region_AO ?_);simp [vl, hlt])
    |(refine Split.by2 (fun h=>?_) (fun h=>?_)<;>(simp [h, vl, hlt]))
    |refine ct rfl ?_|refine cf rfl ?_|refine cnd rfl (fun h=>?_) (fun h=>?_)|refine cd rfl (fun h=>?_) (fun h=>?_)|refine cn rfl (fun h=>?_) (fun h=>?_)|refine cc rfl (fun h=>?_) (fun h=>?_)
    |(apply hK;clear hK K)|(refine AWh (by assumption) ?_))
      exact retq1 (conv_eq (by simp [he]) rfl)
  · have hab' : ¬ (a.length : Int) = b.length := by omega
    have he : ¬ a = b := fun h => hab (by rw [h])
    repeat' (first
    |refine AW_seq_k fun K hK=>?_|refine Step.by1 ?_|refine SBlock_exit_ne (by decide) ?_
    |((first|refine AW_region_AO ?_);simp [vl, hab'])
    |(refine Split.by2 (fun h=>?_) (fun h=>?_)<;>(simp [h, vl, hab']))
    |refine ct rfl ?_|refine cf rfl ?_|refine cnd rfl (fun h=>?_) (fun h=>?_)|refine cd rfl (fun h=>?_) (fun h=>?_)|refine cn rfl (fun h=>?_) (fun h=>?_)|refine cc rfl (fun h=>?_) (fun h=>?_)
    |(apply hK;clear hK K)|(refine AWh (by assumption) ?_))
    exact retq1 (conv_eq (by simp [he]) rfl)

def markNodes (j : Nat) : List V := [.int .u8 0, .int .i64 (-700 - (j : Int))]
set_option maxHeartbeats 2000000 in
theorem c_HandNodes (l : List NodeD) (hl : l.length ≤ 1099511627776) : PC 57 [vl NodeD.cells l] (handV NodeD.cells markNodes l) := by
  have w9 : IntKind.i64.wrap ((l.length : Int) + 9) = (l.length : Int) + 9 := wrap_i64 (by omega) (by omega)
  have t9 : ((l.length : Int) + 9).toNat = l.length + 9 := by omega
  have n9 : ((l.length : Int) + 9) * 16 ≤ 281474976710656 := by omega
  have hz : (0 : Int) ≤ (l.length : Int) + 9 := by omega
  refine PCall_body Tryz.func57 rfl (by decide) Tryz.ntmps57 (by simp) Tryz.results57 ?_
  repeat' (first
    |refine AW_seq_k fun K hK=>?_|refine Step.by1 ?_|refine SBlock_exit_ne (by decide) ?_
    |((first|refine AW_region_AO ?_);simp [vl, w9, n9, hz, t9])
    |(refine Split.by2 (fun h=>?_) (fun h=>?_)<;>(simp [h, vl, w9, n9, hz, t9]))
    |refine ct rfl ?_|refine cf rfl ?_|refine cnd rfl (fun h=>?_) (fun h=>?_)|refine cd rfl (fun h=>?_) (fun h=>?_)|refine cn rfl (fun h=>?_) (fun h=>?_)|refine cc rfl (fun h=>?_) (fun h=>?_)
    |(apply hK;clear hK K)|(refine AWh (by assumption) ?_))
  refine AW_loopL [0, 3] (fun i : Nat => [(4, .int .i64 i)]) (fun i => [.row 164 0 0 true (fillR (handF NodeD.cells markNodes l) [.int .u8 0, .int .i64 0] (l.length + 9) i)]) (fun i => i ≤ l.length) (fun i => l.length - i) 0 (Nat.zero_le _) (by apply Weak.mk' <;> simp [vl, fillR, t9]) (fun _ _ => rfl) ?_
  intro i hi
  by_cases hlt : i < l.length
  · have hlt9 : i < l.length + 9 := by omega
    have hlt8 : (i : Int) < l.length + 9 := by omega
    have hset := fillR_set (f := handF NodeD.cells markNodes l) (z := [.int .u8 0, .int .i64 0]) hlt9
    have hlen := fillR_len (f := handF NodeD.cells markNodes l) (z := [.int .u8 0, .int .i64 0]) (n := l.length + 9) (i := i) (by omega)
    have hget := fillR_get (f := handF NodeD.cells markNodes l) (z := [.int .u8 0, .int .i64 0]) hlt9
    rw [handF_in hlt] at hset
    obtain ⟨x, hx⟩ : ∃ x, l[i] = x := ⟨_, rfl⟩
    rw [hx] at hset
    generalize fillR (handF NodeD.cells markNodes l) [.int .u8 0, .int .i64 0] (l.length + 9) i = row at *
    have hrl : i < row.length := by omega
    have hri : row[i] = [.int .u8 0, .int .i64 0] := by rw [List.getElem?_eq_getElem hrl] at hget; exact Option.some.inj hget
    repeat' (first
    |refine AW_seq_k fun K hK=>?_|refine Step.by1 ?_|refine SBlock_exit_ne (by decide) ?_
    |((first|refine AW_region_AO ?_);simp [vl, hlt, hlt9, hlt8, t9, hrl, hri, hx, hlen, NodeD.cells, wrap_i64];try (simp (disch:=omega) only [wrap_i64];try simp [vl, hlt, hlt9, hlt8, t9, hrl, hri, hx, hlen, NodeD.cells, wrap_i64]))
    |(refine Split.by2 (fun h=>?_) (fun h=>?_)<;>(simp [h, vl, hlt, hlt9, hlt8, t9, hrl, hri, hx, hlen, NodeD.cells, wrap_i64];try (simp (disch:=omega) only [wrap_i64];try simp [vl, hlt, hlt9, hlt8, t9, hrl, hri, hx, hlen, NodeD.cells, wrap_i64])))
    |refine ct rfl ?_|refine cf rfl ?_|refine cnd rfl (fun h=>?_) (fun h=>?_)|refine cd rfl (fun h=>?_) (fun h=>?_)|refine cn rfl (fun h=>?_) (fun h=>?_)|refine cc rfl (fun h=>?_) (fun h=>?_)
    |(apply hK;clear hK K)|(refine AWh (by assumption) ?_))
    refine ⟨i + 1, by omega, by omega, ?_⟩
    apply Weak.mk' <;> simp [vl]
    simpa [NodeD.cells] using hset
  · have hie : i = l.length := by omega
    subst hie
    repeat' (first
    |refine AW_seq_k fun K hK=>?_|refine Step.by1 ?_|refine SBlock_exit_ne (by decide) ?_
    |((first|refine AW_region_AO ?_);simp [vl, hlt])
    |(refine Split.by2 (fun h=>?_) (fun h=>?_)<;>(simp [h, vl, hlt]))
    |refine ct rfl ?_|refine cf rfl ?_|refine cnd rfl (fun h=>?_) (fun h=>?_)|refine cd rfl (fun h=>?_) (fun h=>?_)|refine cn rfl (fun h=>?_) (fun h=>?_)|refine cc rfl (fun h=>?_) (fun h=>?_)
    |(apply hK;clear hK K)|(refine AWh (by assumption) ?_))
    refine AW_loopL [0, 3] (fun j : Nat => [(5, .int .i64 (l.length + j : Nat))]) (fun j => [.row 164 0 0 true (fillR (handF NodeD.cells markNodes l) [.int .u8 0, .int .i64 0] (l.length + 9) (l.length + j))]) (fun j => j ≤ 9) (fun j => 9 - j) 0 (Nat.zero_le _) (by apply Weak.mk' <;> simp [vl]) (fun _ _ => rfl) ?_
    intro j hj
    by_cases hjt : j < 9
    · have hlt9 : l.length + j < l.length + 9 := by omega
      have hset := fillR_set (f := handF NodeD.cells markNodes l) (z := [.int .u8 0, .int .i64 0]) hlt9
      have hlen := fillR_len (f := handF NodeD.cells markNodes l) (z := [.int .u8 0, .int .i64 0]) (n := l.length + 9) (i := l.length + j) (by omega)
      have hget := fillR_get (f := handF NodeD.cells markNodes l) (z := [.int .u8 0, .int .i64 0]) hlt9
      rw [handF_out] at hset
      rw [show l.length + j + 1 = l.length + (j + 1) by omega] at hset
      generalize fillR (handF NodeD.cells markNodes l) [.int .u8 0, .int .i64 0] (l.length + 9) (l.length + j) = row at *
      have hrl : l.length + j < row.length := by omega
      have hri : row[l.length + j] = [.int .u8 0, .int .i64 0] := by rw [List.getElem?_eq_getElem hrl] at hget; exact Option.some.inj hget
      have hle : (l.length : Int) + j ≤ 1099511627785 := by omega
      have w1 : IntKind.i64.wrap (-700 - ((l.length : Int) + j)) = -700 - ((l.length : Int) + j) := wrap_i64 (by omega) (by omega)
      have w2 : IntKind.i64.wrap (-700 - ((l.length : Int) + j) + l.length) = -700 - (j : Int) := by rw [wrap_i64 (by omega) (by omega)]; omega
      have w3 : IntKind.i64.wrap ((l.length : Int) + j + 1) = (l.length : Int) + j + 1 := wrap_i64 (by omega) (by omega)
      have hjn : ((l.length : Int) + j).toNat = l.length + j := by omega
      have hj0 : (0 : Int) ≤ (l.length : Int) + j := by omega
      have hj1 : (l.length : Int) + j < (l.length : Int) + 9 := by omega
      have hjt' : (j : Int) < 9 := by omega
      repeat' (first
    |refine AW_seq_k fun K hK=>?_|refine Step.by1 ?_|refine SBlock_exit_ne (by decide) ?_
    |((first|refine AW_region_AO ?_);simp [vl, hlt9, hrl, hri, hlen, w1, w2, w3, hjn, hj0, hj1, hjt', hjt, t9])
    |(refine Split.by2 (fun h=>?_) (fun h=>?_)<;>(simp [h, vl, hlt9, hrl, hri, hlen, w1, w2, w3, hjn, hj0, hj1, hjt', hjt, t9]))
    |refine ct rfl ?_|refine cf rfl ?_|refine cnd rfl (fun h=>?_) (fun h=>?_)|refine cd rfl (fun h=>?_) (fun h=>?_)|refine cn rfl (fun h=>?_) (fun h=>?_)|refine cc rfl (fun h=>?_) (fun h=>?_)
    |(apply hK;clear hK K)|(refine AWh (by assumption) ?_))
      refine ⟨j + 1, by omega, by omega, ?_⟩
      apply Weak.mk' <;> simp [vl]
      · omega
      · simpa [markNodes] using hset
    · have hje : j = 9 := by omega
      subst hje
      have hfin : fillR (handF NodeD.cells markNodes l) [.int .u8 0, .int .i64 0] (l.length + 9) (l.length + 9) = l.map NodeD.cells ++ (List.range 9).map markNodes := by unfold fillR; rw [range_hand]; simp
      rw [hfin]
      repeat' (first
    |refine AW_seq_k fun K hK=>?_|refine Step.by1 ?_|refine SBlock_exit_ne (by decide) ?_
    |((first|refine AW_region_AO ?_);simp [vl, t9])
    |(refine Split.by2 (fun h=>?_) (fun h=>?_)<;>(simp [h, vl, t9]))
    |refine ct rfl ?_|refine cf rfl ?_|refine cnd rfl (fun h=>?_) (fun h=>?_)|refine cd rfl (fun h=>?_) (fun h=>?_)|refine cn rfl (fun h=>?_) (fun h=>?_)|refine cc rfl (fun h=>?_) (fun h=>?_)
    |(apply hK;clear hK K)|(refine AWh (by assumption) ?_))
      exact retq1 (.inl ⟨1, by simp [handV], rfl⟩)

theorem trims_NodeD (x : NodeD) : V.trims (NodeD.cells x) = NodeD.cells x := trims_map _ (by simp [NodeD.cells, V.trim])
theorem trim_handNodes (l : List NodeD) : (handV NodeD.cells markNodes l).trim = vl NodeD.cells l := trim_pad _ fun x _ => trims_NodeD x
theorem trim_vlNodes (l : List NodeD) : (vl NodeD.cells l).trim = vl NodeD.cells l := trim_vl fun x _ => trims_NodeD x
set_option maxHeartbeats 2000000 in
theorem c_KeptNodes (l : List NodeD) (hl : l.length ≤ 1099511627776) : PC 73 [handV NodeD.cells markNodes l, vl NodeD.cells l] (.bool true) := by
  have hs := (c_SameNodes l l hl).trim (args := [handV NodeD.cells markNodes l, vl NodeD.cells l]) (by simp only [V.trims, trim_handNodes, trim_vlNodes])
  have w9 : IntKind.i64.wrap ((l.length : Int) + 9) = (l.length : Int) + 9 := wrap_i64 (by omega) (by omega)
  have t9 : ((l.length : Int) + 9).toNat = l.length + 9 := by omega
  have hz : (0 : Int) ≤ (l.length : Int) + 9 := by omega
  obtain ⟨row, hrow⟩ : ∃ row, l.map NodeD.cells ++ (List.range 9).map markNodes = row := ⟨_, rfl⟩
  have hlen : row.length = l.length + 9 := by rw [← hrow]; simp
  have hall : ∀ x ∈ row, x.length = 2 := fun x hx => by
    rw [← hrow] at hx
    rcases List.mem_append.1 hx with h | h
    · obtain ⟨y, _, rfl⟩ := List.mem_map.1 h; rfl
    · obtain ⟨y, _, rfl⟩ := List.mem_map.1 h; rfl
  have hget : ∀ j, j < 9 → row[l.length + j]? = some (markNodes j) := fun j hj => by
    rw [← hrow, List.getElem?_append_right (by simp), List.length_map, Nat.add_sub_cancel_left, List.getElem?_map, List.getElem?_range hj]; rfl
  simp only [handV, hrow, vl, decide_true] at hs
  unfold handV
  rw [hrow]
  refine PCall_body Tryz.func73 rfl (by decide) Tryz.ntmps73 (by simp) Tryz.results73 ?_
  repeat' (first
    |refine AW_seq_k fun K hK=>?_|refine Step.by1 ?_|refine SBlock_exit_ne (by decide) ?_
    |((first|refine AW_region_AO ?_|refine AS_call1 (f:=144) rfl rfl (hs) rfl rfl rfl ?_);simp [vl, w9, t9, hz, hlen])
    |(refine Split.by2 (fun h=>?_) (fun h=>?_)<;>(simp [h, vl, w9, t9, hz, hlen]))
    |refine ct rfl ?_|refine cf rfl ?_|refine cnd rfl (fun h=>?_) (fun h=>?_)|refine cd rfl (fun h=>?_) (fun h=>?_)|refine cn rfl (fun h=>?_) (fun h=>?_)|refine cc rfl (fun h=>?_) (fun h=>?_)
    |refine And.intro hall ?_
    |(apply hK;clear hK K)|(refine AWh (by assumption) ?_))
  refine AW_loopL [1, 5] (fun j : Nat => [(6, .int .i64 (l.length + j : Nat))]) (fun _ => []) (fun j => j ≤ 9) (fun j => 9 - j) 0 (Nat.zero_le _) (by apply Weak.mk' <;> simp [vl]) (fun _ _ => rfl) ?_
  intro j hj
  by_cases hjt : j < 9
  · have hm := hget j hjt
    have hrl : l.length + j < row.length := by omega
    have hri : row[l.length + j] = markNodes j := by rw [List.getElem?_eq_getElem hrl] at hm; exact Option.some.inj hm
    have w1 : IntKind.i64.wrap (-700 - ((l.length : Int) + j)) = -700 - ((l.length : Int) + j) := wrap_i64 (by omega) (by omega)
    have w2 : IntKind.i64.wrap (-700 - ((l.length : Int) + j) + l.length) = -700 - (j : Int) := by rw [wrap_i64 (by omega) (by omega)]; omega
    have w3 : IntKind.i64.wrap ((l.length : Int) + j + 1) = (l.length : Int) + j + 1 := wrap_i64 (by omega) (by omega)
    have hjn : ((l.length : Int) + j).toNat = l.length + j := by omega
    have hj0 : (0 : Int) ≤ (l.length : Int) + j := by omega
    have hj1 : (l.length : Int) + j < (l.length : Int) + 9 := by omega
    have hjt' : (j : Int) < 9 := by omega
    repeat' (first
    |refine AW_seq_k fun K hK=>?_|refine Step.by1 ?_|refine SBlock_exit_ne (by decide) ?_
    |((first|refine AW_region_AO ?_);simp [vl, hrl, hri, hlen, w1, w2, w3, hjn, hj0, hj1, hjt', hjt, t9, markNodes])
    |(refine Split.by2 (fun h=>?_) (fun h=>?_)<;>(simp [h, vl, hrl, hri, hlen, w1, w2, w3, hjn, hj0, hj1, hjt', hjt, t9, markNodes]))
    |refine ct rfl ?_|refine cf rfl ?_|refine cnd rfl (fun h=>?_) (fun h=>?_)|refine cd rfl (fun h=>?_) (fun h=>?_)|refine cn rfl (fun h=>?_) (fun h=>?_)|refine cc rfl (fun h=>?_) (fun h=>?_)
    |(apply hK;clear hK K)|(refine AWh (by assumption) ?_))
    refine ⟨j + 1, by omega, by omega, ?_⟩
    apply Weak.mk' <;> simp [vl]
    omega
  · have hje : j = 9 := by omega
    subst hje
    repeat' (first
    |refine AW_seq_k fun K hK=>?_|refine Step.by1 ?_|refine SBlock_exit_ne (by decide) ?_
    |((first|refine AW_region_AO ?_);simp [vl, t9])
    |(refine Split.by2 (fun h=>?_) (fun h=>?_)<;>(simp [h, vl, t9]))
    |refine ct rfl ?_|refine cf rfl ?_|refine cnd rfl (fun h=>?_) (fun h=>?_)|refine cd rfl (fun h=>?_) (fun h=>?_)|refine cn rfl (fun h=>?_) (fun h=>?_)|refine cc rfl (fun h=>?_) (fun h=>?_)
    |(apply hK;clear hK K)|(refine AWh (by assumption) ?_))
    exact retq1 (conv_eq rfl rfl)

end Go.Proofs.YtgmlimipejcpgaaGreatDoor
end
