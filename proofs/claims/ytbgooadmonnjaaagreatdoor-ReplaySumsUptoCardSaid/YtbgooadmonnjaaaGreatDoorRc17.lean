/-
  YtbgooadmonnjaaaGreatDoorRc17: steps of the proof of a law of the program: what these texts prove holds under the hypotheses that their theorems name, and no others.
-/
import Derived.Test.YtbgooadmonnjaaaGreatDoorRc16
import Derived.Test.YtbgooadmonnjaaaGreatDoorRc11
import Derived.Test.YtbgooadmonnjaaaGreatDoorRc15
import Derived.Test.YtbgooadmonnjaaaGreatDoorRc07
import Derived.Test.YtbgooadmonnjaaaGreatDoorRc12
import Derived.Test.YtbgooadmonnjaaaGreatDoorRc10
section
set_option linter.unusedSimpArgs false
set_option linter.unusedVariables false
namespace Go.Proofs.YtbgooadmonnjaaaGreatDoor
open Go Go.AM Fx
def rowWG : List (List V) := [[.fn (.func 177) [] []], [.fn (.func 178) [] [.ptr 0 0]], [.fn (.func 179) [] [.ptr 0 0]], [.fn (.func 181) [] []], [.fn (.func 183) [] [.ptr 0 0]]]
set_option maxRecDepth 20000 in
set_option maxHeartbeats 16000000 in
theorem c_WholeGoal (n : NetD) (hn : n.ok) (g : List PartD) (hg : okGoal g) : PC 113 [.agg n.cells, vl PartD.cells g] (.int .i64 (wholeGoalE n g)) := by
  have h0 := c_Whole n hn
  obtain ⟨hg1, hg2⟩ := hg
  obtain ⟨r, hr⟩ : ∃ r, wholeGoalE n g = r := ⟨_, rfl⟩
  rw [hr]
  unfold wholeGoalE at hr
  rw [fC, fC] at hr
  generalize wholeE n = e0 at *
  simp only [vl, NetD.cells] at h0
  refine pB Tryz.func113 rfl (by decide) Tryz.ntmps113 (by simp) Tryz.results113 ?_
  by_cases hz : e0 = 0
  · rw [if_neg (by simp [hz])] at hr
    rw [hz] at h0
    by_cases hlong : 16 < g.length
    · rw [if_pos hlong, if_pos (by decide)] at hr
      have hl' : (16 : Int) < g.length := by omega
      repeat' (first
 |refine aK fun K hK=>?_|refine Step.by1 ?_|refine sE (by decide) ?_|refine cz rfl ?_|refine Fork.by2 (fun h=>?_) fun h=>?_
 |((first|refine aR ?_|refine aC (f:=176) rfl rfl (h0) rfl rfl rfl ?_);simp [vl, NetD.cells, hlong, hl'])
 |(refine Split.by2 (fun h=>?_) (fun h=>?_)<;>(simp [h, vl, NetD.cells, hlong, hl']))
 |(apply hK;clear hK K)|refine AWh ‹_› ?_)
      exact r1q (cE (by rw [← hr]; rfl) rfl)
    · rw [if_neg hlong, if_neg (by decide)] at hr
      have hl' : ¬ (16 : Int) < g.length := by omega
      obtain ⟨e1, he1⟩ : ∃ e1, goF g1E g = e1 := ⟨_, rfl⟩
      obtain ⟨e2, he2⟩ : ∃ e2, goF (g2E n) g = e2 := ⟨_, rfl⟩
      obtain ⟨e3, he3⟩ : ∃ e3, goF (fun p => clkE n p.guards) g = e3 := ⟨_, rfl⟩
      obtain ⟨e4, he4⟩ : ∃ e4, goF (fun p => cmpE p.guards) g = e4 := ⟨_, rfl⟩
      obtain ⟨e5, he5⟩ : ∃ e5, goF (fun p => truthE n p.test) g = e5 := ⟨_, rfl⟩
      rw [he1, he2, he3, he4, he5] at hr
      repeat' (first
 |refine aK fun K hK=>?_|refine Step.by1 ?_|refine sE (by decide) ?_|refine cz rfl ?_|refine Fork.by2 (fun h=>?_) fun h=>?_
 |((first|refine aR ?_|refine aC (f:=176) rfl rfl (h0) rfl rfl rfl ?_);simp [vl, NetD.cells, hlong, hl'])
 |(refine Split.by2 (fun h=>?_) (fun h=>?_)<;>(simp [h, vl, NetD.cells, hlong, hl']))
 |(apply hK;clear hK K)|refine AWh ‹_› ?_)
      refine aL [1, 24, 25] (fun i : Nat => [(26, .int .i64 i)]) (fun _ => [.var n.cells, .row 266 0 0 false rowWG]) (fun i => i ≤ 5 ∧ firstE ([e1, e2, e3, e4, e5].drop i) = r) (fun i => 5 - i) 0 ⟨Nat.zero_le _, hr⟩ (by apply Weak.mk' <;> simp [vl, NetD.cells, rowWG]) (fun _ _ => rfl) ?_
      clear hr
      rintro i ⟨hi, hF⟩
      rcases i with _ | _ | _ | _ | _ | _ | i
      · rw [show [e1, e2, e3, e4, e5].drop 0 = e1 :: [e1, e2, e3, e4, e5].drop 1 from rfl, fC] at hF
        repeat' (first
 |refine aK fun K hK=>?_|refine Step.by1 ?_|refine sE (by decide) ?_|refine cz rfl ?_|refine Fork.by2 (fun h=>?_) fun h=>?_
 |(refine aR ?_;simp [vl, NetD.cells, rowWG, wI];try (simp (disch:=omega) only [wI];try simp [vl, NetD.cells, rowWG, wI]))
 |(refine Split.by2 (fun h=>?_) (fun h=>?_)<;>(simp [h, vl, NetD.cells, rowWG, wI];try (simp (disch:=omega) only [wI];try simp [vl, NetD.cells, rowWG, wI])))
 |(apply hK;clear hK K)|refine AWh ‹_› ?_)
        refine aS1 (r := e1) g 32 [1, 8, 24, 25, 26, 30, 31] (goF g1E) he1 (by apply Weak.mk' <;> simp [vl, NetD.cells, rowWG]) ?_ ?_
        · intro m p _ hlt hp hG
          rw [goF_cons] at hG
          have hpo := hg2 p (hp ▸ List.getElem_mem hlt)
          have hc := c_WG1 p
          have hlt' : (m : Int) < g.length := by omega
          have w1 : IntKind.i64.wrap ((m : Int) + 1) = m + 1 := wI (by omega) (by omega)
          simp only [PartD.cells, vl] at hc
          generalize g1E p = q at *
          by_cases hq0 : q = 0
          · rw [if_neg (by simp [hq0])] at hG
            rw [hq0] at hc
            repeat' (first
 |refine aK fun K hK=>?_|refine Step.by1 ?_|refine sE (by decide) ?_|refine cz rfl ?_|refine Fork.by2 (fun h=>?_) fun h=>?_
 |(refine aR ?_;simp [vl, NetD.cells, PartD.cells, rowWG, hlt, hlt', hp, w1])
 |(refine Split.by2 (fun h=>?_) (fun h=>?_)<;>(simp [h, vl, NetD.cells, PartD.cells, rowWG, hlt, hlt', hp, w1]))
 |(refine aC (f := 177) rfl rfl hc rfl rfl rfl ?_; simp [hq0])
 |(apply hK;clear hK K)|refine AWh ‹_› ?_)
            refine ⟨hG, ?_⟩; apply Weak.mk' <;> simp [vl, NetD.cells, rowWG]
          · rw [if_pos hq0] at hG
            subst hG
            rw [if_pos hq0] at hF
            repeat' (first
 |refine aK fun K hK=>?_|refine Step.by1 ?_|refine sE (by decide) ?_|refine cz rfl ?_|refine Fork.by2 (fun h=>?_) fun h=>?_
 |(refine aR ?_;simp [vl, NetD.cells, PartD.cells, rowWG, hlt, hlt', hp, w1, hq0])
 |(refine Split.by2 (fun h=>?_) (fun h=>?_)<;>(simp [h, vl, NetD.cells, PartD.cells, rowWG, hlt, hlt', hp, w1, hq0]))
 |(refine aC (f := 177) rfl rfl hc rfl rfl rfl ?_; simp [hq0])
 |(apply hK;clear hK K)|refine AWh ‹_› ?_)
            exact r1q (cE (by rw [← hF]; rfl) rfl)
        · intro hG
          rw [goF_nil] at hG
          rw [if_neg (by simp [← hG])] at hF
          repeat' (first
 |refine aK fun K hK=>?_|refine Step.by1 ?_|refine sE (by decide) ?_|refine cz rfl ?_|refine Fork.by2 (fun h=>?_) fun h=>?_
 |(refine aR ?_;simp [vl, NetD.cells, rowWG, wI];try (simp (disch:=omega) only [wI];try simp [vl, NetD.cells, rowWG, wI]))
 |(refine Split.by2 (fun h=>?_) (fun h=>?_)<;>(simp [h, vl, NetD.cells, rowWG, wI];try (simp (disch:=omega) only [wI];try simp [vl, NetD.cells, rowWG, wI])))
 |(apply hK;clear hK K)|refine AWh ‹_› ?_)
          refine ⟨1, ⟨by omega, hF⟩, by omega, ?_⟩; apply Weak.mk' <;> simp [vl, NetD.cells, rowWG]
      · rw [show [e1, e2, e3, e4, e5].drop 1 = e2 :: [e1, e2, e3, e4, e5].drop 2 from rfl, fC] at hF
        repeat' (first
 |refine aK fun K hK=>?_|refine Step.by1 ?_|refine sE (by decide) ?_|refine cz rfl ?_|refine Fork.by2 (fun h=>?_) fun h=>?_
 |(refine aR ?_;simp [vl, NetD.cells, rowWG, wI];try (simp (disch:=omega) only [wI];try simp [vl, NetD.cells, rowWG, wI]))
 |(refine Split.by2 (fun h=>?_) (fun h=>?_)<;>(simp [h, vl, NetD.cells, rowWG, wI];try (simp (disch:=omega) only [wI];try simp [vl, NetD.cells, rowWG, wI])))
 |(apply hK;clear hK K)|refine AWh ‹_› ?_)
        refine aS1 (r := e2) g 32 [1, 8, 24, 25, 26, 30, 31] (goF (g2E n)) he2 (by apply Weak.mk' <;> simp [vl, NetD.cells, rowWG]) ?_ ?_
        · intro m p _ hlt hp hG
          rw [goF_cons] at hG
          have hpo := hg2 p (hp ▸ List.getElem_mem hlt)
          have hc := c_WG2 n hn p hpo [.row 266 0 0 false rowWG, .var p.cells] (by simp [PartD.cells, vl, rowWG])
          have hlt' : (m : Int) < g.length := by omega
          have w1 : IntKind.i64.wrap ((m : Int) + 1) = m + 1 := wI (by omega) (by omega)
          try simp only at hc
          generalize g2E n p = q at *
          by_cases hq0 : q = 0
          · rw [if_neg (by simp [hq0])] at hG
            rw [hq0] at hc
            repeat' (first
 |refine aK fun K hK=>?_|refine Step.by1 ?_|refine sE (by decide) ?_|refine cz rfl ?_|refine Fork.by2 (fun h=>?_) fun h=>?_
 |(refine aR ?_;simp [vl, NetD.cells, PartD.cells, rowWG, hlt, hlt', hp, w1])
 |(refine Split.by2 (fun h=>?_) (fun h=>?_)<;>(simp [h, vl, NetD.cells, PartD.cells, rowWG, hlt, hlt', hp, w1]))
 |(refine aG (f := 178) rfl rfl (hc.imp (by simp [PartD.cells, vl]) (by simp [NetD.cells, PartD.cells, vl, rowWG])) rfl (fun v h' hq => ?_); obtain ⟨rfl, rfl⟩ := hq; simp [vl, NetD.cells, PartD.cells, rowWG, hq0])
 |(apply hK;clear hK K)|refine AWh ‹_› ?_)
            refine ⟨hG, ?_⟩; apply Weak.mk' <;> simp [vl, NetD.cells, rowWG]
          · rw [if_pos hq0] at hG
            subst hG
            rw [if_pos hq0] at hF
            repeat' (first
 |refine aK fun K hK=>?_|refine Step.by1 ?_|refine sE (by decide) ?_|refine cz rfl ?_|refine Fork.by2 (fun h=>?_) fun h=>?_
 |(refine aR ?_;simp [vl, NetD.cells, PartD.cells, rowWG, hlt, hlt', hp, w1, hq0])
 |(refine Split.by2 (fun h=>?_) (fun h=>?_)<;>(simp [h, vl, NetD.cells, PartD.cells, rowWG, hlt, hlt', hp, w1, hq0]))
 |(refine aG (f := 178) rfl rfl (hc.imp (by simp [PartD.cells, vl]) (by simp [NetD.cells, PartD.cells, vl, rowWG])) rfl (fun v h' hq => ?_); obtain ⟨rfl, rfl⟩ := hq; simp [vl, NetD.cells, PartD.cells, rowWG, hq0])
 |(apply hK;clear hK K)|refine AWh ‹_› ?_)
            exact r1q (cE (by rw [← hF]; rfl) rfl)
        · intro hG
          rw [goF_nil] at hG
          rw [if_neg (by simp [← hG])] at hF
          repeat' (first
 |refine aK fun K hK=>?_|refine Step.by1 ?_|refine sE (by decide) ?_|refine cz rfl ?_|refine Fork.by2 (fun h=>?_) fun h=>?_
 |(refine aR ?_;simp [vl, NetD.cells, rowWG, wI];try (simp (disch:=omega) only [wI];try simp [vl, NetD.cells, rowWG, wI]))
 |(refine Split.by2 (fun h=>?_) (fun h=>?_)<;>(simp [h, vl, NetD.cells, rowWG, wI];try (simp (disch:=omega) only [wI];try simp [vl, NetD.cells, rowWG, wI])))
 |(apply hK;clear hK K)|refine AWh ‹_› ?_)
          refine ⟨2, ⟨by omega, hF⟩, by omega, ?_⟩; apply Weak.mk' <;> simp [vl, NetD.cells, rowWG]
      · rw [show [e1, e2, e3, e4, e5].drop 2 = e3 :: [e1, e2, e3, e4, e5].drop 3 from rfl, fC] at hF
        repeat' (first
 |refine aK fun K hK=>?_|refine Step.by1 ?_|refine sE (by decide) ?_|refine cz rfl ?_|refine Fork.by2 (fun h=>?_) fun h=>?_
 |(refine aR ?_;simp [vl, NetD.cells, rowWG, wI];try (simp (disch:=omega) only [wI];try simp [vl, NetD.cells, rowWG, wI]))
 |(refine Split.by2 (fun h=>?_) (fun h=>?_)<;>(simp [h, vl, NetD.cells, rowWG, wI];try (simp (disch:=omega) only [wI];try simp [vl, NetD.cells, rowWG, wI])))
 |(apply hK;clear hK K)|refine AWh ‹_› ?_)
        refine aS1 (r := e3) g 32 [1, 8, 24, 25, 26, 30, 31] (goF (fun p => clkE n p.guards)) he3 (by apply Weak.mk' <;> simp [vl, NetD.cells, rowWG]) ?_ ?_
        · intro m p _ hlt hp hG
          rw [goF_cons] at hG
          have hpo := hg2 p (hp ▸ List.getElem_mem hlt)
          have hc := c_WG3 n p hpo [.row 266 0 0 false rowWG, .var p.cells]
          have hlt' : (m : Int) < g.length := by omega
          have w1 : IntKind.i64.wrap ((m : Int) + 1) = m + 1 := wI (by omega) (by omega)
          try simp only at hc
          generalize clkE n p.guards = q at *
          by_cases hq0 : q = 0
          · rw [if_neg (by simp [hq0])] at hG
            rw [hq0] at hc
            repeat' (first
 |refine aK fun K hK=>?_|refine Step.by1 ?_|refine sE (by decide) ?_|refine cz rfl ?_|refine Fork.by2 (fun h=>?_) fun h=>?_
 |(refine aR ?_;simp [vl, NetD.cells, PartD.cells, rowWG, hlt, hlt', hp, w1])
 |(refine Split.by2 (fun h=>?_) (fun h=>?_)<;>(simp [h, vl, NetD.cells, PartD.cells, rowWG, hlt, hlt', hp, w1]))
 |(refine aG (f := 179) rfl rfl (hc.imp (by simp [PartD.cells, vl]) (by simp [NetD.cells, PartD.cells, vl, rowWG])) rfl (fun v h' hq => ?_); obtain ⟨rfl, rfl⟩ := hq; simp [vl, NetD.cells, PartD.cells, rowWG, hq0])
 |(apply hK;clear hK K)|refine AWh ‹_› ?_)
            refine ⟨hG, ?_⟩; apply Weak.mk' <;> simp [vl, NetD.cells, rowWG]
          · rw [if_pos hq0] at hG
            subst hG
            rw [if_pos hq0] at hF
            repeat' (first
 |refine aK fun K hK=>?_|refine Step.by1 ?_|refine sE (by decide) ?_|refine cz rfl ?_|refine Fork.by2 (fun h=>?_) fun h=>?_
 |(refine aR ?_;simp [vl, NetD.cells, PartD.cells, rowWG, hlt, hlt', hp, w1, hq0])
 |(refine Split.by2 (fun h=>?_) (fun h=>?_)<;>(simp [h, vl, NetD.cells, PartD.cells, rowWG, hlt, hlt', hp, w1, hq0]))
 |(refine aG (f := 179) rfl rfl (hc.imp (by simp [PartD.cells, vl]) (by simp [NetD.cells, PartD.cells, vl, rowWG])) rfl (fun v h' hq => ?_); obtain ⟨rfl, rfl⟩ := hq; simp [vl, NetD.cells, PartD.cells, rowWG, hq0])
 |(apply hK;clear hK K)|refine AWh ‹_› ?_)
            exact r1q (cE (by rw [← hF]; rfl) rfl)
        · intro hG
          rw [goF_nil] at hG
          rw [if_neg (by simp [← hG])] at hF
          repeat' (first
 |refine aK fun K hK=>?_|refine Step.by1 ?_|refine sE (by decide) ?_|refine cz rfl ?_|refine Fork.by2 (fun h=>?_) fun h=>?_
 |(refine aR ?_;simp [vl, NetD.cells, rowWG, wI];try (simp (disch:=omega) only [wI];try simp [vl, NetD.cells, rowWG, wI]))
 |(refine Split.by2 (fun h=>?_) (fun h=>?_)<;>(simp [h, vl, NetD.cells, rowWG, wI];try (simp (disch:=omega) only [wI];try simp [vl, NetD.cells, rowWG, wI])))
 |(apply hK;clear hK K)|refine AWh ‹_› ?_)
          refine ⟨3, ⟨by omega, hF⟩, by omega, ?_⟩; apply Weak.mk' <;> simp [vl, NetD.cells, rowWG]
      · rw [show [e1, e2, e3, e4, e5].drop 3 = e4 :: [e1, e2, e3, e4, e5].drop 4 from rfl, fC] at hF
        repeat' (first
 |refine aK fun K hK=>?_|refine Step.by1 ?_|refine sE (by decide) ?_|refine cz rfl ?_|refine Fork.by2 (fun h=>?_) fun h=>?_
 |(refine aR ?_;simp [vl, NetD.cells, rowWG, wI];try (simp (disch:=omega) only [wI];try simp [vl, NetD.cells, rowWG, wI]))
 |(refine Split.by2 (fun h=>?_) (fun h=>?_)<;>(simp [h, vl, NetD.cells, rowWG, wI];try (simp (disch:=omega) only [wI];try simp [vl, NetD.cells, rowWG, wI])))
 |(apply hK;clear hK K)|refine AWh ‹_› ?_)
        refine aS1 (r := e4) g 32 [1, 8, 24, 25, 26, 30, 31] (goF (fun p => cmpE p.guards)) he4 (by apply Weak.mk' <;> simp [vl, NetD.cells, rowWG]) ?_ ?_
        · intro m p _ hlt hp hG
          rw [goF_cons] at hG
          have hpo := hg2 p (hp ▸ List.getElem_mem hlt)
          have hc := c_WG4 p hpo
          have hlt' : (m : Int) < g.length := by omega
          have w1 : IntKind.i64.wrap ((m : Int) + 1) = m + 1 := wI (by omega) (by omega)
          simp only [PartD.cells, vl] at hc
          generalize cmpE p.guards = q at *
          by_cases hq0 : q = 0
          · rw [if_neg (by simp [hq0])] at hG
            rw [hq0] at hc
            repeat' (first
 |refine aK fun K hK=>?_|refine Step.by1 ?_|refine sE (by decide) ?_|refine cz rfl ?_|refine Fork.by2 (fun h=>?_) fun h=>?_
 |(refine aR ?_;simp [vl, NetD.cells, PartD.cells, rowWG, hlt, hlt', hp, w1])
 |(refine Split.by2 (fun h=>?_) (fun h=>?_)<;>(simp [h, vl, NetD.cells, PartD.cells, rowWG, hlt, hlt', hp, w1]))
 |(refine aC (f := 181) rfl rfl hc rfl rfl rfl ?_; simp [hq0])
 |(apply hK;clear hK K)|refine AWh ‹_› ?_)
            refine ⟨hG, ?_⟩; apply Weak.mk' <;> simp [vl, NetD.cells, rowWG]
          · rw [if_pos hq0] at hG
            subst hG
            rw [if_pos hq0] at hF
            repeat' (first
 |refine aK fun K hK=>?_|refine Step.by1 ?_|refine sE (by decide) ?_|refine cz rfl ?_|refine Fork.by2 (fun h=>?_) fun h=>?_
 |(refine aR ?_;simp [vl, NetD.cells, PartD.cells, rowWG, hlt, hlt', hp, w1, hq0])
 |(refine Split.by2 (fun h=>?_) (fun h=>?_)<;>(simp [h, vl, NetD.cells, PartD.cells, rowWG, hlt, hlt', hp, w1, hq0]))
 |(refine aC (f := 181) rfl rfl hc rfl rfl rfl ?_; simp [hq0])
 |(apply hK;clear hK K)|refine AWh ‹_› ?_)
            exact r1q (cE (by rw [← hF]; rfl) rfl)
        · intro hG
          rw [goF_nil] at hG
          rw [if_neg (by simp [← hG])] at hF
          repeat' (first
 |refine aK fun K hK=>?_|refine Step.by1 ?_|refine sE (by decide) ?_|refine cz rfl ?_|refine Fork.by2 (fun h=>?_) fun h=>?_
 |(refine aR ?_;simp [vl, NetD.cells, rowWG, wI];try (simp (disch:=omega) only [wI];try simp [vl, NetD.cells, rowWG, wI]))
 |(refine Split.by2 (fun h=>?_) (fun h=>?_)<;>(simp [h, vl, NetD.cells, rowWG, wI];try (simp (disch:=omega) only [wI];try simp [vl, NetD.cells, rowWG, wI])))
 |(apply hK;clear hK K)|refine AWh ‹_› ?_)
          refine ⟨4, ⟨by omega, hF⟩, by omega, ?_⟩; apply Weak.mk' <;> simp [vl, NetD.cells, rowWG]
      · rw [show [e1, e2, e3, e4, e5].drop 4 = e5 :: [e1, e2, e3, e4, e5].drop 5 from rfl, fC] at hF
        repeat' (first
 |refine aK fun K hK=>?_|refine Step.by1 ?_|refine sE (by decide) ?_|refine cz rfl ?_|refine Fork.by2 (fun h=>?_) fun h=>?_
 |(refine aR ?_;simp [vl, NetD.cells, rowWG, wI];try (simp (disch:=omega) only [wI];try simp [vl, NetD.cells, rowWG, wI]))
 |(refine Split.by2 (fun h=>?_) (fun h=>?_)<;>(simp [h, vl, NetD.cells, rowWG, wI];try (simp (disch:=omega) only [wI];try simp [vl, NetD.cells, rowWG, wI])))
 |(apply hK;clear hK K)|refine AWh ‹_› ?_)
        refine aS1 (r := e5) g 32 [1, 8, 24, 25, 26, 30, 31] (goF (fun p => truthE n p.test)) he5 (by apply Weak.mk' <;> simp [vl, NetD.cells, rowWG]) ?_ ?_
        · intro m p _ hlt hp hG
          rw [goF_cons] at hG
          have hpo := hg2 p (hp ▸ List.getElem_mem hlt)
          have hc := c_WG5 n hn p hpo [.row 266 0 0 false rowWG, .var p.cells]
          have hlt' : (m : Int) < g.length := by omega
          have w1 : IntKind.i64.wrap ((m : Int) + 1) = m + 1 := wI (by omega) (by omega)
          try simp only at hc
          generalize truthE n p.test = q at *
          by_cases hq0 : q = 0
          · rw [if_neg (by simp [hq0])] at hG
            rw [hq0] at hc
            repeat' (first
 |refine aK fun K hK=>?_|refine Step.by1 ?_|refine sE (by decide) ?_|refine cz rfl ?_|refine Fork.by2 (fun h=>?_) fun h=>?_
 |(refine aR ?_;simp [vl, NetD.cells, PartD.cells, rowWG, hlt, hlt', hp, w1])
 |(refine Split.by2 (fun h=>?_) (fun h=>?_)<;>(simp [h, vl, NetD.cells, PartD.cells, rowWG, hlt, hlt', hp, w1]))
 |(refine aG (f := 183) rfl rfl (hc.imp (by simp [PartD.cells, vl]) (by simp [NetD.cells, PartD.cells, vl, rowWG])) rfl (fun v h' hq => ?_); obtain ⟨rfl, rfl⟩ := hq; simp [vl, NetD.cells, PartD.cells, rowWG, hq0])
 |(apply hK;clear hK K)|refine AWh ‹_› ?_)
            refine ⟨hG, ?_⟩; apply Weak.mk' <;> simp [vl, NetD.cells, rowWG]
          · rw [if_pos hq0] at hG
            subst hG
            rw [if_pos hq0] at hF
            repeat' (first
 |refine aK fun K hK=>?_|refine Step.by1 ?_|refine sE (by decide) ?_|refine cz rfl ?_|refine Fork.by2 (fun h=>?_) fun h=>?_
 |(refine aR ?_;simp [vl, NetD.cells, PartD.cells, rowWG, hlt, hlt', hp, w1, hq0])
 |(refine Split.by2 (fun h=>?_) (fun h=>?_)<;>(simp [h, vl, NetD.cells, PartD.cells, rowWG, hlt, hlt', hp, w1, hq0]))
 |(refine aG (f := 183) rfl rfl (hc.imp (by simp [PartD.cells, vl]) (by simp [NetD.cells, PartD.cells, vl, rowWG])) rfl (fun v h' hq => ?_); obtain ⟨rfl, rfl⟩ := hq; simp [vl, NetD.cells, PartD.cells, rowWG, hq0])
 |(apply hK;clear hK K)|refine AWh ‹_› ?_)
            exact r1q (cE (by rw [← hF]; rfl) rfl)
        · intro hG
          rw [goF_nil] at hG
          rw [if_neg (by simp [← hG])] at hF
          repeat' (first
 |refine aK fun K hK=>?_|refine Step.by1 ?_|refine sE (by decide) ?_|refine cz rfl ?_|refine Fork.by2 (fun h=>?_) fun h=>?_
 |(refine aR ?_;simp [vl, NetD.cells, rowWG, wI];try (simp (disch:=omega) only [wI];try simp [vl, NetD.cells, rowWG, wI]))
 |(refine Split.by2 (fun h=>?_) (fun h=>?_)<;>(simp [h, vl, NetD.cells, rowWG, wI];try (simp (disch:=omega) only [wI];try simp [vl, NetD.cells, rowWG, wI])))
 |(apply hK;clear hK K)|refine AWh ‹_› ?_)
          refine ⟨5, ⟨by omega, hF⟩, by omega, ?_⟩; apply Weak.mk' <;> simp [vl, NetD.cells, rowWG]
      · repeat' (first
 |refine aK fun K hK=>?_|refine Step.by1 ?_|refine sE (by decide) ?_|refine cz rfl ?_|refine Fork.by2 (fun h=>?_) fun h=>?_
 |(refine aR ?_;simp [vl, NetD.cells, rowWG])
 |(refine Split.by2 (fun h=>?_) (fun h=>?_)<;>(simp [h, vl, NetD.cells, rowWG]))
 |(apply hK;clear hK K)|refine AWh ‹_› ?_)
        exact r1q (cE (by rw [← hF]; rfl) rfl)
      · omega
  · rw [if_pos hz] at hr
    subst hr
    repeat' (first
 |refine aK fun K hK=>?_|refine Step.by1 ?_|refine sE (by decide) ?_|refine cz rfl ?_|refine Fork.by2 (fun h=>?_) fun h=>?_
 |((first|refine aR ?_|refine aC (f:=176) rfl rfl (h0) rfl rfl rfl ?_);simp [vl, NetD.cells, hz])
 |(refine Split.by2 (fun h=>?_) (fun h=>?_)<;>(simp [h, vl, NetD.cells, hz]))
 |(apply hK;clear hK K)|refine AWh ‹_› ?_)
    exact r1q (cE rfl rfl)
set_option maxRecDepth 20000 in
set_option maxHeartbeats 16000000 in
theorem c_Goal (n : NetD) (hn : n.ok) (g : List PartD) (hg : okGoal g) : PC 41 [.agg n.cells, vl PartD.cells g] (.int .i64 (goalE n g)) := by
  have h0 := c_Net n hn
  have h1 := c_WholeGoal n hn g hg
  obtain ⟨hg1, hg2⟩ := hg
  obtain ⟨r, hr⟩ : ∃ r, goalE n g = r := ⟨_, rfl⟩
  rw [hr]
  unfold goalE at hr
  rw [fC, fC] at hr
  generalize netE n = e0 at *
  generalize wholeGoalE n g = e9 at *
  simp only [vl, NetD.cells] at h0 h1
  refine pB Tryz.func41 rfl (by decide) Tryz.ntmps41 (by simp) Tryz.results41 ?_
  by_cases hz : e0 = 0
  · rw [if_neg (by simp [hz])] at hr
    rw [hz] at h0
    by_cases hz9 : e9 = 0
    · rw [if_neg (by simp [hz9])] at hr
      rw [hz9] at h1
      obtain ⟨e1, he1⟩ : ∃ e1, goF (fun p => diagE p.guards) g = e1 := ⟨_, rfl⟩
      obtain ⟨e2, he2⟩ : ∃ e2, goF (fun p => greatE p.guards) g = e2 := ⟨_, rfl⟩
      rw [he1, he2] at hr
      repeat' (first
 |refine aK fun K hK=>?_|refine Step.by1 ?_|refine sE (by decide) ?_|refine cz rfl ?_|refine Fork.by2 (fun h=>?_) fun h=>?_
 |((first|refine aR ?_|refine aC (f:=112) rfl rfl (h0) rfl rfl rfl ?_|refine aC (f:=113) rfl rfl (h1) rfl rfl rfl ?_);simp [vl, NetD.cells])
 |(refine Split.by2 (fun h=>?_) (fun h=>?_)<;>(simp [h, vl, NetD.cells]))
 |(apply hK;clear hK K)|refine AWh ‹_› ?_)
      refine aL [1, 23, 24] (fun i : Nat => [(25, .int .i64 i)]) (fun _ => [.var n.cells, .row 194 0 0 true [[.fn (.func 114) [] []], [.fn (.func 115) [] []]]]) (fun i => i ≤ 2 ∧ firstE ([e1, e2].drop i) = r) (fun i => 2 - i) 0 ⟨Nat.zero_le _, hr⟩ (by apply Weak.mk' <;> simp [vl, NetD.cells]) (fun _ _ => rfl) ?_
      clear hr
      rintro i ⟨hi, hF⟩
      rcases i with _ | _ | _ | i
      · rw [show [e1, e2].drop 0 = e1 :: [e1, e2].drop 1 from rfl, fC] at hF
        repeat' (first
 |refine aK fun K hK=>?_|refine Step.by1 ?_|refine sE (by decide) ?_|refine cz rfl ?_|refine Fork.by2 (fun h=>?_) fun h=>?_
 |(refine aR ?_;simp [vl, NetD.cells, wI];try (simp (disch:=omega) only [wI];try simp [vl, NetD.cells, wI]))
 |(refine Split.by2 (fun h=>?_) (fun h=>?_)<;>(simp [h, vl, NetD.cells, wI];try (simp (disch:=omega) only [wI];try simp [vl, NetD.cells, wI])))
 |(apply hK;clear hK K)|refine AWh ‹_› ?_)
        refine aS1 (r := e1) g 31 [1, 8, 23, 24, 25, 29, 30] (goF (fun p => diagE p.guards)) he1 (by apply Weak.mk' <;> simp [vl, NetD.cells]) ?_ ?_
        · intro m p _ hlt hp hG
          rw [goF_cons] at hG
          have hpo := hg2 p (hp ▸ List.getElem_mem hlt)
          have hc := c_diagE p.guards (by have := hpo.2.1.1; omega)
          have hlt' : (m : Int) < g.length := by omega
          have w1 : IntKind.i64.wrap ((m : Int) + 1) = m + 1 := wI (by omega) (by omega)
          simp only [vl] at hc
          generalize diagE p.guards = q at *
          by_cases hq0 : q = 0
          · rw [if_neg (by simp [hq0])] at hG
            rw [hq0] at hc
            repeat' (first
 |refine aK fun K hK=>?_|refine Step.by1 ?_|refine sE (by decide) ?_|refine cz rfl ?_|refine Fork.by2 (fun h=>?_) fun h=>?_
 |((first|refine aR ?_|refine aC (f:=114) rfl rfl (hc) rfl rfl rfl ?_);simp [vl, NetD.cells, PartD.cells, hlt, hlt', hp, w1])
 |(refine Split.by2 (fun h=>?_) (fun h=>?_)<;>(simp [h, vl, NetD.cells, PartD.cells, hlt, hlt', hp, w1]))
 |(apply hK;clear hK K)|refine AWh ‹_› ?_)
            refine ⟨hG, ?_⟩; apply Weak.mk' <;> simp [vl, NetD.cells]
          · rw [if_pos hq0] at hG
            subst hG
            rw [if_pos hq0] at hF
            repeat' (first
 |refine aK fun K hK=>?_|refine Step.by1 ?_|refine sE (by decide) ?_|refine cz rfl ?_|refine Fork.by2 (fun h=>?_) fun h=>?_
 |((first|refine aR ?_|refine aC (f:=114) rfl rfl (hc) rfl rfl rfl ?_);simp [vl, NetD.cells, PartD.cells, hlt, hlt', hp, w1, hq0])
 |(refine Split.by2 (fun h=>?_) (fun h=>?_)<;>(simp [h, vl, NetD.cells, PartD.cells, hlt, hlt', hp, w1, hq0]))
 |(apply hK;clear hK K)|refine AWh ‹_› ?_)
            exact r1q (cE (by rw [← hF]; rfl) rfl)
        · intro hG
          rw [goF_nil] at hG
          rw [if_neg (by simp [← hG])] at hF
          repeat' (first
 |refine aK fun K hK=>?_|refine Step.by1 ?_|refine sE (by decide) ?_|refine cz rfl ?_|refine Fork.by2 (fun h=>?_) fun h=>?_
 |(refine aR ?_;simp [vl, NetD.cells, wI];try (simp (disch:=omega) only [wI];try simp [vl, NetD.cells, wI]))
 |(refine Split.by2 (fun h=>?_) (fun h=>?_)<;>(simp [h, vl, NetD.cells, wI];try (simp (disch:=omega) only [wI];try simp [vl, NetD.cells, wI])))
 |(apply hK;clear hK K)|refine AWh ‹_› ?_)
          refine ⟨1, ⟨by omega, hF⟩, by omega, ?_⟩; apply Weak.mk' <;> simp [vl, NetD.cells]
      · rw [show [e1, e2].drop 1 = e2 :: [e1, e2].drop 2 from rfl, fC] at hF
        repeat' (first
 |refine aK fun K hK=>?_|refine Step.by1 ?_|refine sE (by decide) ?_|refine cz rfl ?_|refine Fork.by2 (fun h=>?_) fun h=>?_
 |(refine aR ?_;simp [vl, NetD.cells, wI];try (simp (disch:=omega) only [wI];try simp [vl, NetD.cells, wI]))
 |(refine Split.by2 (fun h=>?_) (fun h=>?_)<;>(simp [h, vl, NetD.cells, wI];try (simp (disch:=omega) only [wI];try simp [vl, NetD.cells, wI])))
 |(apply hK;clear hK K)|refine AWh ‹_› ?_)
        refine aS1 (r := e2) g 31 [1, 8, 23, 24, 25, 29, 30] (goF (fun p => greatE p.guards)) he2 (by apply Weak.mk' <;> simp [vl, NetD.cells]) ?_ ?_
        · intro m p _ hlt hp hG
          rw [goF_cons] at hG
          have hpo := hg2 p (hp ▸ List.getElem_mem hlt)
          have hc := c_greatE p.guards (by have := hpo.2.1.1; omega)
          have hlt' : (m : Int) < g.length := by omega
          have w1 : IntKind.i64.wrap ((m : Int) + 1) = m + 1 := wI (by omega) (by omega)
          simp only [vl] at hc
          generalize greatE p.guards = q at *
          by_cases hq0 : q = 0
          · rw [if_neg (by simp [hq0])] at hG
            rw [hq0] at hc
            repeat' (first
 |refine aK fun K hK=>?_|refine Step.by1 ?_|refine sE (by decide) ?_|refine cz rfl ?_|refine Fork.by2 (fun h=>?_) fun h=>?_
 |((first|refine aR ?_|refine aC (f:=115) rfl rfl (hc) rfl rfl rfl ?_);simp [vl, NetD.cells, PartD.cells, hlt, hlt', hp, w1])
 |(refine Split.by2 (fun h=>?_) (fun h=>?_)<;>(simp [h, vl, NetD.cells, PartD.cells, hlt, hlt', hp, w1]))
 |(apply hK;clear hK K)|refine AWh ‹_› ?_)
            refine ⟨hG, ?_⟩; apply Weak.mk' <;> simp [vl, NetD.cells]
          · rw [if_pos hq0] at hG
            subst hG
            rw [if_pos hq0] at hF
            repeat' (first
 |refine aK fun K hK=>?_|refine Step.by1 ?_|refine sE (by decide) ?_|refine cz rfl ?_|refine Fork.by2 (fun h=>?_) fun h=>?_
 |((first|refine aR ?_|refine aC (f:=115) rfl rfl (hc) rfl rfl rfl ?_);simp [vl, NetD.cells, PartD.cells, hlt, hlt', hp, w1, hq0])
 |(refine Split.by2 (fun h=>?_) (fun h=>?_)<;>(simp [h, vl, NetD.cells, PartD.cells, hlt, hlt', hp, w1, hq0]))
 |(apply hK;clear hK K)|refine AWh ‹_› ?_)
            exact r1q (cE (by rw [← hF]; rfl) rfl)
        · intro hG
          rw [goF_nil] at hG
          rw [if_neg (by simp [← hG])] at hF
          repeat' (first
 |refine aK fun K hK=>?_|refine Step.by1 ?_|refine sE (by decide) ?_|refine cz rfl ?_|refine Fork.by2 (fun h=>?_) fun h=>?_
 |(refine aR ?_;simp [vl, NetD.cells, wI];try (simp (disch:=omega) only [wI];try simp [vl, NetD.cells, wI]))
 |(refine Split.by2 (fun h=>?_) (fun h=>?_)<;>(simp [h, vl, NetD.cells, wI];try (simp (disch:=omega) only [wI];try simp [vl, NetD.cells, wI])))
 |(apply hK;clear hK K)|refine AWh ‹_› ?_)
          refine ⟨2, ⟨by omega, hF⟩, by omega, ?_⟩; apply Weak.mk' <;> simp [vl, NetD.cells]
      · repeat' (first
 |refine aK fun K hK=>?_|refine Step.by1 ?_|refine sE (by decide) ?_|refine cz rfl ?_|refine Fork.by2 (fun h=>?_) fun h=>?_
 |(refine aR ?_;simp [vl, NetD.cells])
 |(refine Split.by2 (fun h=>?_) (fun h=>?_)<;>(simp [h, vl, NetD.cells]))
 |(apply hK;clear hK K)|refine AWh ‹_› ?_)
        exact r1q (cE (by rw [← hF]; rfl) rfl)
      · omega
    · rw [if_pos hz9] at hr
      subst hr
      repeat' (first
 |refine aK fun K hK=>?_|refine Step.by1 ?_|refine sE (by decide) ?_|refine cz rfl ?_|refine Fork.by2 (fun h=>?_) fun h=>?_
 |((first|refine aR ?_|refine aC (f:=112) rfl rfl (h0) rfl rfl rfl ?_|refine aC (f:=113) rfl rfl (h1) rfl rfl rfl ?_);simp [vl, NetD.cells, hz9])
 |(refine Split.by2 (fun h=>?_) (fun h=>?_)<;>(simp [h, vl, NetD.cells, hz9]))
 |(apply hK;clear hK K)|refine AWh ‹_› ?_)
      exact r1q (cE rfl rfl)
  · rw [if_pos hz] at hr
    subst hr
    repeat' (first
 |refine aK fun K hK=>?_|refine Step.by1 ?_|refine sE (by decide) ?_|refine cz rfl ?_|refine Fork.by2 (fun h=>?_) fun h=>?_
 |((first|refine aR ?_|refine aC (f:=112) rfl rfl (h0) rfl rfl rfl ?_);simp [vl, NetD.cells, hz])
 |(refine Split.by2 (fun h=>?_) (fun h=>?_)<;>(simp [h, vl, NetD.cells, hz]))
 |(apply hK;clear hK K)|refine AWh ‹_› ?_)
    exact r1q (cE rfl rfl)
theorem fZ {x : Int} {l : List Int} (h : firstE (x :: l) = 0) : x = 0 ∧ firstE l = 0 := by
  rw [fC] at h
  by_cases hx : x = 0
  · rw [if_neg (by simp [hx])] at h; exact ⟨hx, h⟩
  · rw [if_pos hx] at h; exact absurd h hx
theorem netE_whole {n : NetD} (h : netE n = 0) : wholeE n = 0 := by
  unfold netE whereE at h
  by_cases hw : wholeE n = 0
  · exact hw
  · rw [if_pos hw] at h; exact absurd h hw
theorem clkE_zero {n : NetD} {l : List GuardD} (h : clkE n l = 0) : ∀ g ∈ l, clkG n g = false := by
  unfold clkE at h
  intro g hg
  cases hc : clkG n g
  · rfl
  · rw [if_pos (List.any_eq_true.2 ⟨g, hg, hc⟩)] at h; cases h
theorem okG_of {n : NetD} {l : List GuardD} (h : clkE n l = 0) : ∀ g ∈ l, okG n.clocks.length g := fun g hg => by
  have := clkE_zero h g hg
  unfold clkG isClk at this
  simp only [Bool.or_eq_false_iff, Bool.not_eq_false', decide_eq_true_eq] at this
  exact this.1
theorem whole_guards {n : NetD} (h : wholeE n = 0) : ∀ g ∈ guardsL n, okG n.clocks.length g := by
  unfold wholeE at h
  have h1 := (fZ (fZ (fZ (fZ (fZ (fZ (fZ h).2).2).2).2).2).2).1
  unfold clocksE at h1
  by_cases hc : clkE n (guardsL n) = 0
  · exact okG_of hc
  · rw [if_pos hc] at h1; exact absurd h1 hc
theorem goF_zero {f : PartD → Int} : ∀ {g : List PartD}, goF f g = 0 → ∀ p ∈ g, f p = 0
  | [], _, p, hp => by cases hp
  | q :: r, h, p, hp => by
    rw [goF_cons] at h
    by_cases hq : f q = 0
    · rw [if_neg (by simp [hq])] at h
      rcases List.mem_cons.1 hp with rfl | hp
      · exact hq
      · exact goF_zero h p hp
    · rw [if_pos hq] at h; exact absurd h hq
theorem goal_guards {n : NetD} {g : List PartD} (h : goalE n g = 0) : ∀ p ∈ g, ∀ x ∈ p.guards, okG n.clocks.length x := by
  unfold goalE at h
  have h1 := (fZ (fZ h).2).1
  unfold wholeGoalE at h1
  have h2 := (fZ (fZ (fZ (fZ (fZ h1).2).2).2).2).1
  exact fun p hp => okG_of (goF_zero h2 p hp)
end Go.Proofs.YtbgooadmonnjaaaGreatDoor
end
section
set_option linter.unusedVariables false
namespace Go.Proofs.YtbgooadmonnjaaaGreatDoor
open Go Go.AM

end Go.Proofs.YtbgooadmonnjaaaGreatDoor
end
section
set_option linter.unusedVariables false
set_option linter.unusedSimpArgs false
namespace Go.AM
section
variable {P : Program} {ge : GEnv} {st : St} {Q : Exit → St → Prop} {ops : Array Oper}
variable {d : Option Tmp} {t : TypeId} {p : String} {af : Array Edge} {g : Option (Nat × Bool)}
/-- The walk of a region whose slices are built frozen. -/
def AOL (P : Program) (ge : GEnv) (ops : Array Oper) (Q : Exit → St → Prop) : List Oper → St → Prop
  | [], st => Q .normal st
  | ⟨d, .buildSlice T len parts, _, _, _, none⟩ :: rest, st => dstOk st.n d = true ∧ bsOk P ge st T len parts ∧
      AOL P ge ops Q rest ⟨st.n, putD d (.vec (rowsV (List.replicate len (zeroD P (elemOf P T))) (partsV ge st.tm parts.toList)) len) st.tm, st.h⟩
  | ⟨d, op, t, p, af, none⟩ :: rest, st =>
      if plainOp op = true then dstOk st.n d = true ∧ opOk P ge st op ∧ AOL P ge ops Q rest ⟨st.n, putD d (opVal P ge st op).1 st.tm, (opVal P ge st op).2⟩
      else AS P ge ops (⟨d, op, t, p, af, none⟩ :: rest) Q st
  | ⟨d, op, t, p, af, some g⟩ :: rest, st => AS P ge ops (⟨d, op, t, p, af, some g⟩ :: rest) Q st
theorem AS_of_AOL : ∀ {l : List Oper} {st : St}, AOL P ge ops Q l st → AS P ge ops l Q st
  | [], st, h => by rw [AOL] at h; exact AS_nil h
  | ⟨d, op, t, p, af, some g⟩ :: rest, st, h => by
    cases op <;> (rw [AOL] at h; try exact h) <;> (intro hh; cases hh)
  | ⟨d, op, t, p, af, none⟩ :: rest, st, h => by
    by_cases hb : ∃ T len parts, op = .buildSlice T len parts
    · obtain ⟨T, len, parts, rfl⟩ := hb
      rw [AOL] at h
      obtain ⟨h1, h2, h3⟩ := h
      exact AS_op rfl h1 (S_bsOk h2) (AS_of_AOL h3)
    · rw [AOL] at h
      · split at h
        · obtain ⟨h1, h2, h3⟩ := h
          exact AS_op rfl h1 (opS_of_ok h2) (AS_of_AOL h3)
        · exact h
      · intro T len parts e; exact hb ⟨T, len, parts, e⟩
theorem AW_region_AOL {id : Nat} (h : AOL P ge ops Q ops.toList st) : AW P ge (.region id ops false) Q st := AW_region (AS_of_AOL h)
end
mutual
def V.dn : V → V
  | .nils => .vec [] 0
  | .vec xs len => .vec (V.dnR xs) len
  | .agg cs => .agg (V.dns cs)
  | .tup cs => .tup (V.dns cs)
  | .fp cs off => .fp (V.dns cs) off
  | v => v
def V.dns : List V → List V
  | [] => []
  | v :: r => V.dn v :: V.dns r
def V.dnR : List (List V) → List (List V)
  | [] => []
  | x :: r => V.dns x :: V.dnR r
end
theorem dns_eq : ∀ cs : List V, V.dns cs = cs.map V.dn
  | [] => rfl
  | v :: r => by rw [V.dns, List.map_cons, dns_eq r]
theorem dnR_eq : ∀ xs : List (List V), V.dnR xs = xs.map V.dns
  | [] => rfl
  | x :: r => by rw [V.dnR, List.map_cons, dnR_eq r]
theorem R.dn {G : Gh} {w : World} {fr : Bool} {v : V} {c : Value} (h : R G w fr v c) : R G w fr v.dn c := by
  have tg : ∀ {cs : List V} {j : Nat} {v : V}, (V.dns cs)[j]? = some v → ∃ u, cs[j]? = some u ∧ v = u.dn := fun {cs j v} hv => by
    rw [dns_eq, List.getElem?_map] at hv
    obtain ⟨u, h1, h2⟩ := Option.map_eq_some_iff.1 hv
    exact ⟨u, h1, h2.symm⟩
  have rg : ∀ {xs : List (List V)} {i : Nat} {x : List V}, (V.dnR xs)[i]? = some x → ∃ y, xs[i]? = some y ∧ x = V.dns y := fun {xs i x} hx => by
    rw [dnR_eq, List.getElem?_map] at hx
    obtain ⟨y, h1, h2⟩ := Option.map_eq_some_iff.1 hx
    exact ⟨y, h1, h2.symm⟩
  induction h with
  | nils => exact .emp (Nat.zero_le _)
  | emp h => exact .emp h
  | @vec _ _ _ _ _ _ sz h1 h2 h3 hl hc ho hr ih =>
    refine .vec (sz := sz) (by rw [dnR_eq, List.length_map]; exact h1) (by rw [dnR_eq, List.length_map]; exact h2) h3 (fun i x hx => ?_) (fun i x j v hx hv => ?_) (fun i x j v hx hv => ?_) (fun i x j v hx hv => ?_)
    · obtain ⟨y, h4, rfl⟩ := rg hx; rw [dns_eq, List.length_map]; exact hl i y h4
    · obtain ⟨y, h4, rfl⟩ := rg hx; obtain ⟨u, h5, rfl⟩ := tg hv; exact hc i y j u h4 h5
    · obtain ⟨y, h4, rfl⟩ := rg hx; obtain ⟨u, h5, rfl⟩ := tg hv; exact ho i y j u h4 h5
    · obtain ⟨y, h4, rfl⟩ := rg hx; obtain ⟨u, h5, rfl⟩ := tg hv; exact ih i y j u h4 h5
  | fp hc ho hr ih =>
    refine .fp (fun j v hv => ?_) (fun j v hv => ?_) (fun j v hv => ?_)
    · obtain ⟨u, h5, rfl⟩ := tg hv; exact hc j u h5
    · obtain ⟨u, h5, rfl⟩ := tg hv; exact ho j u h5
    · obtain ⟨u, h5, rfl⟩ := tg hv; exact ih j u h5
  | agg hs ho hr ih =>
    refine .agg (by rw [dns_eq, List.length_map]; exact hs) (fun i v hv => ?_) (fun i v hv => ?_)
    · obtain ⟨u, h5, rfl⟩ := tg hv; exact ho i u h5
    · obtain ⟨u, h5, rfl⟩ := tg hv; exact ih i u h5
  | tup hs hr ih =>
    refine .tup (by rw [dns_eq, List.length_map]; exact hs) (fun i v hv => ?_)
    obtain ⟨u, h5, rfl⟩ := tg hv; exact ih i u h5
  | fn hs hr hs' hr' => exact .fn hs hr hs' hr'
  | ifc hr => exact .ifc hr
  | junk => exact .junk
  | void => exact .void
  | bool => exact .bool
  | int => exact .int
  | str => exact .str
  | nilp => exact .nilp
  | nilf => exact .nilf
  | nilm => exact .nilm
  | nili => exact .nili
  | ref hb hg hm hle => exact .ref hb hg hm hle
  | refn hb hg hm => exact .refn hb hg hm
  | ptr hb hm => exact .ptr hb hm
  | ep hb hg hm => exact .ep hb hg hm
  | mp hb hm => exact .mp hb hm
/-- A contract for what nil, deep inside the arguments, shows. -/
theorem PCall.dn {P : Program} {ge : GEnv} {f : Nat} {args args' : List V} {r : V} (hc : PCall P ge f args' r) (ha : V.dns args = args') : PCall P ge f args r := by
  subst ha
  refine ⟨hc.1, fun G w cargs h hg => hc.2 G w cargs ⟨by rw [dns_eq, List.length_map]; exact h.1, fun i v hv => ?_⟩ hg⟩
  rw [dns_eq, List.getElem?_map] at hv
  obtain ⟨u, h1, rfl⟩ := Option.map_eq_some_iff.1 hv
  exact (h.2 i u h1).dn
attribute [simp] AOL
end Go.AM
end
section
set_option linter.unusedSimpArgs false
set_option linter.unusedVariables false
namespace Go.Proofs.YtbgooadmonnjaaaGreatDoor
open Go Go.AM Fx

end Go.Proofs.YtbgooadmonnjaaaGreatDoor
end
section
set_option linter.unusedVariables false
set_option linter.unusedSimpArgs false
namespace Go.AM
def refsV : Nat → List V → List V
  | _, [] => []
  | n, .own _ xs :: r => .ref n 0 0 xs.length :: refsV (n + 1) r
  | n, v :: r => v :: refsV n r
def rowsB : List V → List B
  | [] => []
  | .own T xs :: r => .row T 0 0 true xs :: rowsB r
  | _ :: r => rowsB r
theorem isOwn_iff {v : V} (h : v.isOwn = true) : ∃ T xs, v = .own T xs := by cases v <;> first | exact ⟨_, _, rfl⟩ | cases h
section
variable {P : Program} {ge : GEnv} {st : St} {G : Gh} {w w' : World} {Q : Exit → St → Prop}
variable {d : Option Tmp} {t : TypeId} {p : String} {af : Array Edge}
theorem RO1_not {base : Nat} {v : V} {c : Value} (h : v.isOwn = false) (hr : RO1 P G w base v c) : R G w true v c := by cases v <;> first | exact hr | cases h
end
attribute [simp] refsV rowsB
end Go.AM
end
section
set_option linter.unusedVariables false
set_option linter.unusedSimpArgs false
namespace Go.AM
section
variable {P : Program} {ge : GEnv} {st : St} {Q : Exit → St → Prop} {G : Gh} {w : World}
/-- A symbolic heap, what is new behind it falls. -/
theorem Weak.sym {st : St} {tm : List (Nat × V)} {h x : List B} (hh : st.h = h ++ x) (hl : ∀ y ∈ h, y.lt h.length) (ht : ∀ p ∈ tm, lk st.tm p.1 = p.2 ∧ p.2.lt h.length = true) : Weak st ⟨st.n, tm, h⟩ := by
  refine ⟨rfl, by rw [hh]; simp, ht, fun b y hy => .inr ⟨?_, hl y (List.mem_of_getElem? hy)⟩⟩
  rw [hh, List.getElem?_append_left (List.getElem?_eq_some_iff.1 hy).1]; exact hy
theorem Leaves.sym {h0 h : List B} (h1 : h0.length ≤ h.length) (hl : ∀ y ∈ h, y.lt h.length) : Leaves h0 h h :=
  ⟨h1, Nat.le_refl _, fun b x hx => .inr ⟨hx, .inr (hl x (List.mem_of_getElem? hx))⟩⟩
end
end Go.AM
end
section
set_option linter.unusedSimpArgs false
set_option linter.unusedVariables false
namespace Go.Proofs.YtbgooadmonnjaaaGreatDoor
open Go Go.AM Fx




theorem cmpE_zero {l : List GuardD} (h : cmpE l = 0) : ∀ g ∈ l, 1 ≤ g.cmp ∧ g.cmp ≤ 5 := by
  unfold cmpE at h
  intro g hg
  cases hc : cmpG g
  · unfold cmpG at hc
    have := of_decide_eq_false hc
    omega
  · rw [if_pos (List.any_eq_true.2 ⟨g, hg, hc⟩)] at h; cases h
theorem whole_cmps {n : NetD} (h : wholeE n = 0) : ∀ g ∈ guardsL n, 1 ≤ g.cmp ∧ g.cmp ≤ 5 := by
  unfold wholeE at h
  have h1 := (fZ (fZ (fZ (fZ (fZ (fZ (fZ (fZ h).2).2).2).2).2).2).2).1
  unfold formsE at h1
  by_cases hc : cmpE (guardsL n) = 0
  · exact cmpE_zero hc
  · rw [if_pos hc] at h1; exact absurd h1 hc
theorem goal_cmps {n : NetD} {g : List PartD} (h : goalE n g = 0) : ∀ p ∈ g, ∀ x ∈ p.guards, 1 ≤ x.cmp ∧ x.cmp ≤ 5 := by
  unfold goalE at h
  have h1 := (fZ (fZ h).2).1
  unfold wholeGoalE at h1
  have h2 := (fZ (fZ (fZ (fZ (fZ (fZ h1).2).2).2).2).2).1
  exact fun p hp => cmpE_zero (goF_zero h2 p hp)

/-- All references lead into the heap. -/
def HL (h : List B) : Prop := ∀ y ∈ h, y.lt h.length
theorem HL.set {h : List B} (hl : HL h) {i : Nat} {y : B} (hy : y.lt h.length) : HL (h.set i y) := fun z hz => by
  rw [List.length_set]
  rcases List.mem_or_eq_of_mem_set hz with h | h
  · exact hl z h
  · subst h; exact hy
def ivs (l : List Int) : List (List V) := l.map fun k => [V.int .i64 k]



def namedB (c : Int) (l : List GuardD) : Bool := anyL (fun g => decide (g.clock = c)) l
def setsB (c : Int) (l : List SetD) : Bool := anyL (fun s => decide (s.clock = c)) l
/-- A clock that guards name at a location, on an edge from there, or in a goal. -/
def usedPs (c : Int) (X : Bool) : List PartD → Bool
  | [] => X
  | p :: l => namedB c p.guards || usedPs c X l
def usedGs (c : Int) : List (List PartD) → Bool
  | [] => false
  | g :: l => usedPs c (usedGs c l) g
def usedEs (i : Nat) (c : Int) (X : Bool) : List EdgeD → Bool
  | [] => X
  | e :: l => (decide (e.frm = i) && namedB c e.guards) || usedEs i c X l
def usedB (a : AutoD) (gs : List (List PartD)) (i : Nat) (c : Int) : Bool := namedB c (a.locs.getD i default).inv || usedEs i c (usedGs c gs) a.edges
inductive Act (a : AutoD) (gs : List (List PartD)) (c : Int) : Nat → Prop
  | use {i : Nat} (hi : i < a.locs.length) (h : usedB a gs i c = true) : Act a gs c i
  | edge {e : EdgeD} (he : e ∈ a.edges) (hto : Act a gs c e.to.toNat) (hs : setsB c e.sets = false) : Act a gs c e.frm.toNat

def badLoc (n : NetD) (au lo : Int) : Prop := au < 0 ∨ (n.autos.length : Int) ≤ au ∨ lo < 0 ∨ ((n.autos.getD au.toNat default).locs.length : Int) ≤ lo
instance {n : NetD} {au lo : Int} : Decidable (badLoc n au lo) := by unfold badLoc; infer_instance

end Go.Proofs.YtbgooadmonnjaaaGreatDoor
end
section
set_option linter.unusedSimpArgs false
set_option linter.unusedVariables false
namespace Go.AM
open Go.MapKept

end Go.AM
end
