/-
  YtgmlimipejcpgaaGreatDoorCo26: steps of the proof of a law of the program: what these texts prove holds under the hypotheses that their theorems name, and no others.
-/
import Derived.Test.YtgmlimipejcpgaaGreatDoorCo25
section
set_option linter.unusedSimpArgs false
set_option linter.unusedVariables false
namespace Go.Proofs.YtgmlimipejcpgaaGreatDoor
open Go Go.AM Fx
def goX (f : PartD → Int) (X : Int) : List PartD → Int
  | [] => X
  | p :: r => if f p ≠ 0 then f p else goX f X r
theorem goX_nil {f : PartD → Int} {X : Int} : goX f X [] = X := rfl
theorem goX_cons {f : PartD → Int} {X : Int} {p : PartD} {r : List PartD} : goX f X (p :: r) = if f p ≠ 0 then f p else goX f X r := rfl
theorem goX_eq {f : PartD → Int} {rest : List Int} : ∀ {g : List PartD}, firstE (goF f g :: rest) = goX f (firstE rest) g
  | [] => by rw [goF_nil, fC, if_neg (by simp), goX_nil]
  | p :: r => by
    rw [goF_cons, goX_cons]
    by_cases h : f p = 0
    · rw [if_neg (by simp [h]), if_neg (by simp [h]), goX_eq]
    · rw [if_pos h, if_pos h, fC, if_pos h]
theorem clkE_eq (n : NetD) (l : List GuardD) : clkE n l = if anyL (wayG n 12) l = true then 12 else 0 := by
  have h1 : wayG n 12 = clkG n := funext fun g => by simp [wayG]
  rw [h1]; rfl
theorem cmpE_eq (n : NetD) (l : List GuardD) : cmpE l = if anyL (wayG n 7) l = true then 7 else 0 := by
  have h1 : wayG n 7 = cmpG := funext fun g => by simp [wayG]
  rw [h1]; rfl
set_option maxRecDepth 20000 in
set_option maxHeartbeats 16000000 in
theorem r_WholeGoal (n : NetD) (hn : n.ok) (g : List PartD) (hg : okGoal g) : PC 76 [.agg n.cells, vl PartD.cells g] (.int .i64 (wholeGoalE n g)) := by
  have h0 := r_Whole n hn
  obtain ⟨hg1, hg2⟩ := hg
  have hnl := hn.2.2.2.1
  obtain ⟨r, hr⟩ : ∃ r, wholeGoalE n g = r := ⟨_, rfl⟩
  rw [hr]
  unfold wholeGoalE at hr
  rw [fC, fC, goX_eq, goX_eq, goX_eq, goX_eq, goX_eq, firstE_nil] at hr
  generalize wholeE n = e0 at *
  simp only [vl, NetD.cells] at h0
  refine pB Tryz.func76 rfl (by decide) Tryz.ntmps76 (by simp) Tryz.results76 ?_
  by_cases hz : e0 = 0
  · rw [if_neg (by simp [hz])] at hr
    rw [hz] at h0
    by_cases hlong : 16 < g.length
    · rw [if_pos hlong, if_pos (by decide)] at hr
      have hl' : (16 : Int) < g.length := by omega
      repeat' (first
 |refine aK fun K hK=>?_|refine Step.by1 ?_|refine sE (by decide) ?_|refine cz rfl ?_|refine Fork.by2 (fun h=>?_) fun h=>?_
 |((first|refine aR ?_|refine aC (f:=67) rfl rfl (h0) rfl rfl rfl ?_);simp [vl, NetD.cells, hlong, hl'])
 |(refine Split.by2 (fun h=>?_) (fun h=>?_)<;>(simp [h, vl, NetD.cells, hlong, hl']))
 |(apply hK;clear hK K)|refine AWh ‹_› ?_)
      exact r1q (cE (by rw [← hr]; rfl) rfl)
    · rw [if_neg hlong, if_neg (by decide)] at hr
      have hl' : ¬ (16 : Int) < g.length := by omega
      obtain ⟨x5, hx5⟩ : ∃ x, goX (fun p => truthE n p.test) 0 g = x := ⟨_, rfl⟩
      rw [hx5] at hr
      obtain ⟨x4, hx4⟩ : ∃ x, goX (fun p => cmpE p.guards) x5 g = x := ⟨_, rfl⟩
      rw [hx4] at hr
      obtain ⟨x3, hx3⟩ : ∃ x, goX (fun p => clkE n p.guards) x4 g = x := ⟨_, rfl⟩
      rw [hx3] at hr
      obtain ⟨x2, hx2⟩ : ∃ x, goX (g2E n) x3 g = x := ⟨_, rfl⟩
      rw [hx2] at hr
      repeat' (first
 |refine aK fun K hK=>?_|refine Step.by1 ?_|refine sE (by decide) ?_|refine cz rfl ?_|refine Fork.by2 (fun h=>?_) fun h=>?_
 |((first|refine aR ?_|refine aC (f:=67) rfl rfl (h0) rfl rfl rfl ?_);simp [vl, NetD.cells, hlong, hl'])
 |(refine Split.by2 (fun h=>?_) (fun h=>?_)<;>(simp [h, vl, NetD.cells, hlong, hl']))
 |(apply hK;clear hK K)|refine AWh ‹_› ?_)
      -- sizes
      refine aS1 (r := r) g 6 [1, 2] (goX g1E x2) hr (by apply Weak.mk' <;> simp [vl, NetD.cells]) ?_ ?_
      · intro i p _ hlt hp hF
        rw [goX_cons] at hF
        have hlt' : (i : Int) < g.length := by omega
        have w1 : IntKind.i64.wrap ((i : Int) + 1) = i + 1 := wI (by omega) (by omega)
        have hg1E : g1E p = if 16 < p.locs.length ∨ 16 < p.guards.length ∨ 64 < p.test.length then 6 else 0 := by simp [g1E, longP]
        by_cases hq : 16 < p.locs.length ∨ 16 < p.guards.length ∨ 64 < p.test.length
        · rw [hg1E, if_pos hq, if_pos (by decide)] at hF
          repeat' (first
 |refine aK fun K hK=>?_|refine Step.by1 ?_|refine sE (by decide) ?_|refine cz rfl ?_|refine Fork.by2 (fun h=>?_) fun h=>?_
 |(refine aR ?_;simp [vl, NetD.cells, PartD.cells, hlt, hlt', hp, w1])
 |(refine Split.by2 (fun h=>?_) (fun h=>?_)<;>(simp [h, vl, NetD.cells, PartD.cells, hlt, hlt', hp, w1]))
 |(apply hK;clear hK K)|refine AWh ‹_› ?_)
          all_goals first
            | exact r1q (cE (by rw [← hF]; rfl) rfl)
            | (exfalso; omega)
        · rw [hg1E, if_neg hq, if_neg (by decide)] at hF
          have q1 : ¬ (16 : Int) < p.locs.length := by omega
          have q2 : ¬ (16 : Int) < p.guards.length := by omega
          have q3 : ¬ (64 : Int) < p.test.length := by omega
          repeat' (first
 |refine aK fun K hK=>?_|refine Step.by1 ?_|refine sE (by decide) ?_|refine cz rfl ?_|refine Fork.by2 (fun h=>?_) fun h=>?_
 |(refine aR ?_;simp [vl, NetD.cells, PartD.cells, hlt, hlt', hp, w1, q1, q2, q3])
 |(refine Split.by2 (fun h=>?_) (fun h=>?_)<;>(simp [h, vl, NetD.cells, PartD.cells, hlt, hlt', hp, w1, q1, q2, q3]))
 |(apply hK;clear hK K)|refine AWh ‹_› ?_)
          refine ⟨hF, ?_⟩; apply Weak.mk' <;> simp [vl, NetD.cells]
      · intro hF
        rw [goX_nil] at hF
        subst hF
        clear hr
        repeat' (first
 |refine aK fun K hK=>?_|refine Step.by1 ?_|refine sE (by decide) ?_|refine cz rfl ?_|refine Fork.by2 (fun h=>?_) fun h=>?_
 |(refine aR ?_;simp [vl, NetD.cells])
 |(refine Split.by2 (fun h=>?_) (fun h=>?_)<;>(simp [h, vl, NetD.cells]))
 |(apply hK;clear hK K)|refine AWh ‹_› ?_)
        -- locations
        refine aS1 (r := x2) g 7 [1, 2] (goX (g2E n) x3) hx2 (by apply Weak.mk' <;> simp [vl, NetD.cells]) ?_ ?_
        · intro i p _ hlt hp hF
          rw [goX_cons] at hF
          have hpo := hg2 p (hp ▸ List.getElem_mem hlt)
          have hpl := hpo.1.1
          have hlt' : (i : Int) < g.length := by omega
          have w0 : IntKind.i64.wrap ((i : Int) + 1) = i + 1 := wI (by omega) (by omega)
          obtain ⟨E, hE⟩ : ∃ E : List AtD → Int, E = fun l => if anyL (atB n) l = true then 122 else goX (g2E n) x3 (g.drop (i + 1)) := ⟨_, rfl⟩
          have hEc : ∀ a l, E (a :: l) = if atB n a = true then 122 else E l := fun a l => by subst hE; by_cases h : atB n a = true <;> simp [anC, h]
          have hEn : E p.locs = x2 := by
            have hg2e : g2E n p = if anyL (atB n) p.locs = true then 122 else 0 := rfl
            rw [hg2e] at hF
            subst hE; rw [← hF]
            show (if anyL (atB n) p.locs = true then 122 else goX (g2E n) x3 (g.drop (i + 1))) = _
            cases anyL (atB n) p.locs <;> simp
          have hE0 : E [] = goX (g2E n) x3 (g.drop (i + 1)) := by subst hE; rfl
          clear hF hE
          repeat' (first
 |refine aK fun K hK=>?_|refine Step.by1 ?_|refine sE (by decide) ?_|refine cz rfl ?_|refine Fork.by2 (fun h=>?_) fun h=>?_
 |(refine aR ?_;simp [vl, NetD.cells, PartD.cells, hlt, hlt', hp])
 |(refine Split.by2 (fun h=>?_) (fun h=>?_)<;>(simp [h, vl, NetD.cells, PartD.cells, hlt, hlt', hp]))
 |(apply hK;clear hK K)|refine AWh ‹_› ?_)
          refine aS1 (r := x2) p.locs 8 [1, 2, 7] E hEn (by apply Weak.mk' <;> simp [vl, NetD.cells]) ?_ ?_
          · intro k x _ hkt hx hG
            rw [hEc] at hG
            have hkt' : (k : Int) < p.locs.length := by omega
            have w1 : IntKind.i64.wrap ((k : Int) + 1) = k + 1 := wI (by omega) (by omega)
            have ha : atB n x = decide (x.auto < 0 ∨ (n.autos.length : Int) ≤ x.auto ∨ x.loc < 0 ∨ ((n.autos.getD x.auto.toNat default).locs.length : Int) ≤ x.loc) := rfl
            by_cases q : 0 ≤ x.auto ∧ x.auto < n.autos.length
            · obtain ⟨k2, hk⟩ := Int.eq_ofNat_of_zero_le q.1
              have hkl : k2 < n.autos.length := by omega
              have hkl' : (k2 : Int) < n.autos.length := by omega
              obtain ⟨a, haa⟩ : ∃ a, n.autos[k2] = a := ⟨_, rfl⟩
              have hgg : n.autos.getD x.auto.toNat default = a := by rw [hk]; simp [List.getD, hkl, haa]
              rw [hgg] at ha
              have hk0 : ¬ (k2 : Int) < 0 := by omega
              have hk1 : ¬ (n.autos.length : Int) ≤ k2 := by omega
              rw [hk] at ha
              repeat' (first
 |refine aK fun K hK=>?_|refine Step.by1 ?_|refine sE (by decide) ?_|refine cz rfl ?_|refine Fork.by2 (fun h=>?_) fun h=>?_
 |((first|refine aR ?_|refine aX (id:=18) 29 mixed (by decide) ?_);simp [vl, PartD.cells, NetD.cells, AtD.cells, AutoD.cells, hlt, hlt', hp, hkt, hkt', hx, w1, hk, hkl, hkl', haa, hk0, hk1])
 |(refine Split.by2 (fun h=>?_) (fun h=>?_)<;>(simp [h, vl, PartD.cells, NetD.cells, AtD.cells, AutoD.cells, hlt, hlt', hp, hkt, hkt', hx, w1, hk, hkl, hkl', haa, hk0, hk1]))
 |(apply hK;clear hK K)|refine AWh ‹_› ?_)
              all_goals first
                | (rw [if_pos (by rw [ha]; simp; omega)] at hG
                   exact r1q (cE (by rw [← hG]; rfl) rfl))
                | (rw [if_neg (by rw [ha]; simp; omega)] at hG
                   refine ⟨hG, ?_⟩; apply Weak.mk' <;> simp [vl, NetD.cells])
            · rw [if_pos (by rw [ha]; simp; omega)] at hG
              repeat' (first
 |refine aK fun K hK=>?_|refine Step.by1 ?_|refine sE (by decide) ?_|refine cz rfl ?_|refine Fork.by2 (fun h=>?_) fun h=>?_
 |((first|refine aR ?_|refine aX (id:=18) 29 mixed (by decide) ?_);simp [vl, PartD.cells, NetD.cells, AtD.cells, hlt, hlt', hp, hkt, hkt', hx, w1])
 |(refine Split.by2 (fun h=>?_) (fun h=>?_)<;>(simp [h, vl, PartD.cells, NetD.cells, AtD.cells, hlt, hlt', hp, hkt, hkt', hx, w1]))
 |(apply hK;clear hK K)|refine AWh ‹_› ?_)
              all_goals first
                | (exfalso; omega)
                | exact r1q (cE (by rw [← hG]; rfl) rfl)
          · intro hG
            rw [hE0] at hG
            repeat' (first
 |refine aK fun K hK=>?_|refine Step.by1 ?_|refine sE (by decide) ?_|refine cz rfl ?_|refine Fork.by2 (fun h=>?_) fun h=>?_
 |(refine aR ?_;simp [vl, PartD.cells, NetD.cells, hlt, hlt', hp, w0])
 |(refine Split.by2 (fun h=>?_) (fun h=>?_)<;>(simp [h, vl, PartD.cells, NetD.cells, hlt, hlt', hp, w0]))
 |(apply hK;clear hK K)|refine AWh ‹_› ?_)
            refine ⟨hG, ?_⟩; apply Weak.mk' <;> simp [vl, NetD.cells]
        · intro hF
          rw [goX_nil] at hF
          subst hF
          clear hx2
          repeat' (first
 |refine aK fun K hK=>?_|refine Step.by1 ?_|refine sE (by decide) ?_|refine cz rfl ?_|refine Fork.by2 (fun h=>?_) fun h=>?_
 |(refine aR ?_;simp [vl, NetD.cells])
 |(refine Split.by2 (fun h=>?_) (fun h=>?_)<;>(simp [h, vl, NetD.cells]))
 |(apply hK;clear hK K)|refine AWh ‹_› ?_)
          -- guards, in two ways
          refine aL [1, 2, 10] (fun i : Nat => [(11, .int .i64 i)]) (fun _ => [.var n.cells, .row 30 0 0 true [[.int .i64 12], [.int .i64 7]]]) (fun i => i ≤ 2 ∧ ([x3, x4, x5] : List Int)[i]? = some x3) (fun i => 2 - i) 0 ⟨Nat.zero_le _, rfl⟩ (by apply Weak.mk' <;> simp [vl, NetD.cells]) (fun _ _ => rfl) ?_
          rintro i ⟨hi, hv⟩
          rcases i with _ | _ | _ | i
          · skip
            repeat' (first
 |refine aK fun K hK=>?_|refine Step.by1 ?_|refine sE (by decide) ?_|refine cz rfl ?_|refine Fork.by2 (fun h=>?_) fun h=>?_
 |(refine aR ?_;simp [vl, NetD.cells, wI];try (simp (disch:=omega) only [wI];try simp [vl, NetD.cells, wI]))
 |(refine Split.by2 (fun h=>?_) (fun h=>?_)<;>(simp [h, vl, NetD.cells, wI];try (simp (disch:=omega) only [wI];try simp [vl, NetD.cells, wI])))
 |(apply hK;clear hK K)|refine AWh ‹_› ?_)
            refine aS1 (r := x3) g 12 [1, 2, 10, 11] (goX (fun p => clkE n p.guards) x4) hx3 (by apply Weak.mk' <;> simp [vl, NetD.cells]) ?_ ?_
            · intro m p _ hlt hp hG
              rw [goX_cons] at hG
              have hpo := hg2 p (hp ▸ List.getElem_mem hlt)
              have hc := r_guards n p.guards 12 (by have := hpo.2.1.1; omega)
              have heq := clkE_eq n p.guards
              have hlt' : (m : Int) < g.length := by omega
              have w1 : IntKind.i64.wrap ((m : Int) + 1) = m + 1 := wI (by omega) (by omega)
              simp only [NetD.cells, vl] at hc
              simp only [heq] at hG
              clear heq
              generalize anyL (wayG n 12) p.guards = kb at *
              cases kb
              · rw [if_neg (by simp)] at hG
                repeat' (first
 |refine aK fun K hK=>?_|refine Step.by1 ?_|refine sE (by decide) ?_|refine cz rfl ?_|refine Fork.by2 (fun h=>?_) fun h=>?_
 |((first|refine aR ?_|refine aX (id:=27) 11 mixed (by decide) ?_|refine aP1 (f:=153) rfl rfl (hc) rfl rfl rfl ?_);simp [vl, NetD.cells, PartD.cells, hlt, hlt', hp, w1])
 |(refine Split.by2 (fun h=>?_) (fun h=>?_)<;>(simp [h, vl, NetD.cells, PartD.cells, hlt, hlt', hp, w1]))
 |(apply hK;clear hK K)|refine AWh ‹_› ?_)
                refine ⟨hG, ?_⟩; apply Weak.mk' <;> simp [vl, NetD.cells]
              · rw [if_pos (by simp)] at hG
                repeat' (first
 |refine aK fun K hK=>?_|refine Step.by1 ?_|refine sE (by decide) ?_|refine cz rfl ?_|refine Fork.by2 (fun h=>?_) fun h=>?_
 |((first|refine aR ?_|refine aX (id:=27) 11 mixed (by decide) ?_|refine aP1 (f:=153) rfl rfl (hc) rfl rfl rfl ?_);simp [vl, NetD.cells, PartD.cells, hlt, hlt', hp, w1])
 |(refine Split.by2 (fun h=>?_) (fun h=>?_)<;>(simp [h, vl, NetD.cells, PartD.cells, hlt, hlt', hp, w1]))
 |(apply hK;clear hK K)|refine AWh ‹_› ?_)
                exact r1q (cE (by rw [← hG]; rfl) rfl)
            · intro hG
              rw [goX_nil] at hG
              repeat' (first
 |refine aK fun K hK=>?_|refine Step.by1 ?_|refine sE (by decide) ?_|refine cz rfl ?_|refine Fork.by2 (fun h=>?_) fun h=>?_
 |(refine aR ?_;simp [vl, NetD.cells, wI];try (simp (disch:=omega) only [wI];try simp [vl, NetD.cells, wI]))
 |(refine Split.by2 (fun h=>?_) (fun h=>?_)<;>(simp [h, vl, NetD.cells, wI];try (simp (disch:=omega) only [wI];try simp [vl, NetD.cells, wI])))
 |(apply hK;clear hK K)|refine AWh ‹_› ?_)
              refine ⟨1, ⟨by omega, by rw [← hG]; rfl⟩, by omega, ?_⟩; apply Weak.mk' <;> simp [vl, NetD.cells]
          · have hv4 : x4 = x3 := by simpa using hv
            repeat' (first
 |refine aK fun K hK=>?_|refine Step.by1 ?_|refine sE (by decide) ?_|refine cz rfl ?_|refine Fork.by2 (fun h=>?_) fun h=>?_
 |(refine aR ?_;simp [vl, NetD.cells, wI];try (simp (disch:=omega) only [wI];try simp [vl, NetD.cells, wI]))
 |(refine Split.by2 (fun h=>?_) (fun h=>?_)<;>(simp [h, vl, NetD.cells, wI];try (simp (disch:=omega) only [wI];try simp [vl, NetD.cells, wI])))
 |(apply hK;clear hK K)|refine AWh ‹_› ?_)
            refine aS1 (r := x3) g 12 [1, 2, 10, 11] (goX (fun p => cmpE p.guards) x5) (by rw [hx4]; exact hv4) (by apply Weak.mk' <;> simp [vl, NetD.cells]) ?_ ?_
            · intro m p _ hlt hp hG
              rw [goX_cons] at hG
              have hpo := hg2 p (hp ▸ List.getElem_mem hlt)
              have hc := r_guards n p.guards 7 (by have := hpo.2.1.1; omega)
              have heq := cmpE_eq n p.guards
              have hlt' : (m : Int) < g.length := by omega
              have w1 : IntKind.i64.wrap ((m : Int) + 1) = m + 1 := wI (by omega) (by omega)
              simp only [NetD.cells, vl] at hc
              simp only [heq] at hG
              clear heq
              generalize anyL (wayG n 7) p.guards = kb at *
              cases kb
              · rw [if_neg (by simp)] at hG
                repeat' (first
 |refine aK fun K hK=>?_|refine Step.by1 ?_|refine sE (by decide) ?_|refine cz rfl ?_|refine Fork.by2 (fun h=>?_) fun h=>?_
 |((first|refine aR ?_|refine aX (id:=27) 11 mixed (by decide) ?_|refine aP1 (f:=153) rfl rfl (hc) rfl rfl rfl ?_);simp [vl, NetD.cells, PartD.cells, hlt, hlt', hp, w1])
 |(refine Split.by2 (fun h=>?_) (fun h=>?_)<;>(simp [h, vl, NetD.cells, PartD.cells, hlt, hlt', hp, w1]))
 |(apply hK;clear hK K)|refine AWh ‹_› ?_)
                refine ⟨hG, ?_⟩; apply Weak.mk' <;> simp [vl, NetD.cells]
              · rw [if_pos (by simp)] at hG
                repeat' (first
 |refine aK fun K hK=>?_|refine Step.by1 ?_|refine sE (by decide) ?_|refine cz rfl ?_|refine Fork.by2 (fun h=>?_) fun h=>?_
 |((first|refine aR ?_|refine aX (id:=27) 11 mixed (by decide) ?_|refine aP1 (f:=153) rfl rfl (hc) rfl rfl rfl ?_);simp [vl, NetD.cells, PartD.cells, hlt, hlt', hp, w1])
 |(refine Split.by2 (fun h=>?_) (fun h=>?_)<;>(simp [h, vl, NetD.cells, PartD.cells, hlt, hlt', hp, w1]))
 |(apply hK;clear hK K)|refine AWh ‹_› ?_)
                exact r1q (cE (by rw [← hG]; rfl) rfl)
            · intro hG
              rw [goX_nil] at hG
              repeat' (first
 |refine aK fun K hK=>?_|refine Step.by1 ?_|refine sE (by decide) ?_|refine cz rfl ?_|refine Fork.by2 (fun h=>?_) fun h=>?_
 |(refine aR ?_;simp [vl, NetD.cells, wI];try (simp (disch:=omega) only [wI];try simp [vl, NetD.cells, wI]))
 |(refine Split.by2 (fun h=>?_) (fun h=>?_)<;>(simp [h, vl, NetD.cells, wI];try (simp (disch:=omega) only [wI];try simp [vl, NetD.cells, wI])))
 |(apply hK;clear hK K)|refine AWh ‹_› ?_)
              refine ⟨2, ⟨by omega, by rw [← hG]; rfl⟩, by omega, ?_⟩; apply Weak.mk' <;> simp [vl, NetD.cells]
          · have hv5 : x5 = x3 := by simpa using hv
            repeat' (first
 |refine aK fun K hK=>?_|refine Step.by1 ?_|refine sE (by decide) ?_|refine cz rfl ?_|refine Fork.by2 (fun h=>?_) fun h=>?_
 |(refine aR ?_;simp [vl, NetD.cells])
 |(refine Split.by2 (fun h=>?_) (fun h=>?_)<;>(simp [h, vl, NetD.cells]))
 |(apply hK;clear hK K)|refine AWh ‹_› ?_)
            refine aS1 (r := x3) g 13 [1, 2] (goX (fun p => truthE n p.test) 0) (by rw [hx5]; exact hv5) (by apply Weak.mk' <;> simp [vl, NetD.cells]) ?_ ?_
            · intro m p _ hlt hp hG
              rw [goX_cons] at hG
              have hpo := hg2 p (hp ▸ List.getElem_mem hlt)
              have hc := r_testless n p.test hpo.2.2.1
              have heq : truthE n p.test = if truthBad n p.test = true then 121 else 0 := rfl
              have hlt' : (m : Int) < g.length := by omega
              have w1 : IntKind.i64.wrap ((m : Int) + 1) = m + 1 := wI (by omega) (by omega)
              simp only [NetD.cells, vl] at hc
              simp only [heq] at hG
              clear heq
              generalize truthBad n p.test = kb at *
              cases kb
              · rw [if_neg (by simp)] at hG
                repeat' (first
 |refine aK fun K hK=>?_|refine Step.by1 ?_|refine sE (by decide) ?_|refine cz rfl ?_|refine Fork.by2 (fun h=>?_) fun h=>?_
 |((first|refine aR ?_|refine aX (id:=32) 7 mixed (by decide) ?_|refine aP1 (f:=154) rfl rfl (hc) rfl rfl rfl ?_);simp [vl, NetD.cells, PartD.cells, hlt, hlt', hp, w1])
 |(refine Split.by2 (fun h=>?_) (fun h=>?_)<;>(simp [h, vl, NetD.cells, PartD.cells, hlt, hlt', hp, w1]))
 |(apply hK;clear hK K)|refine AWh ‹_› ?_)
                refine ⟨hG, ?_⟩; apply Weak.mk' <;> simp [vl, NetD.cells]
              · rw [if_pos (by simp)] at hG
                repeat' (first
 |refine aK fun K hK=>?_|refine Step.by1 ?_|refine sE (by decide) ?_|refine cz rfl ?_|refine Fork.by2 (fun h=>?_) fun h=>?_
 |((first|refine aR ?_|refine aX (id:=32) 7 mixed (by decide) ?_|refine aP1 (f:=154) rfl rfl (hc) rfl rfl rfl ?_);simp [vl, NetD.cells, PartD.cells, hlt, hlt', hp, w1])
 |(refine Split.by2 (fun h=>?_) (fun h=>?_)<;>(simp [h, vl, NetD.cells, PartD.cells, hlt, hlt', hp, w1]))
 |(apply hK;clear hK K)|refine AWh ‹_› ?_)
                exact r1q (cE (by rw [← hG]; rfl) rfl)
            · intro hG
              rw [goX_nil] at hG
              repeat' (first
 |refine aK fun K hK=>?_|refine Step.by1 ?_|refine sE (by decide) ?_|refine cz rfl ?_|refine Fork.by2 (fun h=>?_) fun h=>?_
 |(refine aR ?_;simp [vl, NetD.cells])
 |(refine Split.by2 (fun h=>?_) (fun h=>?_)<;>(simp [h, vl, NetD.cells]))
 |(apply hK;clear hK K)|refine AWh ‹_› ?_)
              exact r1q (cE (by rw [← hG]; rfl) rfl)
          · omega
  · rw [if_pos hz] at hr
    subst hr
    repeat' (first
 |refine aK fun K hK=>?_|refine Step.by1 ?_|refine sE (by decide) ?_|refine cz rfl ?_|refine Fork.by2 (fun h=>?_) fun h=>?_
 |((first|refine aR ?_|refine aC (f:=67) rfl rfl (h0) rfl rfl rfl ?_);simp [vl, NetD.cells, hz])
 |(refine Split.by2 (fun h=>?_) (fun h=>?_)<;>(simp [h, vl, NetD.cells, hz]))
 |(apply hK;clear hK K)|refine AWh ‹_› ?_)
    exact r1q (cE rfl rfl)
theorem diagE_eq (l : List GuardD) : diagE l = if anyL (badG 120) l = true then 120 else 0 := by
  have : badG 120 = diagG := funext fun g => by simp [badG]
  rw [this]; rfl
theorem greatE_eq (l : List GuardD) : greatE l = if anyL (badG 13) l = true then 13 else 0 := by
  have : badG 13 = greatG := funext fun g => by simp [badG]
  rw [this]; rfl
set_option maxRecDepth 20000 in
set_option maxHeartbeats 16000000 in
theorem r_Goal (n : NetD) (hn : n.ok) (g : List PartD) (hg : okGoal g) : PC 20 [.agg n.cells, vl PartD.cells g] (.int .i64 (goalE n g)) := by
  have h0 := r_Net n hn
  have h1 := r_WholeGoal n hn g hg
  obtain ⟨hg1, hg2⟩ := hg
  obtain ⟨r, hr⟩ : ∃ r, goalE n g = r := ⟨_, rfl⟩
  rw [hr]
  unfold goalE at hr
  rw [fC, fC, goX_eq, goX_eq, firstE_nil] at hr
  generalize netE n = e0 at *
  generalize wholeGoalE n g = e9 at *
  simp only [vl, NetD.cells] at h0 h1
  refine pB Tryz.func20 rfl (by decide) Tryz.ntmps20 (by simp) Tryz.results20 ?_
  by_cases hz : e0 = 0
  · rw [if_neg (by simp [hz])] at hr
    rw [hz] at h0
    by_cases hz9 : e9 = 0
    · rw [if_neg (by simp [hz9])] at hr
      rw [hz9] at h1
      obtain ⟨x4, hx4⟩ : ∃ x, goX (fun p => greatE p.guards) 0 g = x := ⟨_, rfl⟩
      rw [hx4] at hr
      repeat' (first
 |refine aK fun K hK=>?_|refine Step.by1 ?_|refine sE (by decide) ?_|refine cz rfl ?_|refine Fork.by2 (fun h=>?_) fun h=>?_
 |((first|refine aR ?_|refine aC (f:=16) rfl rfl (h0) rfl rfl rfl ?_|refine aC (f:=76) rfl rfl (h1) rfl rfl rfl ?_);simp [vl, NetD.cells])
 |(refine Split.by2 (fun h=>?_) (fun h=>?_)<;>(simp [h, vl, NetD.cells]))
 |(apply hK;clear hK K)|refine AWh ‹_› ?_)
      refine aL [1, 6] (fun i : Nat => [(7, .int .i64 i)]) (fun _ => [.var n.cells, .row 30 0 0 true [[.int .i64 120], [.int .i64 13]]]) (fun i => i ≤ 2 ∧ ([r, x4, 0] : List Int)[i]? = some r) (fun i => 2 - i) 0 ⟨Nat.zero_le _, rfl⟩ (by apply Weak.mk' <;> simp [vl, NetD.cells]) (fun _ _ => rfl) ?_
      rintro i ⟨hi, hv⟩
      rcases i with _ | _ | _ | i
      · skip
        repeat' (first
 |refine aK fun K hK=>?_|refine Step.by1 ?_|refine sE (by decide) ?_|refine cz rfl ?_|refine Fork.by2 (fun h=>?_) fun h=>?_
 |(refine aR ?_;simp [vl, NetD.cells, wI];try (simp (disch:=omega) only [wI];try simp [vl, NetD.cells, wI]))
 |(refine Split.by2 (fun h=>?_) (fun h=>?_)<;>(simp [h, vl, NetD.cells, wI];try (simp (disch:=omega) only [wI];try simp [vl, NetD.cells, wI])))
 |(apply hK;clear hK K)|refine AWh ‹_› ?_)
        refine aS1 (r := r) g 8 [1, 6, 7] (goX (fun p => diagE p.guards) x4) hr (by apply Weak.mk' <;> simp [vl, NetD.cells]) ?_ ?_
        · intro m p _ hlt hp hG
          rw [goX_cons] at hG
          have hpo := hg2 p (hp ▸ List.getElem_mem hlt)
          have hc0 := r_bad p.guards [] 120 (by have := hpo.2.1.1; omega) (by simp)
          have hc := PCall.denil (args := [vl GuardD.cells p.guards, .nils, .int .i64 120]) hc0 rfl
          rw [show (anyL (badG 120) p.guards || anyL (badS 120) []) = anyL (badG 120) p.guards by rw [anyL_nil, Bool.or_false]] at hc
          clear hc0
          have heq := diagE_eq p.guards
          have hlt' : (m : Int) < g.length := by omega
          have w1 : IntKind.i64.wrap ((m : Int) + 1) = m + 1 := wI (by omega) (by omega)
          simp only [vl] at hc
          simp only [heq] at hG
          clear heq
          generalize anyL (badG 120) p.guards = kb at *
          cases kb
          · rw [if_neg (by simp)] at hG
            repeat' (first
 |refine aK fun K hK=>?_|refine Step.by1 ?_|refine sE (by decide) ?_|refine cz rfl ?_|refine Fork.by2 (fun h=>?_) fun h=>?_
 |((first|refine aR ?_|refine aX (id:=13) 10 mixed (by decide) ?_|refine aP1 (f:=77) rfl rfl (hc) rfl rfl rfl ?_);simp [vl, NetD.cells, PartD.cells, hlt, hlt', hp, w1])
 |(refine Split.by2 (fun h=>?_) (fun h=>?_)<;>(simp [h, vl, NetD.cells, PartD.cells, hlt, hlt', hp, w1]))
 |(apply hK;clear hK K)|refine AWh ‹_› ?_)
            refine ⟨hG, ?_⟩; apply Weak.mk' <;> simp [vl, NetD.cells]
          · rw [if_pos (by simp)] at hG
            repeat' (first
 |refine aK fun K hK=>?_|refine Step.by1 ?_|refine sE (by decide) ?_|refine cz rfl ?_|refine Fork.by2 (fun h=>?_) fun h=>?_
 |((first|refine aR ?_|refine aX (id:=13) 10 mixed (by decide) ?_|refine aP1 (f:=77) rfl rfl (hc) rfl rfl rfl ?_);simp [vl, NetD.cells, PartD.cells, hlt, hlt', hp, w1])
 |(refine Split.by2 (fun h=>?_) (fun h=>?_)<;>(simp [h, vl, NetD.cells, PartD.cells, hlt, hlt', hp, w1]))
 |(apply hK;clear hK K)|refine AWh ‹_› ?_)
            exact r1q (cE (by rw [← hG]; rfl) rfl)
        · intro hG
          rw [goX_nil] at hG
          repeat' (first
 |refine aK fun K hK=>?_|refine Step.by1 ?_|refine sE (by decide) ?_|refine cz rfl ?_|refine Fork.by2 (fun h=>?_) fun h=>?_
 |(refine aR ?_;simp [vl, NetD.cells, wI];try (simp (disch:=omega) only [wI];try simp [vl, NetD.cells, wI]))
 |(refine Split.by2 (fun h=>?_) (fun h=>?_)<;>(simp [h, vl, NetD.cells, wI];try (simp (disch:=omega) only [wI];try simp [vl, NetD.cells, wI])))
 |(apply hK;clear hK K)|refine AWh ‹_› ?_)
          refine ⟨1, ⟨by omega, by rw [← hG]; rfl⟩, by omega, ?_⟩; apply Weak.mk' <;> simp [vl, NetD.cells]
      · have hv4 : x4 = r := by simpa using hv
        repeat' (first
 |refine aK fun K hK=>?_|refine Step.by1 ?_|refine sE (by decide) ?_|refine cz rfl ?_|refine Fork.by2 (fun h=>?_) fun h=>?_
 |(refine aR ?_;simp [vl, NetD.cells, wI];try (simp (disch:=omega) only [wI];try simp [vl, NetD.cells, wI]))
 |(refine Split.by2 (fun h=>?_) (fun h=>?_)<;>(simp [h, vl, NetD.cells, wI];try (simp (disch:=omega) only [wI];try simp [vl, NetD.cells, wI])))
 |(apply hK;clear hK K)|refine AWh ‹_› ?_)
        refine aS1 (r := r) g 8 [1, 6, 7] (goX (fun p => greatE p.guards) 0) (by rw [hx4]; exact hv4) (by apply Weak.mk' <;> simp [vl, NetD.cells]) ?_ ?_
        · intro m p _ hlt hp hG
          rw [goX_cons] at hG
          have hpo := hg2 p (hp ▸ List.getElem_mem hlt)
          have hc0 := r_bad p.guards [] 13 (by have := hpo.2.1.1; omega) (by simp)
          have hc := PCall.denil (args := [vl GuardD.cells p.guards, .nils, .int .i64 13]) hc0 rfl
          rw [show (anyL (badG 13) p.guards || anyL (badS 13) []) = anyL (badG 13) p.guards by rw [anyL_nil, Bool.or_false]] at hc
          clear hc0
          have heq := greatE_eq p.guards
          have hlt' : (m : Int) < g.length := by omega
          have w1 : IntKind.i64.wrap ((m : Int) + 1) = m + 1 := wI (by omega) (by omega)
          simp only [vl] at hc
          simp only [heq] at hG
          clear heq
          generalize anyL (badG 13) p.guards = kb at *
          cases kb
          · rw [if_neg (by simp)] at hG
            repeat' (first
 |refine aK fun K hK=>?_|refine Step.by1 ?_|refine sE (by decide) ?_|refine cz rfl ?_|refine Fork.by2 (fun h=>?_) fun h=>?_
 |((first|refine aR ?_|refine aX (id:=13) 10 mixed (by decide) ?_|refine aP1 (f:=77) rfl rfl (hc) rfl rfl rfl ?_);simp [vl, NetD.cells, PartD.cells, hlt, hlt', hp, w1])
 |(refine Split.by2 (fun h=>?_) (fun h=>?_)<;>(simp [h, vl, NetD.cells, PartD.cells, hlt, hlt', hp, w1]))
 |(apply hK;clear hK K)|refine AWh ‹_› ?_)
            refine ⟨hG, ?_⟩; apply Weak.mk' <;> simp [vl, NetD.cells]
          · rw [if_pos (by simp)] at hG
            repeat' (first
 |refine aK fun K hK=>?_|refine Step.by1 ?_|refine sE (by decide) ?_|refine cz rfl ?_|refine Fork.by2 (fun h=>?_) fun h=>?_
 |((first|refine aR ?_|refine aX (id:=13) 10 mixed (by decide) ?_|refine aP1 (f:=77) rfl rfl (hc) rfl rfl rfl ?_);simp [vl, NetD.cells, PartD.cells, hlt, hlt', hp, w1])
 |(refine Split.by2 (fun h=>?_) (fun h=>?_)<;>(simp [h, vl, NetD.cells, PartD.cells, hlt, hlt', hp, w1]))
 |(apply hK;clear hK K)|refine AWh ‹_› ?_)
            exact r1q (cE (by rw [← hG]; rfl) rfl)
        · intro hG
          rw [goX_nil] at hG
          repeat' (first
 |refine aK fun K hK=>?_|refine Step.by1 ?_|refine sE (by decide) ?_|refine cz rfl ?_|refine Fork.by2 (fun h=>?_) fun h=>?_
 |(refine aR ?_;simp [vl, NetD.cells, wI];try (simp (disch:=omega) only [wI];try simp [vl, NetD.cells, wI]))
 |(refine Split.by2 (fun h=>?_) (fun h=>?_)<;>(simp [h, vl, NetD.cells, wI];try (simp (disch:=omega) only [wI];try simp [vl, NetD.cells, wI])))
 |(apply hK;clear hK K)|refine AWh ‹_› ?_)
          refine ⟨2, ⟨by omega, by rw [← hG]; rfl⟩, by omega, ?_⟩; apply Weak.mk' <;> simp [vl, NetD.cells]
      · have hv5 : 0 = r := by simpa using hv
        repeat' (first
 |refine aK fun K hK=>?_|refine Step.by1 ?_|refine sE (by decide) ?_|refine cz rfl ?_|refine Fork.by2 (fun h=>?_) fun h=>?_
 |(refine aR ?_;simp [vl, NetD.cells])
 |(refine Split.by2 (fun h=>?_) (fun h=>?_)<;>(simp [h, vl, NetD.cells]))
 |(apply hK;clear hK K)|refine AWh ‹_› ?_)
        exact r1q (cE (by rw [← hv5]; rfl) rfl)
      · omega
    · rw [if_pos hz9] at hr
      subst hr
      repeat' (first
 |refine aK fun K hK=>?_|refine Step.by1 ?_|refine sE (by decide) ?_|refine cz rfl ?_|refine Fork.by2 (fun h=>?_) fun h=>?_
 |((first|refine aR ?_|refine aC (f:=16) rfl rfl (h0) rfl rfl rfl ?_|refine aC (f:=76) rfl rfl (h1) rfl rfl rfl ?_);simp [vl, NetD.cells, hz9])
 |(refine Split.by2 (fun h=>?_) (fun h=>?_)<;>(simp [h, vl, NetD.cells, hz9]))
 |(apply hK;clear hK K)|refine AWh ‹_› ?_)
      exact r1q (cE rfl rfl)
  · rw [if_pos hz] at hr
    subst hr
    repeat' (first
 |refine aK fun K hK=>?_|refine Step.by1 ?_|refine sE (by decide) ?_|refine cz rfl ?_|refine Fork.by2 (fun h=>?_) fun h=>?_
 |((first|refine aR ?_|refine aC (f:=16) rfl rfl (h0) rfl rfl rfl ?_);simp [vl, NetD.cells, hz])
 |(refine Split.by2 (fun h=>?_) (fun h=>?_)<;>(simp [h, vl, NetD.cells, hz]))
 |(apply hK;clear hK K)|refine AWh ‹_› ?_)
    exact r1q (cE rfl rfl)
theorem raise2_append {l m : List GuardD} {s : List Int × List Int} : raise2 (l ++ m) s = raise2 m (raise2 l s) := by simp only [raise2, raiseL_append]
end Go.Proofs.YtgmlimipejcpgaaGreatDoor
end
