/-
  YtgmlimipejcpgaaDoorCd18: steps of the proof of a law of the program: what these texts prove holds under the hypotheses that their theorems name, and no others.
-/
import Derived.Test.YtgmlimipejcpgaaDoorCd17
section
set_option linter.unusedSimpArgs false
set_option linter.unusedVariables false
namespace Go.Proofs.YtgmlimipejcpgaaDoor
open Go Go.AM Fx
def longP (p : PartD) : Bool := decide (16 < p.locs.length ∨ 16 < p.guards.length ∨ 64 < p.test.length)
def atB (n : NetD) (x : AtD) : Bool := decide (x.auto < 0 ∨ (n.autos.length : Int) ≤ x.auto ∨ x.loc < 0 ∨ ((n.autos.getD x.auto.toNat default).locs.length : Int) ≤ x.loc)
def g1E (p : PartD) : Int := if longP p = true then 6 else 0
def g2E (n : NetD) (p : PartD) : Int := if anyL (atB n) p.locs = true then 122 else 0
def goF (f : PartD → Int) : List PartD → Int
  | [] => 0
  | p :: r => if f p ≠ 0 then f p else goF f r
theorem goF_nil {f : PartD → Int} : goF f [] = 0 := rfl
theorem goF_cons {f : PartD → Int} {p : PartD} {r : List PartD} : goF f (p :: r) = if f p ≠ 0 then f p else goF f r := rfl
def wholeGoalE (n : NetD) (g : List PartD) : Int :=
  firstE [wholeE n, if 16 < g.length then 6 else 0, goF g1E g, goF (g2E n) g, goF (fun p => clkE n p.guards) g, goF (fun p => cmpE p.guards) g, goF (fun p => truthE n p.test) g]
def goalE (n : NetD) (g : List PartD) : Int := firstE [netE n, wholeGoalE n g, goF (fun p => diagE p.guards) g, goF (fun p => greatE p.guards) g]
def okGoal (g : List PartD) : Prop := g.length ≤ 1048576 ∧ ∀ p ∈ g, p.ok
theorem c_WG1 (p : PartD) : PC 119 [.agg p.cells] (.int .i64 (g1E p)) := by
  obtain ⟨r, hr⟩ : ∃ r, g1E p = r := ⟨_, rfl⟩
  rw [hr]
  unfold g1E longP at hr
  refine pB Tryd.func119 rfl (by decide) Tryd.ntmps119 (by simp) Tryd.results119 ?_
  repeat' (first
 |refine aK fun K hK=>?_|refine Step.by1 ?_|refine sE (by decide) ?_|refine cz rfl ?_|refine Fork.by2 (fun h=>?_) fun h=>?_
 |(refine aR ?_;simp [vl, PartD.cells])
 |(refine Split.by2 (fun h=>?_) (fun h=>?_)<;>(simp [h, vl, PartD.cells]))
 |(apply hK;clear hK K)|refine AWh ‹_› ?_)
  all_goals first
    | exact r1q (cE (by rw [← hr, if_pos (by simp; omega)]; rfl) rfl)
    | exact r1q (cE (by rw [← hr, if_neg (by simp; omega)]; rfl) rfl)
    | (exfalso; omega)
theorem c_WG4 (p : PartD) (hp : p.ok) : PC 122 [.agg p.cells] (.int .i64 (cmpE p.guards)) := by
  have hc := c_cmpE p.guards (by have := hp.2.1.1; omega)
  simp only [vl] at hc
  refine pB Tryd.func122 rfl (by decide) Tryd.ntmps122 (by simp) Tryd.results122 ?_
  repeat' (first
 |refine aK fun K hK=>?_|refine Step.by1 ?_|refine sE (by decide) ?_|refine cz rfl ?_|refine Fork.by2 (fun h=>?_) fun h=>?_
 |((first|refine aR ?_|refine aC (f:=85) rfl rfl (hc) rfl rfl rfl ?_);simp [vl, PartD.cells])
 |(refine Split.by2 (fun h=>?_) (fun h=>?_)<;>(simp [h, vl, PartD.cells]))
 |(apply hK;clear hK K)|refine AWh ‹_› ?_)
  exact r1q (cE rfl rfl)
theorem c_WG3 (n : NetD) (p : PartD) (hp : p.ok) (e : List B) : GCall Tryd.prog GV 121 [.agg p.cells, .ptr 0 0] (.var n.cells :: e) (fun v h' => v = .int .i64 (clkE n p.guards) ∧ h' = .var n.cells :: e) := by
  have hc := c_clkE n p.guards (by have := hp.2.1.1; omega)
  simp only [vl, NetD.cells] at hc
  generalize clkE n p.guards = k at *
  refine gB1 Tryd.func121 rfl (by decide) Tryd.ntmps121 (by simp) Tryd.results121 ?_
  repeat' (first
 |refine aK fun K hK=>?_|refine Step.by1 ?_|refine sE (by decide) ?_|refine cz rfl ?_|refine Fork.by2 (fun h=>?_) fun h=>?_
 |((first|refine aR ?_|refine aC (f:=81) rfl rfl (hc) rfl rfl rfl ?_);simp [vl, PartD.cells, NetD.cells])
 |(refine Split.by2 (fun h=>?_) (fun h=>?_)<;>(simp [h, vl, PartD.cells, NetD.cells]))
 |(apply hK;clear hK K)|refine AWh ‹_› ?_)
  exact retg1 (h' := .var n.cells :: e) ⟨rfl, rfl⟩ rfl (by simpa [NetD.cells, PartD.cells, vl] using leaves_drop (h := .var n.cells :: e) (x := [.var p.cells]))
theorem c_WG5 (n : NetD) (hn : n.ok) (p : PartD) (hp : p.ok) (e : List B) : GCall Tryd.prog GV 123 [.agg p.cells, .ptr 0 0] (.var n.cells :: e) (fun v h' => v = .int .i64 (truthE n p.test) ∧ h' = .var n.cells :: e) := by
  have hc := c_truth n p.test hp.2.2 hn.2.1.1
  simp only [vl, NetD.cells] at hc
  generalize truthE n p.test = k at *
  refine gB1 Tryd.func123 rfl (by decide) Tryd.ntmps123 (by simp) Tryd.results123 ?_
  repeat' (first
 |refine aK fun K hK=>?_|refine Step.by1 ?_|refine sE (by decide) ?_|refine cz rfl ?_|refine Fork.by2 (fun h=>?_) fun h=>?_
 |((first|refine aR ?_|refine aC (f:=86) rfl rfl (hc) rfl rfl rfl ?_);simp [vl, PartD.cells, NetD.cells])
 |(refine Split.by2 (fun h=>?_) (fun h=>?_)<;>(simp [h, vl, PartD.cells, NetD.cells]))
 |(apply hK;clear hK K)|refine AWh ‹_› ?_)
  exact retg1 (h' := .var n.cells :: e) ⟨rfl, rfl⟩ rfl (by simpa [NetD.cells, PartD.cells, vl] using leaves_drop (h := .var n.cells :: e) (x := [.var p.cells]))
set_option maxRecDepth 20000 in
set_option maxHeartbeats 8000000 in
theorem c_WG2 (n : NetD) (hn : n.ok) (p : PartD) (hp : p.ok) (e : List B) (hE : ∀ y ∈ e, y.lt (1 + e.length)) : GCall Tryd.prog GV 120 [.agg p.cells, .ptr 0 0] (.var n.cells :: e) (fun v h' => v = .int .i64 (g2E n p) ∧ h' = .var n.cells :: e) := by
  obtain ⟨r, hr⟩ : ∃ r, g2E n p = r := ⟨_, rfl⟩
  rw [hr]
  have hpl := hp.1.1
  have hnl := hn.2.2.2.1
  obtain ⟨E, hE'⟩ : ∃ E : List AtD → Int, E = fun l => if anyL (atB n) l = true then 122 else 0 := ⟨_, rfl⟩
  have hEc : ∀ a l, E (a :: l) = if atB n a = true then 122 else E l := fun a l => by subst hE'; by_cases h : atB n a = true <;> simp [anC, h]
  have hEn : E p.locs = r := by subst hE'; exact hr
  have hE0 : E [] = 0 := by subst hE'; rfl
  clear hr hE'
  have hlt1 : ∀ (y : B), y ∈ e ++ [B.var p.cells] → y.lt ([B.var n.cells] ++ (e ++ [B.var p.cells])).length := fun y hy => by
    rcases List.mem_append.1 hy with h | h
    · exact B.lt_mono (by simp; omega) (hE y h)
    · simp at h; subst h; simp [PartD.cells, vl]
  refine gB1 Tryd.func120 rfl (by decide) Tryd.ntmps120 (by simp) Tryd.results120 ?_
  repeat' (first
 |refine aK fun K hK=>?_|refine Step.by1 ?_|refine sE (by decide) ?_|refine cz rfl ?_|refine Fork.by2 (fun h=>?_) fun h=>?_
 |(refine aR ?_;simp [vl, PartD.cells, NetD.cells])
 |(refine Split.by2 (fun h=>?_) (fun h=>?_)<;>(simp [h, vl, PartD.cells, NetD.cells]))
 |(apply hK;clear hK K)|refine AWh ‹_› ?_)
  refine AW_range (r := r) p.locs 9 [1, 7, 8] (fun c : Unit => []) (fun _ => [.var n.cells] ++ (e ++ [.var p.cells])) (fun i c => True) (fun l _ => E l) ()
    hEn trivial (Weak.tail (x := []) (by simp [vl, NetD.cells, PartD.cells]) (by simp [vl]) (by simp [NetD.cells, vl]) hlt1) (fun _ _ _ => by simp) ?_ ?_
  · intro i c x _ hlt hx _ hF
    rw [hEc] at hF
    have hlt' : (i : Int) < p.locs.length := by omega
    have w1 : IntKind.i64.wrap ((i : Int) + 1) = i + 1 := wI (by omega) (by omega)
    have ha : atB n x = decide (x.auto < 0 ∨ (n.autos.length : Int) ≤ x.auto ∨ x.loc < 0 ∨ ((n.autos.getD x.auto.toNat default).locs.length : Int) ≤ x.loc) := rfl
    by_cases q : 0 ≤ x.auto ∧ x.auto < n.autos.length
    · obtain ⟨k, hk⟩ := Int.eq_ofNat_of_zero_le q.1
      have hkl : k < n.autos.length := by omega
      have hkl' : (k : Int) < n.autos.length := by omega
      obtain ⟨a, haa⟩ : ∃ a, n.autos[k] = a := ⟨_, rfl⟩
      have hg : n.autos.getD x.auto.toNat default = a := by rw [hk]; simp [List.getD, hkl, haa]
      rw [hg] at ha
      have hk0 : ¬ (k : Int) < 0 := by omega
      have hk1 : ¬ (n.autos.length : Int) ≤ k := by omega
      rw [hk] at ha
      repeat' (first
 |refine aK fun K hK=>?_|refine Step.by1 ?_|refine sE (by decide) ?_|refine cz rfl ?_|refine Fork.by2 (fun h=>?_) fun h=>?_
 |((first|refine aR ?_|refine aX (id:=4) 29 mixed (by decide) ?_);simp [vl, PartD.cells, NetD.cells, AtD.cells, AutoD.cells, hlt, hlt', hx, w1, hk, hkl, hkl', haa, hk0, hk1])
 |(refine Split.by2 (fun h=>?_) (fun h=>?_)<;>(simp [h, vl, PartD.cells, NetD.cells, AtD.cells, AutoD.cells, hlt, hlt', hx, w1, hk, hkl, hkl', haa, hk0, hk1]))
 |(apply hK;clear hK K)|refine AWh ‹_› ?_)
      all_goals first
        | (rw [if_pos (by rw [ha]; simp; omega)] at hF
           exact retg1 (h' := .var n.cells :: e) ⟨by rw [← hF]; rfl, rfl⟩ rfl (by simpa [NetD.cells, PartD.cells, AtD.cells, vl, hk] using leaves_drop (h := .var n.cells :: e) (x := [.var p.cells, .var x.cells])))
        | (rw [if_neg (by rw [ha]; simp; omega)] at hF
           refine ⟨hF, ?_⟩
           refine Weak.tail (a := [B.var n.cells]) (e := e ++ [.var p.cells]) (x := [B.var x.cells]) ?_ ?_ ?_ hlt1
           · simp [NetD.cells, PartD.cells, AtD.cells, vl, hk]
           · simp [vl]
           · simp [NetD.cells, vl])
    · rw [if_pos (by rw [ha]; simp; omega)] at hF
      repeat' (first
 |refine aK fun K hK=>?_|refine Step.by1 ?_|refine sE (by decide) ?_|refine cz rfl ?_|refine Fork.by2 (fun h=>?_) fun h=>?_
 |((first|refine aR ?_|refine aX (id:=4) 29 mixed (by decide) ?_);simp [vl, PartD.cells, NetD.cells, AtD.cells, hlt, hlt', hx, w1])
 |(refine Split.by2 (fun h=>?_) (fun h=>?_)<;>(simp [h, vl, PartD.cells, NetD.cells, AtD.cells, hlt, hlt', hx, w1]))
 |(apply hK;clear hK K)|refine AWh ‹_› ?_)
      all_goals first
        | (exfalso; omega)
        | exact retg1 (h' := .var n.cells :: e) ⟨by rw [← hF]; rfl, rfl⟩ rfl (by simpa [NetD.cells, PartD.cells, AtD.cells, vl] using leaves_drop (h := .var n.cells :: e) (x := [.var p.cells, .var x.cells]))
  · intro c _ hF
    repeat' (first
 |refine aK fun K hK=>?_|refine Step.by1 ?_|refine sE (by decide) ?_|refine cz rfl ?_|refine Fork.by2 (fun h=>?_) fun h=>?_
 |(refine aR ?_;simp [vl, PartD.cells, NetD.cells])
 |(refine Split.by2 (fun h=>?_) (fun h=>?_)<;>(simp [h, vl, PartD.cells, NetD.cells]))
 |(apply hK;clear hK K)|refine AWh ‹_› ?_)
    exact retg1 (h' := .var n.cells :: e) ⟨by rw [← hF, hE0]; rfl, rfl⟩ rfl (by simpa [NetD.cells, PartD.cells, vl] using leaves_drop (h := .var n.cells :: e) (x := [.var p.cells]))
def rowWG : List (List V) := [[.fn (.func 119) [] []], [.fn (.func 120) [] [.ptr 0 0]], [.fn (.func 121) [] [.ptr 0 0]], [.fn (.func 122) [] []], [.fn (.func 123) [] [.ptr 0 0]]]
set_option maxRecDepth 20000 in
set_option maxHeartbeats 16000000 in
theorem c_WholeGoal (n : NetD) (hn : n.ok) (g : List PartD) (hg : okGoal g) : PC 103 [.agg n.cells, vl PartD.cells g] (.int .i64 (wholeGoalE n g)) := by
  have h0 := c_Whole n hn
  obtain ⟨hg1, hg2⟩ := hg
  obtain ⟨r, hr⟩ : ∃ r, wholeGoalE n g = r := ⟨_, rfl⟩
  rw [hr]
  unfold wholeGoalE at hr
  rw [fC, fC] at hr
  generalize wholeE n = e0 at *
  simp only [vl, NetD.cells] at h0
  refine pB Tryd.func103 rfl (by decide) Tryd.ntmps103 (by simp) Tryd.results103 ?_
  by_cases hz : e0 = 0
  · rw [if_neg (by simp [hz])] at hr
    rw [hz] at h0
    by_cases hlong : 16 < g.length
    · rw [if_pos hlong, if_pos (by decide)] at hr
      have hl' : (16 : Int) < g.length := by omega
      repeat' (first
 |refine aK fun K hK=>?_|refine Step.by1 ?_|refine sE (by decide) ?_|refine cz rfl ?_|refine Fork.by2 (fun h=>?_) fun h=>?_
 |((first|refine aR ?_|refine aC (f:=12) rfl rfl (h0) rfl rfl rfl ?_);simp [vl, NetD.cells, hlong, hl'])
 |(refine Split.by2 (fun h=>?_) (fun h=>?_)<;>(simp [h, vl, NetD.cells, hlong, hl']))
 |(apply hK;clear hK K)|refine AWh ‹_› ?_)
      exact r1q (cE (by rw [← hr]; rfl) rfl)
    · rw [if_neg hlong, if_neg (by decide)] at hr
      have hl' : ¬ (16 : Int) < g.length := by omega
      obtain ⟨e1, he1⟩ : ∃ e1, goF g1E g = e1 := ⟨_, rfl⟩
      obtain ⟨e2, he2⟩ : ∃ e2, goF (g2E n) g = e2 := ⟨_, rfl⟩
      obtain ⟨e3, he3⟩ : ∃ e3, goF (fun p => clkE n p.guards) g = e3 := ⟨_, rfl⟩
      obtain ⟨e4, he4⟩ : ∃ e4, goF (fun p => cmpE p.guards) g = e4 := ⟨_, rfl⟩
      obtain ⟨e5, he5⟩ : ∃ e5, goF (fun p => truthE n p.test) g = e5 := ⟨_, rfl⟩
      rw [he1, he2, he3, he4, he5] at hr
      repeat' (first
 |refine aK fun K hK=>?_|refine Step.by1 ?_|refine sE (by decide) ?_|refine cz rfl ?_|refine Fork.by2 (fun h=>?_) fun h=>?_
 |((first|refine aR ?_|refine aC (f:=12) rfl rfl (h0) rfl rfl rfl ?_);simp [vl, NetD.cells, hlong, hl'])
 |(refine Split.by2 (fun h=>?_) (fun h=>?_)<;>(simp [h, vl, NetD.cells, hlong, hl']))
 |(apply hK;clear hK K)|refine AWh ‹_› ?_)
      refine aL [1, 24, 25] (fun i : Nat => [(26, .int .i64 i)]) (fun _ => [.var n.cells, .row 154 0 0 false rowWG]) (fun i => i ≤ 5 ∧ firstE ([e1, e2, e3, e4, e5].drop i) = r) (fun i => 5 - i) 0 ⟨Nat.zero_le _, hr⟩ (by apply Weak.mk' <;> simp [vl, NetD.cells, rowWG]) (fun _ _ => rfl) ?_
      clear hr
      rintro i ⟨hi, hF⟩
      rcases i with _ | _ | _ | _ | _ | _ | i
      · rw [show [e1, e2, e3, e4, e5].drop 0 = e1 :: [e1, e2, e3, e4, e5].drop 1 from rfl, fC] at hF
        repeat' (first
 |refine aK fun K hK=>?_|refine Step.by1 ?_|refine sE (by decide) ?_|refine cz rfl ?_|refine Fork.by2 (fun h=>?_) fun h=>?_
 |(refine aR ?_;simp [vl, NetD.cells, rowWG, wI];try (simp (disch:=omega) only [wI];try simp [vl, NetD.cells, rowWG, wI]))
 |(refine Split.by2 (fun h=>?_) (fun h=>?_)<;>(simp [h, vl, NetD.cells, rowWG, wI];try (simp (disch:=omega) only [wI];try simp [vl, NetD.cells, rowWG, wI])))
 |(apply hK;clear hK K)|refine AWh ‹_› ?_)
        refine aS1 (r := e1) g 32 [1, 8, 24, 25, 26, 30, 31] (goF g1E) he1 (by apply Weak.mk' <;> simp [vl, NetD.cells, rowWG]) ?_ ?_
        · intro m p _ hlt hp hG
          rw [goF_cons] at hG
          have hpo := hg2 p (hp ▸ List.getElem_mem hlt)
          have hc := c_WG1 p
          have hlt' : (m : Int) < g.length := by omega
          have w1 : IntKind.i64.wrap ((m : Int) + 1) = m + 1 := wI (by omega) (by omega)
          simp only [PartD.cells, vl] at hc
          generalize g1E p = q at *
          by_cases hq0 : q = 0
          · rw [if_neg (by simp [hq0])] at hG
            rw [hq0] at hc
            repeat' (first
 |refine aK fun K hK=>?_|refine Step.by1 ?_|refine sE (by decide) ?_|refine cz rfl ?_|refine Fork.by2 (fun h=>?_) fun h=>?_
 |(refine aR ?_;simp [vl, NetD.cells, PartD.cells, rowWG, hlt, hlt', hp, w1])
 |(refine Split.by2 (fun h=>?_) (fun h=>?_)<;>(simp [h, vl, NetD.cells, PartD.cells, rowWG, hlt, hlt', hp, w1]))
 |(refine aC (f := 119) rfl rfl hc rfl rfl rfl ?_; simp [hq0])
 |(apply hK;clear hK K)|refine AWh ‹_› ?_)
            refine ⟨hG, ?_⟩; apply Weak.mk' <;> simp [vl, NetD.cells, rowWG]
          · rw [if_pos hq0] at hG
            subst hG
            rw [if_pos hq0] at hF
            repeat' (first
 |refine aK fun K hK=>?_|refine Step.by1 ?_|refine sE (by decide) ?_|refine cz rfl ?_|refine Fork.by2 (fun h=>?_) fun h=>?_
 |(refine aR ?_;simp [vl, NetD.cells, PartD.cells, rowWG, hlt, hlt', hp, w1, hq0])
 |(refine Split.by2 (fun h=>?_) (fun h=>?_)<;>(simp [h, vl, NetD.cells, PartD.cells, rowWG, hlt, hlt', hp, w1, hq0]))
 |(refine aC (f := 119) rfl rfl hc rfl rfl rfl ?_; simp [hq0])
 |(apply hK;clear hK K)|refine AWh ‹_› ?_)
            exact r1q (cE (by rw [← hF]; rfl) rfl)
        · intro hG
          rw [goF_nil] at hG
          rw [if_neg (by simp [← hG])] at hF
          repeat' (first
 |refine aK fun K hK=>?_|refine Step.by1 ?_|refine sE (by decide) ?_|refine cz rfl ?_|refine Fork.by2 (fun h=>?_) fun h=>?_
 |(refine aR ?_;simp [vl, NetD.cells, rowWG, wI];try (simp (disch:=omega) only [wI];try simp [vl, NetD.cells, rowWG, wI]))
 |(refine Split.by2 (fun h=>?_) (fun h=>?_)<;>(simp [h, vl, NetD.cells, rowWG, wI];try (simp (disch:=omega) only [wI];try simp [vl, NetD.cells, rowWG, wI])))
 |(apply hK;clear hK K)|refine AWh ‹_› ?_)
          refine ⟨1, ⟨by omega, hF⟩, by omega, ?_⟩; apply Weak.mk' <;> simp [vl, NetD.cells, rowWG]
      · rw [show [e1, e2, e3, e4, e5].drop 1 = e2 :: [e1, e2, e3, e4, e5].drop 2 from rfl, fC] at hF
        repeat' (first
 |refine aK fun K hK=>?_|refine Step.by1 ?_|refine sE (by decide) ?_|refine cz rfl ?_|refine Fork.by2 (fun h=>?_) fun h=>?_
 |(refine aR ?_;simp [vl, NetD.cells, rowWG, wI];try (simp (disch:=omega) only [wI];try simp [vl, NetD.cells, rowWG, wI]))
 |(refine Split.by2 (fun h=>?_) (fun h=>?_)<;>(simp [h, vl, NetD.cells, rowWG, wI];try (simp (disch:=omega) only [wI];try simp [vl, NetD.cells, rowWG, wI])))
 |(apply hK;clear hK K)|refine AWh ‹_› ?_)
        refine aS1 (r := e2) g 32 [1, 8, 24, 25, 26, 30, 31] (goF (g2E n)) he2 (by apply Weak.mk' <;> simp [vl, NetD.cells, rowWG]) ?_ ?_
        · intro m p _ hlt hp hG
          rw [goF_cons] at hG
          have hpo := hg2 p (hp ▸ List.getElem_mem hlt)
          have hc := c_WG2 n hn p hpo [.row 154 0 0 false rowWG, .var p.cells] (by simp [PartD.cells, vl, rowWG])
          have hlt' : (m : Int) < g.length := by omega
          have w1 : IntKind.i64.wrap ((m : Int) + 1) = m + 1 := wI (by omega) (by omega)
          try simp only at hc
          generalize g2E n p = q at *
          by_cases hq0 : q = 0
          · rw [if_neg (by simp [hq0])] at hG
            rw [hq0] at hc
            repeat' (first
 |refine aK fun K hK=>?_|refine Step.by1 ?_|refine sE (by decide) ?_|refine cz rfl ?_|refine Fork.by2 (fun h=>?_) fun h=>?_
 |(refine aR ?_;simp [vl, NetD.cells, PartD.cells, rowWG, hlt, hlt', hp, w1])
 |(refine Split.by2 (fun h=>?_) (fun h=>?_)<;>(simp [h, vl, NetD.cells, PartD.cells, rowWG, hlt, hlt', hp, w1]))
 |(refine aG (f := 120) rfl rfl (hc.imp (by simp [PartD.cells, vl]) (by simp [NetD.cells, PartD.cells, vl, rowWG])) rfl (fun v h' hq => ?_); obtain ⟨rfl, rfl⟩ := hq; simp [vl, NetD.cells, PartD.cells, rowWG, hq0])
 |(apply hK;clear hK K)|refine AWh ‹_› ?_)
            refine ⟨hG, ?_⟩; apply Weak.mk' <;> simp [vl, NetD.cells, rowWG]
          · rw [if_pos hq0] at hG
            subst hG
            rw [if_pos hq0] at hF
            repeat' (first
 |refine aK fun K hK=>?_|refine Step.by1 ?_|refine sE (by decide) ?_|refine cz rfl ?_|refine Fork.by2 (fun h=>?_) fun h=>?_
 |(refine aR ?_;simp [vl, NetD.cells, PartD.cells, rowWG, hlt, hlt', hp, w1, hq0])
 |(refine Split.by2 (fun h=>?_) (fun h=>?_)<;>(simp [h, vl, NetD.cells, PartD.cells, rowWG, hlt, hlt', hp, w1, hq0]))
 |(refine aG (f := 120) rfl rfl (hc.imp (by simp [PartD.cells, vl]) (by simp [NetD.cells, PartD.cells, vl, rowWG])) rfl (fun v h' hq => ?_); obtain ⟨rfl, rfl⟩ := hq; simp [vl, NetD.cells, PartD.cells, rowWG, hq0])
 |(apply hK;clear hK K)|refine AWh ‹_› ?_)
            exact r1q (cE (by rw [← hF]; rfl) rfl)
        · intro hG
          rw [goF_nil] at hG
          rw [if_neg (by simp [← hG])] at hF
          repeat' (first
 |refine aK fun K hK=>?_|refine Step.by1 ?_|refine sE (by decide) ?_|refine cz rfl ?_|refine Fork.by2 (fun h=>?_) fun h=>?_
 |(refine aR ?_;simp [vl, NetD.cells, rowWG, wI];try (simp (disch:=omega) only [wI];try simp [vl, NetD.cells, rowWG, wI]))
 |(refine Split.by2 (fun h=>?_) (fun h=>?_)<;>(simp [h, vl, NetD.cells, rowWG, wI];try (simp (disch:=omega) only [wI];try simp [vl, NetD.cells, rowWG, wI])))
 |(apply hK;clear hK K)|refine AWh ‹_› ?_)
          refine ⟨2, ⟨by omega, hF⟩, by omega, ?_⟩; apply Weak.mk' <;> simp [vl, NetD.cells, rowWG]
      · rw [show [e1, e2, e3, e4, e5].drop 2 = e3 :: [e1, e2, e3, e4, e5].drop 3 from rfl, fC] at hF
        repeat' (first
 |refine aK fun K hK=>?_|refine Step.by1 ?_|refine sE (by decide) ?_|refine cz rfl ?_|refine Fork.by2 (fun h=>?_) fun h=>?_
 |(refine aR ?_;simp [vl, NetD.cells, rowWG, wI];try (simp (disch:=omega) only [wI];try simp [vl, NetD.cells, rowWG, wI]))
 |(refine Split.by2 (fun h=>?_) (fun h=>?_)<;>(simp [h, vl, NetD.cells, rowWG, wI];try (simp (disch:=omega) only [wI];try simp [vl, NetD.cells, rowWG, wI])))
 |(apply hK;clear hK K)|refine AWh ‹_› ?_)
        refine aS1 (r := e3) g 32 [1, 8, 24, 25, 26, 30, 31] (goF (fun p => clkE n p.guards)) he3 (by apply Weak.mk' <;> simp [vl, NetD.cells, rowWG]) ?_ ?_
        · intro m p _ hlt hp hG
          rw [goF_cons] at hG
          have hpo := hg2 p (hp ▸ List.getElem_mem hlt)
          have hc := c_WG3 n p hpo [.row 154 0 0 false rowWG, .var p.cells]
          have hlt' : (m : Int) < g.length := by omega
          have w1 : IntKind.i64.wrap ((m : Int) + 1) = m + 1 := wI (by omega) (by omega)
          try simp only at hc
          generalize clkE n p.guards = q at *
          by_cases hq0 : q = 0
          · rw [if_neg (by simp [hq0])] at hG
            rw [hq0] at hc
            repeat' (first
 |refine aK fun K hK=>?_|refine Step.by1 ?_|refine sE (by decide) ?_|refine cz rfl ?_|refine Fork.by2 (fun h=>?_) fun h=>?_
 |(refine aR ?_;simp [vl, NetD.cells, PartD.cells, rowWG, hlt, hlt', hp, w1])
 |(refine Split.by2 (fun h=>?_) (fun h=>?_)<;>(simp [h, vl, NetD.cells, PartD.cells, rowWG, hlt, hlt', hp, w1]))
 |(refine aG (f := 121) rfl rfl (hc.imp (by simp [PartD.cells, vl]) (by simp [NetD.cells, PartD.cells, vl, rowWG])) rfl (fun v h' hq => ?_); obtain ⟨rfl, rfl⟩ := hq; simp [vl, NetD.cells, PartD.cells, rowWG, hq0])
 |(apply hK;clear hK K)|refine AWh ‹_› ?_)
            refine ⟨hG, ?_⟩; apply Weak.mk' <;> simp [vl, NetD.cells, rowWG]
          · rw [if_pos hq0] at hG
            subst hG
            rw [if_pos hq0] at hF
            repeat' (first
 |refine aK fun K hK=>?_|refine Step.by1 ?_|refine sE (by decide) ?_|refine cz rfl ?_|refine Fork.by2 (fun h=>?_) fun h=>?_
 |(refine aR ?_;simp [vl, NetD.cells, PartD.cells, rowWG, hlt, hlt', hp, w1, hq0])
 |(refine Split.by2 (fun h=>?_) (fun h=>?_)<;>(simp [h, vl, NetD.cells, PartD.cells, rowWG, hlt, hlt', hp, w1, hq0]))
 |(refine aG (f := 121) rfl rfl (hc.imp (by simp [PartD.cells, vl]) (by simp [NetD.cells, PartD.cells, vl, rowWG])) rfl (fun v h' hq => ?_); obtain ⟨rfl, rfl⟩ := hq; simp [vl, NetD.cells, PartD.cells, rowWG, hq0])
 |(apply hK;clear hK K)|refine AWh ‹_› ?_)
            exact r1q (cE (by rw [← hF]; rfl) rfl)
        · intro hG
          rw [goF_nil] at hG
          rw [if_neg (by simp [← hG])] at hF
          repeat' (first
 |refine aK fun K hK=>?_|refine Step.by1 ?_|refine sE (by decide) ?_|refine cz rfl ?_|refine Fork.by2 (fun h=>?_) fun h=>?_
 |(refine aR ?_;simp [vl, NetD.cells, rowWG, wI];try (simp (disch:=omega) only [wI];try simp [vl, NetD.cells, rowWG, wI]))
 |(refine Split.by2 (fun h=>?_) (fun h=>?_)<;>(simp [h, vl, NetD.cells, rowWG, wI];try (simp (disch:=omega) only [wI];try simp [vl, NetD.cells, rowWG, wI])))
 |(apply hK;clear hK K)|refine AWh ‹_› ?_)
          refine ⟨3, ⟨by omega, hF⟩, by omega, ?_⟩; apply Weak.mk' <;> simp [vl, NetD.cells, rowWG]
      · rw [show [e1, e2, e3, e4, e5].drop 3 = e4 :: [e1, e2, e3, e4, e5].drop 4 from rfl, fC] at hF
        repeat' (first
 |refine aK fun K hK=>?_|refine Step.by1 ?_|refine sE (by decide) ?_|refine cz rfl ?_|refine Fork.by2 (fun h=>?_) fun h=>?_
 |(refine aR ?_;simp [vl, NetD.cells, rowWG, wI];try (simp (disch:=omega) only [wI];try simp [vl, NetD.cells, rowWG, wI]))
 |(refine Split.by2 (fun h=>?_) (fun h=>?_)<;>(simp [h, vl, NetD.cells, rowWG, wI];try (simp (disch:=omega) only [wI];try simp [vl, NetD.cells, rowWG, wI])))
 |(apply hK;clear hK K)|refine AWh ‹_› ?_)
        refine aS1 (r := e4) g 32 [1, 8, 24, 25, 26, 30, 31] (goF (fun p => cmpE p.guards)) he4 (by apply Weak.mk' <;> simp [vl, NetD.cells, rowWG]) ?_ ?_
        · intro m p _ hlt hp hG
          rw [goF_cons] at hG
          have hpo := hg2 p (hp ▸ List.getElem_mem hlt)
          have hc := c_WG4 p hpo
          have hlt' : (m : Int) < g.length := by omega
          have w1 : IntKind.i64.wrap ((m : Int) + 1) = m + 1 := wI (by omega) (by omega)
          simp only [PartD.cells, vl] at hc
          generalize cmpE p.guards = q at *
          by_cases hq0 : q = 0
          · rw [if_neg (by simp [hq0])] at hG
            rw [hq0] at hc
            repeat' (first
 |refine aK fun K hK=>?_|refine Step.by1 ?_|refine sE (by decide) ?_|refine cz rfl ?_|refine Fork.by2 (fun h=>?_) fun h=>?_
 |(refine aR ?_;simp [vl, NetD.cells, PartD.cells, rowWG, hlt, hlt', hp, w1])
 |(refine Split.by2 (fun h=>?_) (fun h=>?_)<;>(simp [h, vl, NetD.cells, PartD.cells, rowWG, hlt, hlt', hp, w1]))
 |(refine aC (f := 122) rfl rfl hc rfl rfl rfl ?_; simp [hq0])
 |(apply hK;clear hK K)|refine AWh ‹_› ?_)
            refine ⟨hG, ?_⟩; apply Weak.mk' <;> simp [vl, NetD.cells, rowWG]
          · rw [if_pos hq0] at hG
            subst hG
            rw [if_pos hq0] at hF
            repeat' (first
 |refine aK fun K hK=>?_|refine Step.by1 ?_|refine sE (by decide) ?_|refine cz rfl ?_|refine Fork.by2 (fun h=>?_) fun h=>?_
 |(refine aR ?_;simp [vl, NetD.cells, PartD.cells, rowWG, hlt, hlt', hp, w1, hq0])
 |(refine Split.by2 (fun h=>?_) (fun h=>?_)<;>(simp [h, vl, NetD.cells, PartD.cells, rowWG, hlt, hlt', hp, w1, hq0]))
 |(refine aC (f := 122) rfl rfl hc rfl rfl rfl ?_; simp [hq0])
 |(apply hK;clear hK K)|refine AWh ‹_› ?_)
            exact r1q (cE (by rw [← hF]; rfl) rfl)
        · intro hG
          rw [goF_nil] at hG
          rw [if_neg (by simp [← hG])] at hF
          repeat' (first
 |refine aK fun K hK=>?_|refine Step.by1 ?_|refine sE (by decide) ?_|refine cz rfl ?_|refine Fork.by2 (fun h=>?_) fun h=>?_
 |(refine aR ?_;simp [vl, NetD.cells, rowWG, wI];try (simp (disch:=omega) only [wI];try simp [vl, NetD.cells, rowWG, wI]))
 |(refine Split.by2 (fun h=>?_) (fun h=>?_)<;>(simp [h, vl, NetD.cells, rowWG, wI];try (simp (disch:=omega) only [wI];try simp [vl, NetD.cells, rowWG, wI])))
 |(apply hK;clear hK K)|refine AWh ‹_› ?_)
          refine ⟨4, ⟨by omega, hF⟩, by omega, ?_⟩; apply Weak.mk' <;> simp [vl, NetD.cells, rowWG]
      · rw [show [e1, e2, e3, e4, e5].drop 4 = e5 :: [e1, e2, e3, e4, e5].drop 5 from rfl, fC] at hF
        repeat' (first
 |refine aK fun K hK=>?_|refine Step.by1 ?_|refine sE (by decide) ?_|refine cz rfl ?_|refine Fork.by2 (fun h=>?_) fun h=>?_
 |(refine aR ?_;simp [vl, NetD.cells, rowWG, wI];try (simp (disch:=omega) only [wI];try simp [vl, NetD.cells, rowWG, wI]))
 |(refine Split.by2 (fun h=>?_) (fun h=>?_)<;>(simp [h, vl, NetD.cells, rowWG, wI];try (simp (disch:=omega) only [wI];try simp [vl, NetD.cells, rowWG, wI])))
 |(apply hK;clear hK K)|refine AWh ‹_› ?_)
        refine aS1 (r := e5) g 32 [1, 8, 24, 25, 26, 30, 31] (goF (fun p => truthE n p.test)) he5 (by apply Weak.mk' <;> simp [vl, NetD.cells, rowWG]) ?_ ?_
        · intro m p _ hlt hp hG
          rw [goF_cons] at hG
          have hpo := hg2 p (hp ▸ List.getElem_mem hlt)
          have hc := c_WG5 n hn p hpo [.row 154 0 0 false rowWG, .var p.cells]
          have hlt' : (m : Int) < g.length := by omega
          have w1 : IntKind.i64.wrap ((m : Int) + 1) = m + 1 := wI (by omega) (by omega)
          try simp only at hc
          generalize truthE n p.test = q at *
          by_cases hq0 : q = 0
          · rw [if_neg (by simp [hq0])] at hG
            rw [hq0] at hc
            repeat' (first
 |refine aK fun K hK=>?_|refine Step.by1 ?_|refine sE (by decide) ?_|refine cz rfl ?_|refine Fork.by2 (fun h=>?_) fun h=>?_
 |(refine aR ?_;simp [vl, NetD.cells, PartD.cells, rowWG, hlt, hlt', hp, w1])
 |(refine Split.by2 (fun h=>?_) (fun h=>?_)<;>(simp [h, vl, NetD.cells, PartD.cells, rowWG, hlt, hlt', hp, w1]))
 |(refine aG (f := 123) rfl rfl (hc.imp (by simp [PartD.cells, vl]) (by simp [NetD.cells, PartD.cells, vl, rowWG])) rfl (fun v h' hq => ?_); obtain ⟨rfl, rfl⟩ := hq; simp [vl, NetD.cells, PartD.cells, rowWG, hq0])
 |(apply hK;clear hK K)|refine AWh ‹_› ?_)
            refine ⟨hG, ?_⟩; apply Weak.mk' <;> simp [vl, NetD.cells, rowWG]
          · rw [if_pos hq0] at hG
            subst hG
            rw [if_pos hq0] at hF
            repeat' (first
 |refine aK fun K hK=>?_|refine Step.by1 ?_|refine sE (by decide) ?_|refine cz rfl ?_|refine Fork.by2 (fun h=>?_) fun h=>?_
 |(refine aR ?_;simp [vl, NetD.cells, PartD.cells, rowWG, hlt, hlt', hp, w1, hq0])
 |(refine Split.by2 (fun h=>?_) (fun h=>?_)<;>(simp [h, vl, NetD.cells, PartD.cells, rowWG, hlt, hlt', hp, w1, hq0]))
 |(refine aG (f := 123) rfl rfl (hc.imp (by simp [PartD.cells, vl]) (by simp [NetD.cells, PartD.cells, vl, rowWG])) rfl (fun v h' hq => ?_); obtain ⟨rfl, rfl⟩ := hq; simp [vl, NetD.cells, PartD.cells, rowWG, hq0])
 |(apply hK;clear hK K)|refine AWh ‹_› ?_)
            exact r1q (cE (by rw [← hF]; rfl) rfl)
        · intro hG
          rw [goF_nil] at hG
          rw [if_neg (by simp [← hG])] at hF
          repeat' (first
 |refine aK fun K hK=>?_|refine Step.by1 ?_|refine sE (by decide) ?_|refine cz rfl ?_|refine Fork.by2 (fun h=>?_) fun h=>?_
 |(refine aR ?_;simp [vl, NetD.cells, rowWG, wI];try (simp (disch:=omega) only [wI];try simp [vl, NetD.cells, rowWG, wI]))
 |(refine Split.by2 (fun h=>?_) (fun h=>?_)<;>(simp [h, vl, NetD.cells, rowWG, wI];try (simp (disch:=omega) only [wI];try simp [vl, NetD.cells, rowWG, wI])))
 |(apply hK;clear hK K)|refine AWh ‹_› ?_)
          refine ⟨5, ⟨by omega, hF⟩, by omega, ?_⟩; apply Weak.mk' <;> simp [vl, NetD.cells, rowWG]
      · repeat' (first
 |refine aK fun K hK=>?_|refine Step.by1 ?_|refine sE (by decide) ?_|refine cz rfl ?_|refine Fork.by2 (fun h=>?_) fun h=>?_
 |(refine aR ?_;simp [vl, NetD.cells, rowWG])
 |(refine Split.by2 (fun h=>?_) (fun h=>?_)<;>(simp [h, vl, NetD.cells, rowWG]))
 |(apply hK;clear hK K)|refine AWh ‹_› ?_)
        exact r1q (cE (by rw [← hF]; rfl) rfl)
      · omega
  · rw [if_pos hz] at hr
    subst hr
    repeat' (first
 |refine aK fun K hK=>?_|refine Step.by1 ?_|refine sE (by decide) ?_|refine cz rfl ?_|refine Fork.by2 (fun h=>?_) fun h=>?_
 |((first|refine aR ?_|refine aC (f:=12) rfl rfl (h0) rfl rfl rfl ?_);simp [vl, NetD.cells, hz])
 |(refine Split.by2 (fun h=>?_) (fun h=>?_)<;>(simp [h, vl, NetD.cells, hz]))
 |(apply hK;clear hK K)|refine AWh ‹_› ?_)
    exact r1q (cE rfl rfl)
set_option maxRecDepth 20000 in
set_option maxHeartbeats 16000000 in
theorem c_Goal (n : NetD) (hn : n.ok) (g : List PartD) (hg : okGoal g) : PC 66 [.agg n.cells, vl PartD.cells g] (.int .i64 (goalE n g)) := by
  have h0 := c_Net n hn
  have h1 := c_WholeGoal n hn g hg
  obtain ⟨hg1, hg2⟩ := hg
  obtain ⟨r, hr⟩ : ∃ r, goalE n g = r := ⟨_, rfl⟩
  rw [hr]
  unfold goalE at hr
  rw [fC, fC] at hr
  generalize netE n = e0 at *
  generalize wholeGoalE n g = e9 at *
  simp only [vl, NetD.cells] at h0 h1
  refine pB Tryd.func66 rfl (by decide) Tryd.ntmps66 (by simp) Tryd.results66 ?_
  by_cases hz : e0 = 0
  · rw [if_neg (by simp [hz])] at hr
    rw [hz] at h0
    by_cases hz9 : e9 = 0
    · rw [if_neg (by simp [hz9])] at hr
      rw [hz9] at h1
      obtain ⟨e1, he1⟩ : ∃ e1, goF (fun p => diagE p.guards) g = e1 := ⟨_, rfl⟩
      obtain ⟨e2, he2⟩ : ∃ e2, goF (fun p => greatE p.guards) g = e2 := ⟨_, rfl⟩
      rw [he1, he2] at hr
      repeat' (first
 |refine aK fun K hK=>?_|refine Step.by1 ?_|refine sE (by decide) ?_|refine cz rfl ?_|refine Fork.by2 (fun h=>?_) fun h=>?_
 |((first|refine aR ?_|refine aC (f:=10) rfl rfl (h0) rfl rfl rfl ?_|refine aC (f:=103) rfl rfl (h1) rfl rfl rfl ?_);simp [vl, NetD.cells])
 |(refine Split.by2 (fun h=>?_) (fun h=>?_)<;>(simp [h, vl, NetD.cells]))
 |(apply hK;clear hK K)|refine AWh ‹_› ?_)
      refine aL [1, 23, 24] (fun i : Nat => [(25, .int .i64 i)]) (fun _ => [.var n.cells, .row 110 0 0 true [[.fn (.func 69) [] []], [.fn (.func 72) [] []]]]) (fun i => i ≤ 2 ∧ firstE ([e1, e2].drop i) = r) (fun i => 2 - i) 0 ⟨Nat.zero_le _, hr⟩ (by apply Weak.mk' <;> simp [vl, NetD.cells]) (fun _ _ => rfl) ?_
      clear hr
      rintro i ⟨hi, hF⟩
      rcases i with _ | _ | _ | i
      · rw [show [e1, e2].drop 0 = e1 :: [e1, e2].drop 1 from rfl, fC] at hF
        repeat' (first
 |refine aK fun K hK=>?_|refine Step.by1 ?_|refine sE (by decide) ?_|refine cz rfl ?_|refine Fork.by2 (fun h=>?_) fun h=>?_
 |(refine aR ?_;simp [vl, NetD.cells, wI];try (simp (disch:=omega) only [wI];try simp [vl, NetD.cells, wI]))
 |(refine Split.by2 (fun h=>?_) (fun h=>?_)<;>(simp [h, vl, NetD.cells, wI];try (simp (disch:=omega) only [wI];try simp [vl, NetD.cells, wI])))
 |(apply hK;clear hK K)|refine AWh ‹_› ?_)
        refine aS1 (r := e1) g 31 [1, 8, 23, 24, 25, 29, 30] (goF (fun p => diagE p.guards)) he1 (by apply Weak.mk' <;> simp [vl, NetD.cells]) ?_ ?_
        · intro m p _ hlt hp hG
          rw [goF_cons] at hG
          have hpo := hg2 p (hp ▸ List.getElem_mem hlt)
          have hc := c_diagE p.guards (by have := hpo.2.1.1; omega)
          have hlt' : (m : Int) < g.length := by omega
          have w1 : IntKind.i64.wrap ((m : Int) + 1) = m + 1 := wI (by omega) (by omega)
          simp only [vl] at hc
          generalize diagE p.guards = q at *
          by_cases hq0 : q = 0
          · rw [if_neg (by simp [hq0])] at hG
            rw [hq0] at hc
            repeat' (first
 |refine aK fun K hK=>?_|refine Step.by1 ?_|refine sE (by decide) ?_|refine cz rfl ?_|refine Fork.by2 (fun h=>?_) fun h=>?_
 |((first|refine aR ?_|refine aC (f:=69) rfl rfl (hc) rfl rfl rfl ?_);simp [vl, NetD.cells, PartD.cells, hlt, hlt', hp, w1])
 |(refine Split.by2 (fun h=>?_) (fun h=>?_)<;>(simp [h, vl, NetD.cells, PartD.cells, hlt, hlt', hp, w1]))
 |(apply hK;clear hK K)|refine AWh ‹_› ?_)
            refine ⟨hG, ?_⟩; apply Weak.mk' <;> simp [vl, NetD.cells]
          · rw [if_pos hq0] at hG
            subst hG
            rw [if_pos hq0] at hF
            repeat' (first
 |refine aK fun K hK=>?_|refine Step.by1 ?_|refine sE (by decide) ?_|refine cz rfl ?_|refine Fork.by2 (fun h=>?_) fun h=>?_
 |((first|refine aR ?_|refine aC (f:=69) rfl rfl (hc) rfl rfl rfl ?_);simp [vl, NetD.cells, PartD.cells, hlt, hlt', hp, w1, hq0])
 |(refine Split.by2 (fun h=>?_) (fun h=>?_)<;>(simp [h, vl, NetD.cells, PartD.cells, hlt, hlt', hp, w1, hq0]))
 |(apply hK;clear hK K)|refine AWh ‹_› ?_)
            exact r1q (cE (by rw [← hF]; rfl) rfl)
        · intro hG
          rw [goF_nil] at hG
          rw [if_neg (by simp [← hG])] at hF
          repeat' (first
 |refine aK fun K hK=>?_|refine Step.by1 ?_|refine sE (by decide) ?_|refine cz rfl ?_|refine Fork.by2 (fun h=>?_) fun h=>?_
 |(refine aR ?_;simp [vl, NetD.cells, wI];try (simp (disch:=omega) only [wI];try simp [vl, NetD.cells, wI]))
 |(refine Split.by2 (fun h=>?_) (fun h=>?_)<;>(simp [h, vl, NetD.cells, wI];try (simp (disch:=omega) only [wI];try simp [vl, NetD.cells, wI])))
 |(apply hK;clear hK K)|refine AWh ‹_› ?_)
          refine ⟨1, ⟨by omega, hF⟩, by omega, ?_⟩; apply Weak.mk' <;> simp [vl, NetD.cells]
      · rw [show [e1, e2].drop 1 = e2 :: [e1, e2].drop 2 from rfl, fC] at hF
        repeat' (first
 |refine aK fun K hK=>?_|refine Step.by1 ?_|refine sE (by decide) ?_|refine cz rfl ?_|refine Fork.by2 (fun h=>?_) fun h=>?_
 |(refine aR ?_;simp [vl, NetD.cells, wI];try (simp (disch:=omega) only [wI];try simp [vl, NetD.cells, wI]))
 |(refine Split.by2 (fun h=>?_) (fun h=>?_)<;>(simp [h, vl, NetD.cells, wI];try (simp (disch:=omega) only [wI];try simp [vl, NetD.cells, wI])))
 |(apply hK;clear hK K)|refine AWh ‹_› ?_)
        refine aS1 (r := e2) g 31 [1, 8, 23, 24, 25, 29, 30] (goF (fun p => greatE p.guards)) he2 (by apply Weak.mk' <;> simp [vl, NetD.cells]) ?_ ?_
        · intro m p _ hlt hp hG
          rw [goF_cons] at hG
          have hpo := hg2 p (hp ▸ List.getElem_mem hlt)
          have hc := c_greatE p.guards (by have := hpo.2.1.1; omega)
          have hlt' : (m : Int) < g.length := by omega
          have w1 : IntKind.i64.wrap ((m : Int) + 1) = m + 1 := wI (by omega) (by omega)
          simp only [vl] at hc
          generalize greatE p.guards = q at *
          by_cases hq0 : q = 0
          · rw [if_neg (by simp [hq0])] at hG
            rw [hq0] at hc
            repeat' (first
 |refine aK fun K hK=>?_|refine Step.by1 ?_|refine sE (by decide) ?_|refine cz rfl ?_|refine Fork.by2 (fun h=>?_) fun h=>?_
 |((first|refine aR ?_|refine aC (f:=72) rfl rfl (hc) rfl rfl rfl ?_);simp [vl, NetD.cells, PartD.cells, hlt, hlt', hp, w1])
 |(refine Split.by2 (fun h=>?_) (fun h=>?_)<;>(simp [h, vl, NetD.cells, PartD.cells, hlt, hlt', hp, w1]))
 |(apply hK;clear hK K)|refine AWh ‹_› ?_)
            refine ⟨hG, ?_⟩; apply Weak.mk' <;> simp [vl, NetD.cells]
          · rw [if_pos hq0] at hG
            subst hG
            rw [if_pos hq0] at hF
            repeat' (first
 |refine aK fun K hK=>?_|refine Step.by1 ?_|refine sE (by decide) ?_|refine cz rfl ?_|refine Fork.by2 (fun h=>?_) fun h=>?_
 |((first|refine aR ?_|refine aC (f:=72) rfl rfl (hc) rfl rfl rfl ?_);simp [vl, NetD.cells, PartD.cells, hlt, hlt', hp, w1, hq0])
 |(refine Split.by2 (fun h=>?_) (fun h=>?_)<;>(simp [h, vl, NetD.cells, PartD.cells, hlt, hlt', hp, w1, hq0]))
 |(apply hK;clear hK K)|refine AWh ‹_› ?_)
            exact r1q (cE (by rw [← hF]; rfl) rfl)
        · intro hG
          rw [goF_nil] at hG
          rw [if_neg (by simp [← hG])] at hF
          repeat' (first
 |refine aK fun K hK=>?_|refine Step.by1 ?_|refine sE (by decide) ?_|refine cz rfl ?_|refine Fork.by2 (fun h=>?_) fun h=>?_
 |(refine aR ?_;simp [vl, NetD.cells, wI];try (simp (disch:=omega) only [wI];try simp [vl, NetD.cells, wI]))
 |(refine Split.by2 (fun h=>?_) (fun h=>?_)<;>(simp [h, vl, NetD.cells, wI];try (simp (disch:=omega) only [wI];try simp [vl, NetD.cells, wI])))
 |(apply hK;clear hK K)|refine AWh ‹_› ?_)
          refine ⟨2, ⟨by omega, hF⟩, by omega, ?_⟩; apply Weak.mk' <;> simp [vl, NetD.cells]
      · repeat' (first
 |refine aK fun K hK=>?_|refine Step.by1 ?_|refine sE (by decide) ?_|refine cz rfl ?_|refine Fork.by2 (fun h=>?_) fun h=>?_
 |(refine aR ?_;simp [vl, NetD.cells])
 |(refine Split.by2 (fun h=>?_) (fun h=>?_)<;>(simp [h, vl, NetD.cells]))
 |(apply hK;clear hK K)|refine AWh ‹_› ?_)
        exact r1q (cE (by rw [← hF]; rfl) rfl)
      · omega
    · rw [if_pos hz9] at hr
      subst hr
      repeat' (first
 |refine aK fun K hK=>?_|refine Step.by1 ?_|refine sE (by decide) ?_|refine cz rfl ?_|refine Fork.by2 (fun h=>?_) fun h=>?_
 |((first|refine aR ?_|refine aC (f:=10) rfl rfl (h0) rfl rfl rfl ?_|refine aC (f:=103) rfl rfl (h1) rfl rfl rfl ?_);simp [vl, NetD.cells, hz9])
 |(refine Split.by2 (fun h=>?_) (fun h=>?_)<;>(simp [h, vl, NetD.cells, hz9]))
 |(apply hK;clear hK K)|refine AWh ‹_› ?_)
      exact r1q (cE rfl rfl)
  · rw [if_pos hz] at hr
    subst hr
    repeat' (first
 |refine aK fun K hK=>?_|refine Step.by1 ?_|refine sE (by decide) ?_|refine cz rfl ?_|refine Fork.by2 (fun h=>?_) fun h=>?_
 |((first|refine aR ?_|refine aC (f:=10) rfl rfl (h0) rfl rfl rfl ?_);simp [vl, NetD.cells, hz])
 |(refine Split.by2 (fun h=>?_) (fun h=>?_)<;>(simp [h, vl, NetD.cells, hz]))
 |(apply hK;clear hK K)|refine AWh ‹_› ?_)
    exact r1q (cE rfl rfl)
end Go.Proofs.YtgmlimipejcpgaaDoor
end
