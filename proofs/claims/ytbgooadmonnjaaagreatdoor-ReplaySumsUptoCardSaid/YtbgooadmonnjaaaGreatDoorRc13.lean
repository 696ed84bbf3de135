/-
  YtbgooadmonnjaaaGreatDoorRc13: steps of the proof of a law of the program: what these texts prove holds under the hypotheses that their theorems name, and no others.
-/
import Derived.Test.YtbgooadmonnjaaaGreatDoorRc12
section
set_option linter.unusedSimpArgs false
set_option linter.unusedVariables false
namespace Go.Proofs.YtbgooadmonnjaaaGreatDoor
open Go Go.AM Fx
def sizeSet (s : SetD) : Bool := decide (64 < s.expr.length)
def sizeLoc (x : LocD) : Bool := decide (16 < x.inv.length)
def sizeEdge (e : EdgeD) : Bool := decide (16 < e.guards.length ∨ 16 < e.sets.length ∨ 64 < e.test.length) || anyL sizeSet e.sets
def sizeAuto (a : AutoD) : Bool := decide (64 < a.locs.length ∨ 256 < a.edges.length) || (anyL sizeLoc a.locs || anyL sizeEdge a.edges)
def sizeNet (n : NetD) : Bool := decide (8 < n.clocks.length ∨ 16 < n.vars.length ∨ 16 < n.chans.length ∨ 8 < n.autos.length) || anyL sizeAuto n.autos
def sizesE (n : NetD) : Int := if sizeNet n = true then 6 else 0
set_option maxRecDepth 8000 in
set_option maxHeartbeats 8000000 in
theorem c_sizes (n : NetD) (hn : n.ok) : PC 227 [.agg n.cells] (.int .i64 (sizesE n)) := by
  obtain ⟨⟨h1, _⟩, ⟨h2, _⟩, ⟨h3, _⟩, h4, h5⟩ := hn
  refine pB Tryz.func227 rfl (by decide) Tryz.ntmps227 (by simp) Tryz.results227 ?_
  by_cases h0 : 8 < n.clocks.length ∨ 16 < n.vars.length ∨ 16 < n.chans.length ∨ 8 < n.autos.length
  · have hs : sizesE n = 6 := by simp [sizesE, sizeNet, h0]
    repeat' (first
 |refine aK fun K hK=>?_|refine Step.by1 ?_|refine sE (by decide) ?_|refine cz rfl ?_|refine Fork.by2 (fun h=>?_) fun h=>?_
 |(refine aR ?_;simp [vl, NetD.cells])
 |(refine Split.by2 (fun h=>?_) (fun h=>?_)<;>(simp [h, vl, NetD.cells]))
 |(apply hK;clear hK K)|refine AWh ‹_› ?_)
    all_goals first
      | exact r1q (cE (by simp [hs]) rfl)
      | (exfalso; omega)
  · have hs : sizesE n = if anyL sizeAuto n.autos = true then 6 else 0 := by simp [sizesE, sizeNet, h0]
    have k1 : ¬ (8 : Int) < n.clocks.length := by omega
    have k2 : ¬ (16 : Int) < n.vars.length := by omega
    have k3 : ¬ (16 : Int) < n.chans.length := by omega
    have k4 : ¬ (8 : Int) < n.autos.length := by omega
    rw [hs]
    obtain ⟨E, hE⟩ : ∃ E : List AutoD → Int, E = fun l => if anyL sizeAuto l = true then 6 else 0 := ⟨_, rfl⟩
    have hEc : ∀ a l, E (a :: l) = if sizeAuto a = true then 6 else E l := fun a l => by subst hE; by_cases h : sizeAuto a = true <;> simp [anC, h]
    have hEn : (if anyL sizeAuto n.autos = true then (6 : Int) else 0) = E n.autos := by subst hE; rfl
    have hE0 : E [] = 0 := by subst hE; rfl
    rw [hEn]
    repeat' (first
 |refine aK fun K hK=>?_|refine Step.by1 ?_|refine sE (by decide) ?_|refine cz rfl ?_|refine Fork.by2 (fun h=>?_) fun h=>?_
 |(refine aR ?_;simp [vl, NetD.cells, k1, k2, k3, k4])
 |(refine Split.by2 (fun h=>?_) (fun h=>?_)<;>(simp [h, vl, NetD.cells, k1, k2, k3, k4]))
 |(apply hK;clear hK K)|refine AWh ‹_› ?_)
    refine aS1 (n.autos) 36 [34, 35] (E) rfl (by apply Weak.mk' <;> simp [vl]) ?_ ?_
    · intro i a _ hlt ha hF
      have hoa := h5 a (ha ▸ List.getElem_mem hlt)
      obtain ⟨_, ⟨hl1, hl2⟩, he1, he2⟩ := hoa
      rw [hEc] at hF
      by_cases hA : 64 < a.locs.length ∨ 256 < a.edges.length
      · have hA' : sizeAuto a = true := by simp [sizeAuto, hA]
        rw [if_pos hA'] at hF
        repeat' (first
 |refine aK fun K hK=>?_|refine Step.by1 ?_|refine sE (by decide) ?_|refine cz rfl ?_|refine Fork.by2 (fun h=>?_) fun h=>?_
 |(refine aR ?_;simp [vl, AutoD.cells, hlt, ha, wI];try (simp (disch:=omega) only [wI];try simp [vl, AutoD.cells, hlt, ha, wI]))
 |(refine Split.by2 (fun h=>?_) (fun h=>?_)<;>(simp [h, vl, AutoD.cells, hlt, ha, wI];try (simp (disch:=omega) only [wI];try simp [vl, AutoD.cells, hlt, ha, wI])))
 |(apply hK;clear hK K)|refine AWh ‹_› ?_)
        all_goals first
          | exact r1q (cE (by simp [← hF]) rfl)
          | (exfalso; omega)
      · have hA' : sizeAuto a = (anyL sizeLoc a.locs || anyL sizeEdge a.edges) := by simp [sizeAuto, hA]
        have j1 : ¬ (64 : Int) < a.locs.length := by omega
        have j2 : ¬ (256 : Int) < a.edges.length := by omega
        rw [hA'] at hF
        repeat' (first
 |refine aK fun K hK=>?_|refine Step.by1 ?_|refine sE (by decide) ?_|refine cz rfl ?_|refine Fork.by2 (fun h=>?_) fun h=>?_
 |(refine aR ?_;simp [vl, AutoD.cells, hlt, ha, j1, j2, wI];try (simp (disch:=omega) only [wI];try simp [vl, AutoD.cells, hlt, ha, j1, j2, wI]))
 |(refine Split.by2 (fun h=>?_) (fun h=>?_)<;>(simp [h, vl, AutoD.cells, hlt, ha, j1, j2, wI];try (simp (disch:=omega) only [wI];try simp [vl, AutoD.cells, hlt, ha, j1, j2, wI])))
 |(apply hK;clear hK K)|refine AWh ‹_› ?_)
        refine aS1 (a.locs) 53 [4, 34, 35, 36, 51, 52] (anyL sizeLoc) rfl (by apply Weak.mk' <;> simp [vl]) ?_ ?_
        · intro k x _ hkt hx hG
          rw [anC] at hG
          repeat' (first
 |refine aK fun K hK=>?_|refine Step.by1 ?_|refine sE (by decide) ?_|refine cz rfl ?_|refine Fork.by2 (fun h=>?_) fun h=>?_
 |(refine aR ?_;simp [vl, LocD.cells, hkt, hx, wI];try (simp (disch:=omega) only [wI];try simp [vl, LocD.cells, hkt, hx, wI]))
 |(refine Split.by2 (fun h=>?_) (fun h=>?_)<;>(simp [h, vl, LocD.cells, hkt, hx, wI];try (simp (disch:=omega) only [wI];try simp [vl, LocD.cells, hkt, hx, wI])))
 |(apply hK;clear hK K)|refine AWh ‹_› ?_)
          all_goals first
            | exact r1q (cE (by rw [← hF, ← hG]; simp [sizeLoc]; omega) rfl)
            | (refine ⟨by rw [← hG]; simp [sizeLoc]; omega, ?_⟩; apply Weak.mk' <;> simp [vl])
        · intro hG
          rw [← hG, anyL_nil, Bool.false_or] at hF
          repeat' (first
 |refine aK fun K hK=>?_|refine Step.by1 ?_|refine sE (by decide) ?_|refine cz rfl ?_|refine Fork.by2 (fun h=>?_) fun h=>?_
 |(refine aR ?_;simp [vl, wI];try (simp (disch:=omega) only [wI];try simp [vl, wI]))
 |(refine Split.by2 (fun h=>?_) (fun h=>?_)<;>(simp [h, vl, wI];try (simp (disch:=omega) only [wI];try simp [vl, wI])))
 |(apply hK;clear hK K)|refine AWh ‹_› ?_)
          refine aS1 (a.edges) 65 [34, 35, 36, 63, 64] (anyL sizeEdge) rfl (by apply Weak.mk' <;> simp [vl]) ?_ ?_
          · intro m y _ hmt hy hM
            have hoy := he2 y (hy ▸ List.getElem_mem hmt)
            have ok7 := hoy.2.2.2.2.2.2.1
            rw [anC] at hM
            by_cases hY : 16 < y.guards.length ∨ 16 < y.sets.length ∨ 64 < y.test.length
            · have hY' : sizeEdge y = true := by simp [sizeEdge, hY]
              rw [hY', Bool.true_or] at hM
              rw [← hM] at hF
              repeat' (first
 |refine aK fun K hK=>?_|refine Step.by1 ?_|refine sE (by decide) ?_|refine cz rfl ?_|refine Fork.by2 (fun h=>?_) fun h=>?_
 |(refine aR ?_;simp [vl, EdgeD.cells, hmt, hy, wI];try (simp (disch:=omega) only [wI];try simp [vl, EdgeD.cells, hmt, hy, wI]))
 |(refine Split.by2 (fun h=>?_) (fun h=>?_)<;>(simp [h, vl, EdgeD.cells, hmt, hy, wI];try (simp (disch:=omega) only [wI];try simp [vl, EdgeD.cells, hmt, hy, wI])))
 |(apply hK;clear hK K)|refine AWh ‹_› ?_)
              all_goals first
                | exact r1q (cE (by simp [← hF]) rfl)
                | (exfalso; omega)
            · have hY' : sizeEdge y = anyL sizeSet y.sets := by simp [sizeEdge, hY]
              have i1 : ¬ (16 : Int) < y.guards.length := by omega
              have i2 : ¬ (16 : Int) < y.sets.length := by omega
              have i3 : ¬ (64 : Int) < y.test.length := by omega
              rw [hY'] at hM
              repeat' (first
 |refine aK fun K hK=>?_|refine Step.by1 ?_|refine sE (by decide) ?_|refine cz rfl ?_|refine Fork.by2 (fun h=>?_) fun h=>?_
 |(refine aR ?_;simp [vl, EdgeD.cells, hmt, hy, i1, i2, i3, wI];try (simp (disch:=omega) only [wI];try simp [vl, EdgeD.cells, hmt, hy, i1, i2, i3, wI]))
 |(refine Split.by2 (fun h=>?_) (fun h=>?_)<;>(simp [h, vl, EdgeD.cells, hmt, hy, i1, i2, i3, wI];try (simp (disch:=omega) only [wI];try simp [vl, EdgeD.cells, hmt, hy, i1, i2, i3, wI])))
 |(apply hK;clear hK K)|refine AWh ‹_› ?_)
              refine aS1 (y.sets) 88 [34, 35, 36, 63, 64, 65, 86, 87] (anyL sizeSet) rfl (by apply Weak.mk' <;> simp [vl]) ?_ ?_
              · intro q z _ hqt hz hQ
                rw [anC] at hQ
                repeat' (first
 |refine aK fun K hK=>?_|refine Step.by1 ?_|refine sE (by decide) ?_|refine cz rfl ?_|refine Fork.by2 (fun h=>?_) fun h=>?_
 |(refine aR ?_;simp [vl, SetD.cells, hqt, hz, wI];try (simp (disch:=omega) only [wI];try simp [vl, SetD.cells, hqt, hz, wI]))
 |(refine Split.by2 (fun h=>?_) (fun h=>?_)<;>(simp [h, vl, SetD.cells, hqt, hz, wI];try (simp (disch:=omega) only [wI];try simp [vl, SetD.cells, hqt, hz, wI])))
 |(apply hK;clear hK K)|refine AWh ‹_› ?_)
                all_goals first
                  | exact r1q (cE (by rw [← hF, ← hM, ← hQ]; simp [sizeSet]; omega) rfl)
                  | (refine ⟨by rw [← hQ]; simp [sizeSet]; omega, ?_⟩; apply Weak.mk' <;> simp [vl])
              · intro hQ
                rw [← hQ, anyL_nil, Bool.false_or] at hM
                repeat' (first
 |refine aK fun K hK=>?_|refine Step.by1 ?_|refine sE (by decide) ?_|refine cz rfl ?_|refine Fork.by2 (fun h=>?_) fun h=>?_
 |(refine aR ?_;simp [vl, wI];try (simp (disch:=omega) only [wI];try simp [vl, wI]))
 |(refine Split.by2 (fun h=>?_) (fun h=>?_)<;>(simp [h, vl, wI];try (simp (disch:=omega) only [wI];try simp [vl, wI])))
 |(apply hK;clear hK K)|refine AWh ‹_› ?_)
                all_goals first
                  | (refine ⟨hM, ?_⟩; apply Weak.mk' <;> simp [vl])
          · intro hM
            rw [← hM, anyL_nil] at hF
            repeat' (first
 |refine aK fun K hK=>?_|refine Step.by1 ?_|refine sE (by decide) ?_|refine cz rfl ?_|refine Fork.by2 (fun h=>?_) fun h=>?_
 |(refine aR ?_;simp [vl, wI];try (simp (disch:=omega) only [wI];try simp [vl, wI]))
 |(refine Split.by2 (fun h=>?_) (fun h=>?_)<;>(simp [h, vl, wI];try (simp (disch:=omega) only [wI];try simp [vl, wI])))
 |(apply hK;clear hK K)|refine AWh ‹_› ?_)
            all_goals first
              | (refine ⟨by simpa using hF, ?_⟩; apply Weak.mk' <;> simp [vl])
    · intro hF
      repeat' (first
 |refine aK fun K hK=>?_|refine Step.by1 ?_|refine sE (by decide) ?_|refine cz rfl ?_|refine Fork.by2 (fun h=>?_) fun h=>?_
 |(refine aR ?_;simp [vl])
 |(refine Split.by2 (fun h=>?_) (fun h=>?_)<;>(simp [h, vl]))
 |(apply hK;clear hK K)|refine AWh ‹_› ?_)
      exact r1q (cE (by rw [← hF, hE0]; simp) rfl)
def catF {α β : Type} (f : α → List β) (l : List α) (acc : Nat × List β) : List β := acc.2 ++ l.flatMap f
theorem catF_nil {α β : Type} {f : α → List β} {acc : Nat × List β} : catF f [] acc = acc.2 := by simp [catF]
theorem catF_cons {α β : Type} {f : α → List β} {x : α} {l : List α} {acc : Nat × List β} (g : Nat) : catF f (x :: l) acc = catF f l (g, acc.2 ++ f x) := by simp [catF]
def guardsA (a : AutoD) : List GuardD := a.locs.flatMap (·.inv) ++ a.edges.flatMap (·.guards)
def guardsL (n : NetD) : List GuardD := n.autos.flatMap guardsA
def setsA (a : AutoD) : List SetD := a.edges.flatMap (·.sets)
def setsL (n : NetD) : List SetD := n.autos.flatMap setsA
/-- What a network that is not too great holds. -/
structure Small (n : NetD) : Prop where
  clocks : n.clocks.length ≤ 8
  vars : n.vars.length ≤ 16
  chans : n.chans.length ≤ 16
  autos : n.autos.length ≤ 8
  locs : ∀ a ∈ n.autos, a.locs.length ≤ 64
  edges : ∀ a ∈ n.autos, a.edges.length ≤ 256
  inv : ∀ a ∈ n.autos, ∀ x ∈ a.locs, x.inv.length ≤ 16
  guards : ∀ a ∈ n.autos, ∀ x ∈ a.edges, x.guards.length ≤ 16
  sets : ∀ a ∈ n.autos, ∀ x ∈ a.edges, x.sets.length ≤ 16
  test : ∀ a ∈ n.autos, ∀ x ∈ a.edges, x.test.length ≤ 64
  expr : ∀ a ∈ n.autos, ∀ x ∈ a.edges, ∀ s ∈ x.sets, s.expr.length ≤ 64
theorem anyL_false {α : Type} {p : α → Bool} {l : List α} (h : anyL p l = false) : ∀ x ∈ l, p x = false := by
  unfold anyL at h; rw [List.any_eq_false] at h; intro x hx; simpa using h x hx
theorem small_of {n : NetD} (h : sizeNet n = false) : Small n := by
  unfold sizeNet at h
  rw [Bool.or_eq_false_iff] at h
  obtain ⟨h1, h2⟩ := h
  simp only [decide_eq_false_iff_not] at h1
  have ha := fun a (m : a ∈ n.autos) => anyL_false h2 a m
  have hb : ∀ a ∈ n.autos, ¬ (64 < a.locs.length ∨ 256 < a.edges.length) ∧ anyL sizeLoc a.locs = false ∧ anyL sizeEdge a.edges = false := fun a m => by
    have := ha a m
    unfold sizeAuto at this
    rw [Bool.or_eq_false_iff, Bool.or_eq_false_iff] at this
    exact ⟨by simpa using this.1, this.2.1, this.2.2⟩
  have hc : ∀ a ∈ n.autos, ∀ x ∈ a.edges, ¬ (16 < x.guards.length ∨ 16 < x.sets.length ∨ 64 < x.test.length) ∧ anyL sizeSet x.sets = false := fun a m x mx => by
    have := anyL_false (hb a m).2.2 x mx
    unfold sizeEdge at this
    rw [Bool.or_eq_false_iff] at this
    exact ⟨by simpa using this.1, this.2⟩
  refine ⟨by omega, by omega, by omega, by omega, fun a m => ?_, fun a m => ?_, fun a m x mx => ?_, fun a m x mx => ?_, fun a m x mx => ?_, fun a m x mx => ?_, fun a m x mx s ms => ?_⟩
  · have := (hb a m).1; omega
  · have := (hb a m).1; omega
  · have := anyL_false (hb a m).2.1 x mx; simp [sizeLoc] at this; omega
  · have := (hc a m x mx).1; omega
  · have := (hc a m x mx).1; omega
  · have := (hc a m x mx).1; omega
  · have := anyL_false (hc a m x mx).2 s ms; simp [sizeSet] at this; omega
theorem conv1_own {h : List B} {b g : Nat} {T : TypeId} {xs : List (List V)} {n : Nat} (hb : h[b]? = some (.row T g 0 true xs)) (hn : n = xs.length) : Conv1 h (.ref b g 0 n) (.own T xs) := by subst hn; exact .inr ⟨b, g, T, xs, rfl, hb, rfl⟩
set_option maxRecDepth 8000 in
set_option maxHeartbeats 8000000 in
theorem c_guards (n : NetD) (hz : Small n) : PC 269 [.agg n.cells] (vl GuardD.cells (guardsL n)) := by
  have hgoal : PC 269 [.agg n.cells] (.own 154 ((guardsL n).map GuardD.cells)) := by
    refine pB Tryz.func269 rfl (by decide) Tryz.ntmps269 (by simp) Tryz.results269 ?_
    repeat' (first
 |refine AW_nilrow 3 154 rfl (by simp) ?_
 |refine aK fun K hK=>?_|refine Step.by1 ?_|refine sE (by decide) ?_|refine cz rfl ?_|refine Fork.by2 (fun h=>?_) fun h=>?_
 |(refine aR ?_;simp [vl, NetD.cells])
 |(refine Split.by2 (fun h=>?_) (fun h=>?_)<;>(simp [h, vl, NetD.cells]))
 |(apply hK;clear hK K)|refine AWh ‹_› ?_)
    refine AW_range n.autos 13 [11, 12] (fun c : Nat × List GuardD => [(3, .ref 1 c.1 0 c.2.length)]) (fun c => [.var n.cells, .row 154 c.1 0 true (c.2.map GuardD.cells)]) (fun i c => c.2.length ≤ i * 5120) (catF guardsA) (0, []) (r := guardsL n)
      (by simp [catF, guardsL]) (by simp) (by apply Weak.mk' <;> simp [vl, NetD.cells]) (fun _ _ _ => rfl) ?_ ?_
    · rintro i ⟨g, out⟩ a _ hlt ha hJ hF
      have hm : a ∈ n.autos := ha ▸ List.getElem_mem hlt
      have b1 := hz.autos
      have b2 := hz.locs a hm
      have b3 := hz.edges a hm
      simp only at hJ hF
      repeat' (first
 |refine aK fun K hK=>?_|refine Step.by1 ?_|refine sE (by decide) ?_|refine cz rfl ?_|refine Fork.by2 (fun h=>?_) fun h=>?_
 |(refine aR ?_;simp [vl, AutoD.cells, NetD.cells, hlt, ha, wI];try (simp (disch:=omega) only [wI];try simp [vl, AutoD.cells, NetD.cells, hlt, ha, wI]))
 |(refine Split.by2 (fun h=>?_) (fun h=>?_)<;>(simp [h, vl, AutoD.cells, NetD.cells, hlt, ha, wI];try (simp (disch:=omega) only [wI];try simp [vl, AutoD.cells, NetD.cells, hlt, ha, wI])))
 |(apply hK;clear hK K)|refine AWh ‹_› ?_)
      obtain ⟨r1, hr1⟩ : ∃ r1, catF LocD.inv a.locs (g, out) = r1 := ⟨_, rfl⟩
      refine AW_range a.locs 20 [5, 11, 12, 13, 18, 19] (fun c : Nat × List GuardD => [(3, .ref 1 c.1 0 c.2.length)]) (fun c => [.var n.cells, .row 154 c.1 0 true (c.2.map GuardD.cells), .var a.cells]) (fun k c => c.2.length ≤ out.length + k * 16) (catF LocD.inv) (g, out) hr1
        (by simp) (by apply Weak.mk' <;> simp [vl, NetD.cells, AutoD.cells]) (fun _ _ _ => rfl) ?_ ?_
      · rintro k ⟨g1, o1⟩ x _ hkt hx hK hG
        have b4 := hz.inv a hm x (hx ▸ List.getElem_mem hkt)
        simp only at hK
        rw [catF_cons (g1 + 1)] at hG
        have htk : (x.inv.map GuardD.cells).take x.inv.length = x.inv.map GuardD.cells := List.take_of_length_le (by simp)
        have hby : (o1.length + x.inv.length) * 32 ≤ 140737488355328 := by omega
        have hlg : ∀ z : GuardD, z.cells.length = 4 := fun _ => rfl
        repeat' (first
 |refine aK fun K hK=>?_|refine Step.by1 ?_|refine sE (by decide) ?_|refine cz rfl ?_|refine Fork.by2 (fun h=>?_) fun h=>?_
 |(refine aR ?_;simp [vl, AutoD.cells, LocD.cells, NetD.cells, hkt, hx, htk, hby, wI];try (simp (disch:=omega) only [wI];try simp [vl, AutoD.cells, LocD.cells, NetD.cells, hkt, hx, htk, hby, wI]))
 |(refine Split.by2 (fun h=>?_) (fun h=>?_)<;>(simp [h, vl, AutoD.cells, LocD.cells, NetD.cells, hkt, hx, htk, hby, wI];try (simp (disch:=omega) only [wI];try simp [vl, AutoD.cells, LocD.cells, NetD.cells, hkt, hx, htk, hby, wI])))
 |(apply hK;clear hK K)|refine AWh ‹_› ?_)
        exact ⟨g1 + 1, o1 ++ x.inv, hG, by simp; omega, by apply Weak.mk' <;> simp [vl, NetD.cells, AutoD.cells]⟩
      · rintro ⟨g1, o1⟩ hK hG
        rw [catF_nil] at hG
        simp only at hK hG
        subst hG
        simp only [catF] at hr1
        repeat' (first
 |refine aK fun K hK=>?_|refine Step.by1 ?_|refine sE (by decide) ?_|refine cz rfl ?_|refine Fork.by2 (fun h=>?_) fun h=>?_
 |(refine aR ?_;simp [vl, AutoD.cells, NetD.cells, wI];try (simp (disch:=omega) only [wI];try simp [vl, AutoD.cells, NetD.cells, wI]))
 |(refine Split.by2 (fun h=>?_) (fun h=>?_)<;>(simp [h, vl, AutoD.cells, NetD.cells, wI];try (simp (disch:=omega) only [wI];try simp [vl, AutoD.cells, NetD.cells, wI])))
 |(apply hK;clear hK K)|refine AWh ‹_› ?_)
        obtain ⟨r2, hr2⟩ : ∃ r2, catF EdgeD.guards a.edges (g1, o1) = r2 := ⟨_, rfl⟩
        refine AW_range a.edges 32 [11, 12, 13, 30, 31] (fun c : Nat × List GuardD => [(3, .ref 1 c.1 0 c.2.length)]) (fun c => [.var n.cells, .row 154 c.1 0 true (c.2.map GuardD.cells), .var a.cells]) (fun k c => c.2.length ≤ o1.length + k * 16) (catF EdgeD.guards) (g1, o1) hr2
          (by simp) (by apply Weak.mk' <;> simp [vl, NetD.cells, AutoD.cells]) (fun _ _ _ => rfl) ?_ ?_
        · rintro k ⟨g2, o2⟩ x _ hkt hx hK2 hG
          have b4 := hz.guards a hm x (hx ▸ List.getElem_mem hkt)
          simp only at hK2
          rw [catF_cons (g2 + 1)] at hG
          have htk : (x.guards.map GuardD.cells).take x.guards.length = x.guards.map GuardD.cells := List.take_of_length_le (by simp)
          have hby : (o2.length + x.guards.length) * 32 ≤ 140737488355328 := by omega
          repeat' (first
 |refine aK fun K hK=>?_|refine Step.by1 ?_|refine sE (by decide) ?_|refine cz rfl ?_|refine Fork.by2 (fun h=>?_) fun h=>?_
 |(refine aR ?_;simp [vl, AutoD.cells, EdgeD.cells, NetD.cells, hkt, hx, htk, hby, wI];try (simp (disch:=omega) only [wI];try simp [vl, AutoD.cells, EdgeD.cells, NetD.cells, hkt, hx, htk, hby, wI]))
 |(refine Split.by2 (fun h=>?_) (fun h=>?_)<;>(simp [h, vl, AutoD.cells, EdgeD.cells, NetD.cells, hkt, hx, htk, hby, wI];try (simp (disch:=omega) only [wI];try simp [vl, AutoD.cells, EdgeD.cells, NetD.cells, hkt, hx, htk, hby, wI])))
 |(apply hK;clear hK K)|refine AWh ‹_› ?_)
          exact ⟨g2 + 1, o2 ++ x.guards, hG, by simp; omega, by apply Weak.mk' <;> simp [vl, NetD.cells, AutoD.cells]⟩
        · rintro ⟨g2, o2⟩ hK2 hG
          rw [catF_nil] at hG
          simp only at hK2 hG
          subst hG
          simp only [catF] at hr2
          rw [catF_cons g2] at hF
          have ho : out ++ guardsA a = o2 := by rw [← hr2, ← hr1]; simp [guardsA]
          simp only at hF
          rw [ho] at hF
          repeat' (first
 |refine aK fun K hK=>?_|refine Step.by1 ?_|refine sE (by decide) ?_|refine cz rfl ?_|refine Fork.by2 (fun h=>?_) fun h=>?_
 |(refine aR ?_;simp [vl, AutoD.cells, NetD.cells, wI];try (simp (disch:=omega) only [wI];try simp [vl, AutoD.cells, NetD.cells, wI]))
 |(refine Split.by2 (fun h=>?_) (fun h=>?_)<;>(simp [h, vl, AutoD.cells, NetD.cells, wI];try (simp (disch:=omega) only [wI];try simp [vl, AutoD.cells, NetD.cells, wI])))
 |(apply hK;clear hK K)|refine AWh ‹_› ?_)
          exact ⟨g2, o2, hF, by omega, by apply Weak.mk' <;> simp [vl, NetD.cells]⟩
    · rintro ⟨g, out⟩ hJ hF
      rw [catF_nil] at hF
      simp only at hF
      subst hF
      repeat' (first
 |refine aK fun K hK=>?_|refine Step.by1 ?_|refine sE (by decide) ?_|refine cz rfl ?_|refine Fork.by2 (fun h=>?_) fun h=>?_
 |(refine aR ?_;simp [vl, NetD.cells])
 |(refine Split.by2 (fun h=>?_) (fun h=>?_)<;>(simp [h, vl, NetD.cells]))
 |(apply hK;clear hK K)|refine AWh ‹_› ?_)
      exact r1q (.inr (.inl (conv1_own rfl (by simp))))
  have := hgoal.freeze
  simpa [vl] using this
set_option maxRecDepth 8000 in
set_option maxHeartbeats 8000000 in
theorem c_sets (n : NetD) (hz : Small n) : PC 270 [.agg n.cells] (vl SetD.cells (setsL n)) := by
  have hgoal : PC 270 [.agg n.cells] (.own 143 ((setsL n).map SetD.cells)) := by
    refine pB Tryz.func270 rfl (by decide) Tryz.ntmps270 (by simp) Tryz.results270 ?_
    repeat' (first
 |refine AW_nilrow 3 143 rfl (by simp) ?_
 |refine aK fun K hK=>?_|refine Step.by1 ?_|refine sE (by decide) ?_|refine cz rfl ?_|refine Fork.by2 (fun h=>?_) fun h=>?_
 |(refine aR ?_;simp [vl, NetD.cells])
 |(refine Split.by2 (fun h=>?_) (fun h=>?_)<;>(simp [h, vl, NetD.cells]))
 |(apply hK;clear hK K)|refine AWh ‹_› ?_)
    refine AW_range n.autos 11 [9, 10] (fun c : Nat × List SetD => [(3, .ref 1 c.1 0 c.2.length)]) (fun c => [.var n.cells, .row 143 c.1 0 true (c.2.map SetD.cells)]) (fun i c => c.2.length ≤ i * 4096) (catF setsA) (0, []) (r := setsL n)
      (by simp [catF, setsL]) (by simp) (by apply Weak.mk' <;> simp [vl, NetD.cells]) (fun _ _ _ => rfl) ?_ ?_
    · rintro i ⟨g, out⟩ a _ hlt ha hJ hF
      have hm : a ∈ n.autos := ha ▸ List.getElem_mem hlt
      have b1 := hz.autos
      have b3 := hz.edges a hm
      simp only at hJ hF
      repeat' (first
 |refine aK fun K hK=>?_|refine Step.by1 ?_|refine sE (by decide) ?_|refine cz rfl ?_|refine Fork.by2 (fun h=>?_) fun h=>?_
 |(refine aR ?_;simp [vl, AutoD.cells, NetD.cells, hlt, ha, wI];try (simp (disch:=omega) only [wI];try simp [vl, AutoD.cells, NetD.cells, hlt, ha, wI]))
 |(refine Split.by2 (fun h=>?_) (fun h=>?_)<;>(simp [h, vl, AutoD.cells, NetD.cells, hlt, ha, wI];try (simp (disch:=omega) only [wI];try simp [vl, AutoD.cells, NetD.cells, hlt, ha, wI])))
 |(apply hK;clear hK K)|refine AWh ‹_› ?_)
      obtain ⟨r2, hr2⟩ : ∃ r2, catF EdgeD.sets a.edges (g, out) = r2 := ⟨_, rfl⟩
      refine AW_range a.edges 18 [9, 10, 11, 16, 17] (fun c : Nat × List SetD => [(3, .ref 1 c.1 0 c.2.length)]) (fun c => [.var n.cells, .row 143 c.1 0 true (c.2.map SetD.cells), .var a.cells]) (fun k c => c.2.length ≤ out.length + k * 16) (catF EdgeD.sets) (g, out) hr2
        (by simp) (by apply Weak.mk' <;> simp [vl, NetD.cells, AutoD.cells]) (fun _ _ _ => rfl) ?_ ?_
      · rintro k ⟨g2, o2⟩ x _ hkt hx hK2 hG
        have b4 := hz.sets a hm x (hx ▸ List.getElem_mem hkt)
        simp only at hK2
        rw [catF_cons (g2 + 1)] at hG
        have htk : (x.sets.map SetD.cells).take x.sets.length = x.sets.map SetD.cells := List.take_of_length_le (by simp)
        have hby : (o2.length + x.sets.length) * 48 ≤ 140737488355328 := by omega
        repeat' (first
 |refine aK fun K hK=>?_|refine Step.by1 ?_|refine sE (by decide) ?_|refine cz rfl ?_|refine Fork.by2 (fun h=>?_) fun h=>?_
 |(refine aR ?_;simp [vl, AutoD.cells, EdgeD.cells, NetD.cells, hkt, hx, htk, hby, wI];try (simp (disch:=omega) only [wI];try simp [vl, AutoD.cells, EdgeD.cells, NetD.cells, hkt, hx, htk, hby, wI]))
 |(refine Split.by2 (fun h=>?_) (fun h=>?_)<;>(simp [h, vl, AutoD.cells, EdgeD.cells, NetD.cells, hkt, hx, htk, hby, wI];try (simp (disch:=omega) only [wI];try simp [vl, AutoD.cells, EdgeD.cells, NetD.cells, hkt, hx, htk, hby, wI])))
 |(apply hK;clear hK K)|refine AWh ‹_› ?_)
        exact ⟨g2 + 1, o2 ++ x.sets, hG, by simp; omega, by apply Weak.mk' <;> simp [vl, NetD.cells, AutoD.cells]⟩
      · rintro ⟨g2, o2⟩ hK2 hG
        rw [catF_nil] at hG
        simp only at hK2 hG
        subst hG
        simp only [catF] at hr2
        rw [catF_cons g2] at hF
        have ho : out ++ setsA a = o2 := by rw [← hr2]; simp [setsA]
        simp only at hF
        rw [ho] at hF
        repeat' (first
 |refine aK fun K hK=>?_|refine Step.by1 ?_|refine sE (by decide) ?_|refine cz rfl ?_|refine Fork.by2 (fun h=>?_) fun h=>?_
 |(refine aR ?_;simp [vl, AutoD.cells, NetD.cells, wI];try (simp (disch:=omega) only [wI];try simp [vl, AutoD.cells, NetD.cells, wI]))
 |(refine Split.by2 (fun h=>?_) (fun h=>?_)<;>(simp [h, vl, AutoD.cells, NetD.cells, wI];try (simp (disch:=omega) only [wI];try simp [vl, AutoD.cells, NetD.cells, wI])))
 |(apply hK;clear hK K)|refine AWh ‹_› ?_)
        exact ⟨g2, o2, hF, by omega, by apply Weak.mk' <;> simp [vl, NetD.cells]⟩
    · rintro ⟨g, out⟩ hJ hF
      rw [catF_nil] at hF
      simp only at hF
      subst hF
      repeat' (first
 |refine aK fun K hK=>?_|refine Step.by1 ?_|refine sE (by decide) ?_|refine cz rfl ?_|refine Fork.by2 (fun h=>?_) fun h=>?_
 |(refine aR ?_;simp [vl, NetD.cells])
 |(refine Split.by2 (fun h=>?_) (fun h=>?_)<;>(simp [h, vl, NetD.cells]))
 |(apply hK;clear hK K)|refine AWh ‹_› ?_)
      exact r1q (.inr (.inl (conv1_own rfl (by simp))))
  have := hgoal.freeze
  simpa [vl] using this
def locNamesL (a : AutoD) : List ByteArray := a.locs.map (·.name)
set_option maxHeartbeats 8000000 in
theorem c_locNames (a : AutoD) (ha : a.locs.length ≤ 1048576) : PC 267 [.agg a.cells] (vl (fun s => [V.str s]) (locNamesL a)) := by
  have hgoal : PC 267 [.agg a.cells] (.own 9 ((locNamesL a).map fun s => [V.str s])) := by
    refine pB Tryz.func267 rfl (by decide) Tryz.ntmps267 (by simp) Tryz.results267 ?_
    repeat' (first
 |refine AW_nilrow 3 9 rfl (by simp) ?_
 |refine aK fun K hK=>?_|refine Step.by1 ?_|refine sE (by decide) ?_|refine cz rfl ?_|refine Fork.by2 (fun h=>?_) fun h=>?_
 |(refine aR ?_;simp [vl, AutoD.cells])
 |(refine Split.by2 (fun h=>?_) (fun h=>?_)<;>(simp [h, vl, AutoD.cells]))
 |(apply hK;clear hK K)|refine AWh ‹_› ?_)
    refine AW_range a.locs 9 [7, 8] (fun c : Nat × List ByteArray => [(3, .ref 1 c.1 0 c.2.length)]) (fun c => [.var a.cells, .row 9 c.1 0 true (c.2.map fun s => [V.str s])]) (fun i c => c.2.length = i) (catF fun x : LocD => [x.name]) (0, []) (r := locNamesL a)
      (by simp [catF, locNamesL, List.flatMap_singleton']; try exact (List.map_eq_flatMap ..).symm) (by simp) (by apply Weak.mk' <;> simp [vl, AutoD.cells]) (fun _ _ _ => rfl) ?_ ?_
    · rintro i ⟨g, out⟩ x _ hlt hx hJ hF
      simp only at hJ
      rw [catF_cons (g + 1)] at hF
      have hby : (out.length + 1) * 16 ≤ 140737488355328 := by omega
      repeat' (first
 |refine aK fun K hK=>?_|refine Step.by1 ?_|refine sE (by decide) ?_|refine cz rfl ?_|refine Fork.by2 (fun h=>?_) fun h=>?_
 |(refine aR ?_;simp [vl, AutoD.cells, LocD.cells, hlt, hx, hby, wI];try (simp (disch:=omega) only [wI];try simp [vl, AutoD.cells, LocD.cells, hlt, hx, hby, wI]))
 |(refine Split.by2 (fun h=>?_) (fun h=>?_)<;>(simp [h, vl, AutoD.cells, LocD.cells, hlt, hx, hby, wI];try (simp (disch:=omega) only [wI];try simp [vl, AutoD.cells, LocD.cells, hlt, hx, hby, wI])))
 |(apply hK;clear hK K)|refine AWh ‹_› ?_)
      exact ⟨g + 1, out ++ [x.name], hF, by simp; omega, by apply Weak.mk' <;> simp [vl, AutoD.cells]⟩
    · rintro ⟨g, out⟩ hJ hF
      rw [catF_nil] at hF
      simp only at hF
      subst hF
      repeat' (first
 |refine aK fun K hK=>?_|refine Step.by1 ?_|refine sE (by decide) ?_|refine cz rfl ?_|refine Fork.by2 (fun h=>?_) fun h=>?_
 |(refine aR ?_;simp [vl, AutoD.cells])
 |(refine Split.by2 (fun h=>?_) (fun h=>?_)<;>(simp [h, vl, AutoD.cells]))
 |(apply hK;clear hK K)|refine AWh ‹_› ?_)
      exact r1q (.inr (.inl (conv1_own rfl (by simp))))
  have := hgoal.freeze
  simpa [vl] using this
def namesL (n : NetD) : List ByteArray := n.vars.map (·.name)
set_option maxHeartbeats 8000000 in
theorem c_Names (n : NetD) (ha : n.vars.length ≤ 1048576) : PC 279 [.agg n.cells] (vl (fun s => [V.str s]) (namesL n)) := by
  have hgoal : PC 279 [.agg n.cells] (.own 9 ((namesL n).map fun s => [V.str s])) := by
    refine pB Tryz.func279 rfl (by decide) Tryz.ntmps279 (by simp) Tryz.results279 ?_
    repeat' (first
 |refine AW_nilrow 3 9 rfl (by simp) ?_
 |refine aK fun K hK=>?_|refine Step.by1 ?_|refine sE (by decide) ?_|refine cz rfl ?_|refine Fork.by2 (fun h=>?_) fun h=>?_
 |(refine aR ?_;simp [vl, NetD.cells])
 |(refine Split.by2 (fun h=>?_) (fun h=>?_)<;>(simp [h, vl, NetD.cells]))
 |(apply hK;clear hK K)|refine AWh ‹_› ?_)
    refine AW_range n.vars 9 [7, 8] (fun c : Nat × List ByteArray => [(3, .ref 1 c.1 0 c.2.length)]) (fun c => [.var n.cells, .row 9 c.1 0 true (c.2.map fun s => [V.str s])]) (fun i c => c.2.length = i) (catF fun x : VarD => [x.name]) (0, []) (r := namesL n)
      (by simp [catF, namesL, List.flatMap_singleton']; try exact (List.map_eq_flatMap ..).symm) (by simp) (by apply Weak.mk' <;> simp [vl, NetD.cells]) (fun _ _ _ => rfl) ?_ ?_
    · rintro i ⟨g, out⟩ x _ hlt hx hJ hF
      simp only at hJ
      rw [catF_cons (g + 1)] at hF
      have hby : (out.length + 1) * 16 ≤ 140737488355328 := by omega
      repeat' (first
 |refine aK fun K hK=>?_|refine Step.by1 ?_|refine sE (by decide) ?_|refine cz rfl ?_|refine Fork.by2 (fun h=>?_) fun h=>?_
 |(refine aR ?_;simp [vl, NetD.cells, VarD.cells, hlt, hx, hby, wI];try (simp (disch:=omega) only [wI];try simp [vl, NetD.cells, VarD.cells, hlt, hx, hby, wI]))
 |(refine Split.by2 (fun h=>?_) (fun h=>?_)<;>(simp [h, vl, NetD.cells, VarD.cells, hlt, hx, hby, wI];try (simp (disch:=omega) only [wI];try simp [vl, NetD.cells, VarD.cells, hlt, hx, hby, wI])))
 |(apply hK;clear hK K)|refine AWh ‹_› ?_)
      exact ⟨g + 1, out ++ [x.name], hF, by simp; omega, by apply Weak.mk' <;> simp [vl, NetD.cells]⟩
    · rintro ⟨g, out⟩ hJ hF
      rw [catF_nil] at hF
      simp only at hF
      subst hF
      repeat' (first
 |refine aK fun K hK=>?_|refine Step.by1 ?_|refine sE (by decide) ?_|refine cz rfl ?_|refine Fork.by2 (fun h=>?_) fun h=>?_
 |(refine aR ?_;simp [vl, NetD.cells])
 |(refine Split.by2 (fun h=>?_) (fun h=>?_)<;>(simp [h, vl, NetD.cells]))
 |(apply hK;clear hK K)|refine AWh ‹_› ?_)
      exact r1q (.inr (.inl (conv1_own rfl (by simp))))
  have := hgoal.freeze
  simpa [vl] using this
theorem flat_len {α β : Type} {f : α → List β} {c : Nat} : ∀ {l : List α}, (∀ x ∈ l, (f x).length ≤ c) → (l.flatMap f).length ≤ l.length * c
  | [], _ => by simp
  | x :: r, h => by
    have h1 := h x (.head _)
    have h2 := flat_len (f := f) (c := c) (l := r) fun y hy => h y (.tail _ hy)
    simp only [List.flatMap_cons, List.length_append, List.length_cons, Nat.add_mul, Nat.one_mul]; omega
theorem guardsA_len {n : NetD} (hz : Small n) {a : AutoD} (ha : a ∈ n.autos) : (guardsA a).length ≤ 5120 := by
  have h1 := flat_len (f := fun x : LocD => x.inv) (c := 16) (hz.inv a ha)
  have h2 := flat_len (f := fun x : EdgeD => x.guards) (c := 16) (hz.guards a ha)
  have h3 := hz.locs a ha
  have h4 := hz.edges a ha
  unfold guardsA; rw [List.length_append]; omega
theorem guardsL_len {n : NetD} (hz : Small n) : (guardsL n).length ≤ 40960 := by
  have h1 := flat_len (f := guardsA) (c := 5120) (fun a ha => guardsA_len hz ha)
  have := hz.autos
  unfold guardsL; omega
theorem setsL_len {n : NetD} (hz : Small n) : (setsL n).length ≤ 32768 := by
  have h1 := flat_len (l := n.autos) (f := setsA) (c := 4096) (fun a ha => by
    have h2 := flat_len (f := fun x : EdgeD => x.sets) (c := 16) (hz.sets a ha)
    have h4 := hz.edges a ha
    unfold setsA; omega)
  have := hz.autos
  unfold setsL; omega
def clkS (n : NetD) (s : SetD) : Bool := decide (s.clock ≠ 0) && !isClk n s.clock
def clocksE (n : NetD) : Int := if clkE n (guardsL n) ≠ 0 then clkE n (guardsL n) else if anyL (clkS n) (setsL n) = true then 12 else 0
set_option maxRecDepth 8000 in
set_option maxHeartbeats 8000000 in
theorem c_clocks (n : NetD) (hz : Small n) : PC 232 [.agg n.cells] (.int .i64 (clocksE n)) := by
  have hg := c_guards n hz
  have hs := c_sets n hz
  have hk := c_clkE n (guardsL n) (by have := guardsL_len hz; omega)
  have hsl := setsL_len hz
  by_cases h0 : clkE n (guardsL n) = 0
  · have hr : clocksE n = if anyL (clkS n) (setsL n) = true then 12 else 0 := by simp [clocksE, h0]
    rw [hr]
    rw [h0] at hk
    obtain ⟨E, hE⟩ : ∃ E : List SetD → Int, E = fun l => if anyL (clkS n) l = true then 12 else 0 := ⟨_, rfl⟩
    have hEc : ∀ a l, E (a :: l) = if clkS n a = true then 12 else E l := fun a l => by subst hE; by_cases h : clkS n a = true <;> simp [anC, h]
    have hEn : (if anyL (clkS n) (setsL n) = true then (12 : Int) else 0) = E (setsL n) := by subst hE; rfl
    have hE0 : E [] = 0 := by subst hE; rfl
    rw [hEn]
    generalize setsL n = ss at *
    generalize guardsL n = gs at *
    simp only [NetD.cells, vl] at hg hs hk
    refine pB Tryz.func232 rfl (by decide) Tryz.ntmps232 (by simp) Tryz.results232 ?_
    repeat' (first
 |refine aK fun K hK=>?_|refine Step.by1 ?_|refine sE (by decide) ?_|refine cz rfl ?_|refine Fork.by2 (fun h=>?_) fun h=>?_
 |((first|refine aR ?_|refine aX (id:=1) 5 mixed (by decide) ?_|refine aC (f:=269) rfl rfl (hg) rfl rfl rfl ?_|refine aP1 (f:=269) rfl rfl (hg) rfl rfl rfl ?_|refine aP1 (f:=180) rfl rfl (hk) rfl rfl rfl ?_|refine aC (f:=180) rfl rfl (hk) rfl rfl rfl ?_|refine aC (f:=270) rfl rfl (hs) rfl rfl rfl ?_);simp [vl, NetD.cells])
 |(refine Split.by2 (fun h=>?_) (fun h=>?_)<;>(simp [h, vl, NetD.cells]))
 |(apply hK;clear hK K)|refine AWh ‹_› ?_)
    refine aS1 (ss) 16 [1, 14, 15] (E) rfl (by apply Weak.mk' <;> simp [vl]) ?_ ?_
    · intro i x _ hlt hx hF
      rw [hEc] at hF
      have hc1 := c_isClock n x.clock
      simp only [NetD.cells, vl] at hc1
      generalize hk1 : isClk n x.clock = k1 at hc1
      repeat' (first
 |refine aK fun K hK=>?_|refine Step.by1 ?_|refine sE (by decide) ?_|refine cz rfl ?_|refine Fork.by2 (fun h=>?_) fun h=>?_
 |((first|refine aR ?_|refine aC (f:=235) rfl rfl (hc1) rfl rfl rfl ?_);simp [vl, SetD.cells, NetD.cells, hlt, hx, wI];try (simp (disch:=omega) only [wI];try simp [vl, SetD.cells, NetD.cells, hlt, hx, wI]))
 |(refine Split.by2 (fun h=>?_) (fun h=>?_)<;>(simp [h, vl, SetD.cells, NetD.cells, hlt, hx, wI];try (simp (disch:=omega) only [wI];try simp [vl, SetD.cells, NetD.cells, hlt, hx, wI])))
 |(apply hK;clear hK K)|refine AWh ‹_› ?_)
      all_goals first
        | exact r1q (cE (by rw [← hF]; simp [clkS, *]) rfl)
        | (refine ⟨by rw [← hF]; simp [clkS, *], ?_⟩; apply Weak.mk' <;> simp [vl, NetD.cells])
    · intro hF
      repeat' (first
 |refine aK fun K hK=>?_|refine Step.by1 ?_|refine sE (by decide) ?_|refine cz rfl ?_|refine Fork.by2 (fun h=>?_) fun h=>?_
 |(refine aR ?_;simp [vl, NetD.cells])
 |(refine Split.by2 (fun h=>?_) (fun h=>?_)<;>(simp [h, vl, NetD.cells]))
 |(apply hK;clear hK K)|refine AWh ‹_› ?_)
      exact r1q (cE (by rw [← hF, hE0]; simp) rfl)
  · have hr : clocksE n = clkE n (guardsL n) := by simp [clocksE, h0]
    rw [hr]
    generalize clkE n (guardsL n) = k at *
    generalize guardsL n = gs at *
    simp only [NetD.cells, vl] at hg hk
    refine pB Tryz.func232 rfl (by decide) Tryz.ntmps232 (by simp) Tryz.results232 ?_
    repeat' (first
 |refine aK fun K hK=>?_|refine Step.by1 ?_|refine sE (by decide) ?_|refine cz rfl ?_|refine Fork.by2 (fun h=>?_) fun h=>?_
 |((first|refine aR ?_|refine aX (id:=1) 5 mixed (by decide) ?_|refine aC (f:=269) rfl rfl (hg) rfl rfl rfl ?_|refine aP1 (f:=269) rfl rfl (hg) rfl rfl rfl ?_|refine aP1 (f:=180) rfl rfl (hk) rfl rfl rfl ?_|refine aC (f:=180) rfl rfl (hk) rfl rfl rfl ?_);simp [vl, NetD.cells, h0])
 |(refine Split.by2 (fun h=>?_) (fun h=>?_)<;>(simp [h, vl, NetD.cells, h0]))
 |(apply hK;clear hK K)|refine AWh ‹_› ?_)
    exact r1q (cE rfl rfl)
def formS (s : SetD) : Bool := decide (s.clock = 0 ∧ s.n ≠ 0 ∨ s.clock ≠ 0 ∧ (s.var ≠ 0 ∨ 0 < s.expr.length))
def formsE (n : NetD) : Int := if cmpE (guardsL n) ≠ 0 then cmpE (guardsL n) else if anyL formS (setsL n) = true then 7 else 0
set_option maxRecDepth 8000 in
set_option maxHeartbeats 8000000 in
theorem c_forms (n : NetD) (hz : Small n) : PC 233 [.agg n.cells] (.int .i64 (formsE n)) := by
  have hg := c_guards n hz
  have hs := c_sets n hz
  have hk := c_cmpE (guardsL n) (by have := guardsL_len hz; omega)
  have hsl := setsL_len hz
  by_cases h0 : cmpE (guardsL n) = 0
  · have hr : formsE n = if anyL formS (setsL n) = true then 7 else 0 := by simp [formsE, h0]
    rw [hr]
    rw [h0] at hk
    obtain ⟨E, hE⟩ : ∃ E : List SetD → Int, E = fun l => if anyL formS l = true then 7 else 0 := ⟨_, rfl⟩
    have hEc : ∀ a l, E (a :: l) = if formS a = true then 7 else E l := fun a l => by subst hE; by_cases h : formS a = true <;> simp [anC, h]
    have hEn : (if anyL formS (setsL n) = true then (7 : Int) else 0) = E (setsL n) := by subst hE; rfl
    have hE0 : E [] = 0 := by subst hE; rfl
    rw [hEn]
    generalize setsL n = ss at *
    generalize guardsL n = gs at *
    simp only [NetD.cells, vl] at hg hs hk
    refine pB Tryz.func233 rfl (by decide) Tryz.ntmps233 (by simp) Tryz.results233 ?_
    repeat' (first
 |refine aK fun K hK=>?_|refine Step.by1 ?_|refine sE (by decide) ?_|refine cz rfl ?_|refine Fork.by2 (fun h=>?_) fun h=>?_
 |((first|refine aR ?_|refine aC (f:=269) rfl rfl (hg) rfl rfl rfl ?_|refine aC (f:=182) rfl rfl (hk) rfl rfl rfl ?_|refine aC (f:=270) rfl rfl (hs) rfl rfl rfl ?_);simp [vl, NetD.cells])
 |(refine Split.by2 (fun h=>?_) (fun h=>?_)<;>(simp [h, vl, NetD.cells]))
 |(apply hK;clear hK K)|refine AWh ‹_› ?_)
    refine aS1 (ss) 15 [13, 14] (E) rfl (by apply Weak.mk' <;> simp [vl]) ?_ ?_
    · intro i x _ hlt hx hF
      rw [hEc] at hF
      repeat' (first
 |refine aK fun K hK=>?_|refine Step.by1 ?_|refine sE (by decide) ?_|refine cz rfl ?_|refine Fork.by2 (fun h=>?_) fun h=>?_
 |(refine aR ?_;simp [vl, SetD.cells, NetD.cells, hlt, hx, wI];try (simp (disch:=omega) only [wI];try simp [vl, SetD.cells, NetD.cells, hlt, hx, wI]))
 |(refine Split.by2 (fun h=>?_) (fun h=>?_)<;>(simp [h, vl, SetD.cells, NetD.cells, hlt, hx, wI];try (simp (disch:=omega) only [wI];try simp [vl, SetD.cells, NetD.cells, hlt, hx, wI])))
 |(apply hK;clear hK K)|refine AWh ‹_› ?_)
      all_goals first
        | exact r1q (cE (by rw [← hF]; simp [formS, *]) rfl)
        | exact r1q (cE (by rw [← hF]; simp [formS, *]; omega) rfl)
        | (refine ⟨by rw [← hF]; simp [formS, *]; done, ?_⟩; apply Weak.mk' <;> simp [vl, NetD.cells])
        | (refine ⟨by rw [← hF]; simp [formS, *]; omega, ?_⟩; apply Weak.mk' <;> simp [vl, NetD.cells])
    · intro hF
      repeat' (first
 |refine aK fun K hK=>?_|refine Step.by1 ?_|refine sE (by decide) ?_|refine cz rfl ?_|refine Fork.by2 (fun h=>?_) fun h=>?_
 |(refine aR ?_;simp [vl, NetD.cells])
 |(refine Split.by2 (fun h=>?_) (fun h=>?_)<;>(simp [h, vl, NetD.cells]))
 |(apply hK;clear hK K)|refine AWh ‹_› ?_)
      exact r1q (cE (by rw [← hF, hE0]; simp) rfl)
  · have hr : formsE n = cmpE (guardsL n) := by simp [formsE, h0]
    rw [hr]
    generalize cmpE (guardsL n) = k at *
    generalize guardsL n = gs at *
    simp only [NetD.cells, vl] at hg hk
    refine pB Tryz.func233 rfl (by decide) Tryz.ntmps233 (by simp) Tryz.results233 ?_
    repeat' (first
 |refine aK fun K hK=>?_|refine Step.by1 ?_|refine sE (by decide) ?_|refine cz rfl ?_|refine Fork.by2 (fun h=>?_) fun h=>?_
 |((first|refine aR ?_|refine aC (f:=269) rfl rfl (hg) rfl rfl rfl ?_|refine aC (f:=182) rfl rfl (hk) rfl rfl rfl ?_);simp [vl, NetD.cells, h0])
 |(refine Split.by2 (fun h=>?_) (fun h=>?_)<;>(simp [h, vl, NetD.cells, h0]))
 |(apply hK;clear hK K)|refine AWh ‹_› ?_)
    exact r1q (cE rfl rfl)
end Go.Proofs.YtbgooadmonnjaaaGreatDoor
end
