/-
  YtgmlimipejcpgaaGreatDoorLj14: steps of the proof of a law of the program: what these texts prove holds under the hypotheses that their theorems name, and no others.
-/
import Derived.Test.YtgmlimipejcpgaaGreatDoorLj13
import Derived.Test.YtgmlimipejcpgaaGreatDoorLj11
import Derived.Test.YtgmlimipejcpgaaGreatDoorLj12
section
set_option linter.unusedSimpArgs false
set_option linter.unusedVariables false
namespace Go.Proofs.YtgmlimipejcpgaaGreatDoor
open Go Go.AM Fx
def catF {α β : Type} (f : α → List β) (l : List α) (acc : Nat × List β) : List β := acc.2 ++ l.flatMap f
theorem catF_nil {α β : Type} {f : α → List β} {acc : Nat × List β} : catF f [] acc = acc.2 := by simp [catF]
theorem catF_cons {α β : Type} {f : α → List β} {x : α} {l : List α} {acc : Nat × List β} (g : Nat) : catF f (x :: l) acc = catF f l (g, acc.2 ++ f x) := by simp [catF]
def guardsA (a : AutoD) : List GuardD := a.locs.flatMap (·.inv) ++ a.edges.flatMap (·.guards)
def guardsL (n : NetD) : List GuardD := n.autos.flatMap guardsA
def setsA (a : AutoD) : List SetD := a.edges.flatMap (·.sets)
def setsL (n : NetD) : List SetD := n.autos.flatMap setsA
/-- What a network that is not too great holds. -/
structure Small (n : NetD) : Prop where
  clocks : n.clocks.length ≤ 8
  vars : n.vars.length ≤ 16
  chans : n.chans.length ≤ 16
  autos : n.autos.length ≤ 8
  locs : ∀ a ∈ n.autos, a.locs.length ≤ 64
  edges : ∀ a ∈ n.autos, a.edges.length ≤ 256
  inv : ∀ a ∈ n.autos, ∀ x ∈ a.locs, x.inv.length ≤ 16
  guards : ∀ a ∈ n.autos, ∀ x ∈ a.edges, x.guards.length ≤ 16
  sets : ∀ a ∈ n.autos, ∀ x ∈ a.edges, x.sets.length ≤ 16
  test : ∀ a ∈ n.autos, ∀ x ∈ a.edges, x.test.length ≤ 64
  expr : ∀ a ∈ n.autos, ∀ x ∈ a.edges, ∀ s ∈ x.sets, s.expr.length ≤ 64
theorem anyL_false {α : Type} {p : α → Bool} {l : List α} (h : anyL p l = false) : ∀ x ∈ l, p x = false := by
  unfold anyL at h; rw [List.any_eq_false] at h; intro x hx; simpa using h x hx
theorem small_of {n : NetD} (h : sizeNet n = false) : Small n := by
  unfold sizeNet at h
  rw [Bool.or_eq_false_iff] at h
  obtain ⟨h1, h2⟩ := h
  simp only [decide_eq_false_iff_not] at h1
  have ha := fun a (m : a ∈ n.autos) => anyL_false h2 a m
  have hb : ∀ a ∈ n.autos, ¬ (64 < a.locs.length ∨ 256 < a.edges.length) ∧ anyL sizeLoc a.locs = false ∧ anyL sizeEdge a.edges = false := fun a m => by
    have := ha a m
    unfold sizeAuto at this
    rw [Bool.or_eq_false_iff, Bool.or_eq_false_iff] at this
    exact ⟨by simpa using this.1, this.2.1, this.2.2⟩
  have hc : ∀ a ∈ n.autos, ∀ x ∈ a.edges, ¬ (16 < x.guards.length ∨ 16 < x.sets.length ∨ 64 < x.test.length) ∧ anyL sizeSet x.sets = false := fun a m x mx => by
    have := anyL_false (hb a m).2.2 x mx
    unfold sizeEdge at this
    rw [Bool.or_eq_false_iff] at this
    exact ⟨by simpa using this.1, this.2⟩
  refine ⟨by omega, by omega, by omega, by omega, fun a m => ?_, fun a m => ?_, fun a m x mx => ?_, fun a m x mx => ?_, fun a m x mx => ?_, fun a m x mx => ?_, fun a m x mx s ms => ?_⟩
  · have := (hb a m).1; omega
  · have := (hb a m).1; omega
  · have := anyL_false (hb a m).2.1 x mx; simp [sizeLoc] at this; omega
  · have := (hc a m x mx).1; omega
  · have := (hc a m x mx).1; omega
  · have := (hc a m x mx).1; omega
  · have := anyL_false (hc a m x mx).2 s ms; simp [sizeSet] at this; omega
theorem conv1_own {h : List B} {b g : Nat} {T : TypeId} {xs : List (List V)} {n : Nat} (hb : h[b]? = some (.row T g 0 true xs)) (hn : n = xs.length) : Conv1 h (.ref b g 0 n) (.own T xs) := by subst hn; exact .inr ⟨b, g, T, xs, rfl, hb, rfl⟩
set_option maxRecDepth 8000 in
set_option maxHeartbeats 8000000 in
theorem c_guards (n : NetD) (hz : Small n) : PC 191 [.agg n.cells] (vl GuardD.cells (guardsL n)) := by
  have hgoal : PC 191 [.agg n.cells] (.own 127 ((guardsL n).map GuardD.cells)) := by
    refine pB Tryz.func191 rfl (by decide) Tryz.ntmps191 (by simp) Tryz.results191 ?_
    repeat' (first
 |refine AW_nilrow 3 127 rfl (by simp) ?_
 |refine aK fun K hK=>?_|refine Step.by1 ?_|refine sE (by decide) ?_|refine cz rfl ?_|refine Fork.by2 (fun h=>?_) fun h=>?_
 |(refine aR ?_;simp [vl, NetD.cells])
 |(refine Split.by2 (fun h=>?_) (fun h=>?_)<;>(simp [h, vl, NetD.cells]))
 |(apply hK;clear hK K)|refine AWh ‹_› ?_)
    refine AW_range n.autos 13 [11, 12] (fun c : Nat × List GuardD => [(3, .ref 1 c.1 0 c.2.length)]) (fun c => [.var n.cells, .row 127 c.1 0 true (c.2.map GuardD.cells)]) (fun i c => c.2.length ≤ i * 5120) (catF guardsA) (0, []) (r := guardsL n)
      (by simp [catF, guardsL]) (by simp) (by apply Weak.mk' <;> simp [vl, NetD.cells]) (fun _ _ _ => rfl) ?_ ?_
    · rintro i ⟨g, out⟩ a _ hlt ha hJ hF
      have hm : a ∈ n.autos := ha ▸ List.getElem_mem hlt
      have b1 := hz.autos
      have b2 := hz.locs a hm
      have b3 := hz.edges a hm
      simp only at hJ hF
      repeat' (first
 |refine aK fun K hK=>?_|refine Step.by1 ?_|refine sE (by decide) ?_|refine cz rfl ?_|refine Fork.by2 (fun h=>?_) fun h=>?_
 |(refine aR ?_;simp [vl, AutoD.cells, NetD.cells, hlt, ha, wI];try (simp (disch:=omega) only [wI];try simp [vl, AutoD.cells, NetD.cells, hlt, ha, wI]))
 |(refine Split.by2 (fun h=>?_) (fun h=>?_)<;>(simp [h, vl, AutoD.cells, NetD.cells, hlt, ha, wI];try (simp (disch:=omega) only [wI];try simp [vl, AutoD.cells, NetD.cells, hlt, ha, wI])))
 |(apply hK;clear hK K)|refine AWh ‹_› ?_)
      obtain ⟨r1, hr1⟩ : ∃ r1, catF LocD.inv a.locs (g, out) = r1 := ⟨_, rfl⟩
      refine AW_range a.locs 20 [5, 11, 12, 13, 18, 19] (fun c : Nat × List GuardD => [(3, .ref 1 c.1 0 c.2.length)]) (fun c => [.var n.cells, .row 127 c.1 0 true (c.2.map GuardD.cells), .var a.cells]) (fun k c => c.2.length ≤ out.length + k * 16) (catF LocD.inv) (g, out) hr1
        (by simp) (by apply Weak.mk' <;> simp [vl, NetD.cells, AutoD.cells]) (fun _ _ _ => rfl) ?_ ?_
      · rintro k ⟨g1, o1⟩ x _ hkt hx hK hG
        have b4 := hz.inv a hm x (hx ▸ List.getElem_mem hkt)
        simp only at hK
        rw [catF_cons (g1 + 1)] at hG
        have htk : (x.inv.map GuardD.cells).take x.inv.length = x.inv.map GuardD.cells := List.take_of_length_le (by simp)
        have hby : (o1.length + x.inv.length) * 32 ≤ 140737488355328 := by omega
        have hlg : ∀ z : GuardD, z.cells.length = 4 := fun _ => rfl
        repeat' (first
 |refine aK fun K hK=>?_|refine Step.by1 ?_|refine sE (by decide) ?_|refine cz rfl ?_|refine Fork.by2 (fun h=>?_) fun h=>?_
 |(refine aR ?_;simp [vl, AutoD.cells, LocD.cells, NetD.cells, hkt, hx, htk, hby, wI];try (simp (disch:=omega) only [wI];try simp [vl, AutoD.cells, LocD.cells, NetD.cells, hkt, hx, htk, hby, wI]))
 |(refine Split.by2 (fun h=>?_) (fun h=>?_)<;>(simp [h, vl, AutoD.cells, LocD.cells, NetD.cells, hkt, hx, htk, hby, wI];try (simp (disch:=omega) only [wI];try simp [vl, AutoD.cells, LocD.cells, NetD.cells, hkt, hx, htk, hby, wI])))
 |(apply hK;clear hK K)|refine AWh ‹_› ?_)
        exact ⟨g1 + 1, o1 ++ x.inv, hG, by simp; omega, by apply Weak.mk' <;> simp [vl, NetD.cells, AutoD.cells]⟩
      · rintro ⟨g1, o1⟩ hK hG
        rw [catF_nil] at hG
        simp only at hK hG
        subst hG
        simp only [catF] at hr1
        repeat' (first
 |refine aK fun K hK=>?_|refine Step.by1 ?_|refine sE (by decide) ?_|refine cz rfl ?_|refine Fork.by2 (fun h=>?_) fun h=>?_
 |(refine aR ?_;simp [vl, AutoD.cells, NetD.cells, wI];try (simp (disch:=omega) only [wI];try simp [vl, AutoD.cells, NetD.cells, wI]))
 |(refine Split.by2 (fun h=>?_) (fun h=>?_)<;>(simp [h, vl, AutoD.cells, NetD.cells, wI];try (simp (disch:=omega) only [wI];try simp [vl, AutoD.cells, NetD.cells, wI])))
 |(apply hK;clear hK K)|refine AWh ‹_› ?_)
        obtain ⟨r2, hr2⟩ : ∃ r2, catF EdgeD.guards a.edges (g1, o1) = r2 := ⟨_, rfl⟩
        refine AW_range a.edges 32 [11, 12, 13, 30, 31] (fun c : Nat × List GuardD => [(3, .ref 1 c.1 0 c.2.length)]) (fun c => [.var n.cells, .row 127 c.1 0 true (c.2.map GuardD.cells), .var a.cells]) (fun k c => c.2.length ≤ o1.length + k * 16) (catF EdgeD.guards) (g1, o1) hr2
          (by simp) (by apply Weak.mk' <;> simp [vl, NetD.cells, AutoD.cells]) (fun _ _ _ => rfl) ?_ ?_
        · rintro k ⟨g2, o2⟩ x _ hkt hx hK2 hG
          have b4 := hz.guards a hm x (hx ▸ List.getElem_mem hkt)
          simp only at hK2
          rw [catF_cons (g2 + 1)] at hG
          have htk : (x.guards.map GuardD.cells).take x.guards.length = x.guards.map GuardD.cells := List.take_of_length_le (by simp)
          have hby : (o2.length + x.guards.length) * 32 ≤ 140737488355328 := by omega
          repeat' (first
 |refine aK fun K hK=>?_|refine Step.by1 ?_|refine sE (by decide) ?_|refine cz rfl ?_|refine Fork.by2 (fun h=>?_) fun h=>?_
 |(refine aR ?_;simp [vl, AutoD.cells, EdgeD.cells, NetD.cells, hkt, hx, htk, hby, wI];try (simp (disch:=omega) only [wI];try simp [vl, AutoD.cells, EdgeD.cells, NetD.cells, hkt, hx, htk, hby, wI]))
 |(refine Split.by2 (fun h=>?_) (fun h=>?_)<;>(simp [h, vl, AutoD.cells, EdgeD.cells, NetD.cells, hkt, hx, htk, hby, wI];try (simp (disch:=omega) only [wI];try simp [vl, AutoD.cells, EdgeD.cells, NetD.cells, hkt, hx, htk, hby, wI])))
 |(apply hK;clear hK K)|refine AWh ‹_› ?_)
          exact ⟨g2 + 1, o2 ++ x.guards, hG, by simp; omega, by apply Weak.mk' <;> simp [vl, NetD.cells, AutoD.cells]⟩
        · rintro ⟨g2, o2⟩ hK2 hG
          rw [catF_nil] at hG
          simp only at hK2 hG
          subst hG
          simp only [catF] at hr2
          rw [catF_cons g2] at hF
          have ho : out ++ guardsA a = o2 := by rw [← hr2, ← hr1]; simp [guardsA]
          simp only at hF
          rw [ho] at hF
          repeat' (first
 |refine aK fun K hK=>?_|refine Step.by1 ?_|refine sE (by decide) ?_|refine cz rfl ?_|refine Fork.by2 (fun h=>?_) fun h=>?_
 |(refine aR ?_;simp [vl, AutoD.cells, NetD.cells, wI];try (simp (disch:=omega) only [wI];try simp [vl, AutoD.cells, NetD.cells, wI]))
 |(refine Split.by2 (fun h=>?_) (fun h=>?_)<;>(simp [h, vl, AutoD.cells, NetD.cells, wI];try (simp (disch:=omega) only [wI];try simp [vl, AutoD.cells, NetD.cells, wI])))
 |(apply hK;clear hK K)|refine AWh ‹_› ?_)
          exact ⟨g2, o2, hF, by omega, by apply Weak.mk' <;> simp [vl, NetD.cells]⟩
    · rintro ⟨g, out⟩ hJ hF
      rw [catF_nil] at hF
      simp only at hF
      subst hF
      repeat' (first
 |refine aK fun K hK=>?_|refine Step.by1 ?_|refine sE (by decide) ?_|refine cz rfl ?_|refine Fork.by2 (fun h=>?_) fun h=>?_
 |(refine aR ?_;simp [vl, NetD.cells])
 |(refine Split.by2 (fun h=>?_) (fun h=>?_)<;>(simp [h, vl, NetD.cells]))
 |(apply hK;clear hK K)|refine AWh ‹_› ?_)
      exact r1q (.inr (.inl (conv1_own rfl (by simp))))
  have := hgoal.freeze
  simpa [vl] using this
set_option maxRecDepth 8000 in
set_option maxHeartbeats 8000000 in
theorem c_sets (n : NetD) (hz : Small n) : PC 192 [.agg n.cells] (vl SetD.cells (setsL n)) := by
  have hgoal : PC 192 [.agg n.cells] (.own 116 ((setsL n).map SetD.cells)) := by
    refine pB Tryz.func192 rfl (by decide) Tryz.ntmps192 (by simp) Tryz.results192 ?_
    repeat' (first
 |refine AW_nilrow 3 116 rfl (by simp) ?_
 |refine aK fun K hK=>?_|refine Step.by1 ?_|refine sE (by decide) ?_|refine cz rfl ?_|refine Fork.by2 (fun h=>?_) fun h=>?_
 |(refine aR ?_;simp [vl, NetD.cells])
 |(refine Split.by2 (fun h=>?_) (fun h=>?_)<;>(simp [h, vl, NetD.cells]))
 |(apply hK;clear hK K)|refine AWh ‹_› ?_)
    refine AW_range n.autos 11 [9, 10] (fun c : Nat × List SetD => [(3, .ref 1 c.1 0 c.2.length)]) (fun c => [.var n.cells, .row 116 c.1 0 true (c.2.map SetD.cells)]) (fun i c => c.2.length ≤ i * 4096) (catF setsA) (0, []) (r := setsL n)
      (by simp [catF, setsL]) (by simp) (by apply Weak.mk' <;> simp [vl, NetD.cells]) (fun _ _ _ => rfl) ?_ ?_
    · rintro i ⟨g, out⟩ a _ hlt ha hJ hF
      have hm : a ∈ n.autos := ha ▸ List.getElem_mem hlt
      have b1 := hz.autos
      have b3 := hz.edges a hm
      simp only at hJ hF
      repeat' (first
 |refine aK fun K hK=>?_|refine Step.by1 ?_|refine sE (by decide) ?_|refine cz rfl ?_|refine Fork.by2 (fun h=>?_) fun h=>?_
 |(refine aR ?_;simp [vl, AutoD.cells, NetD.cells, hlt, ha, wI];try (simp (disch:=omega) only [wI];try simp [vl, AutoD.cells, NetD.cells, hlt, ha, wI]))
 |(refine Split.by2 (fun h=>?_) (fun h=>?_)<;>(simp [h, vl, AutoD.cells, NetD.cells, hlt, ha, wI];try (simp (disch:=omega) only [wI];try simp [vl, AutoD.cells, NetD.cells, hlt, ha, wI])))
 |(apply hK;clear hK K)|refine AWh ‹_› ?_)
      obtain ⟨r2, hr2⟩ : ∃ r2, catF EdgeD.sets a.edges (g, out) = r2 := ⟨_, rfl⟩
      refine AW_range a.edges 18 [9, 10, 11, 16, 17] (fun c : Nat × List SetD => [(3, .ref 1 c.1 0 c.2.length)]) (fun c => [.var n.cells, .row 116 c.1 0 true (c.2.map SetD.cells), .var a.cells]) (fun k c => c.2.length ≤ out.length + k * 16) (catF EdgeD.sets) (g, out) hr2
        (by simp) (by apply Weak.mk' <;> simp [vl, NetD.cells, AutoD.cells]) (fun _ _ _ => rfl) ?_ ?_
      · rintro k ⟨g2, o2⟩ x _ hkt hx hK2 hG
        have b4 := hz.sets a hm x (hx ▸ List.getElem_mem hkt)
        simp only at hK2
        rw [catF_cons (g2 + 1)] at hG
        have htk : (x.sets.map SetD.cells).take x.sets.length = x.sets.map SetD.cells := List.take_of_length_le (by simp)
        have hby : (o2.length + x.sets.length) * 48 ≤ 140737488355328 := by omega
        repeat' (first
 |refine aK fun K hK=>?_|refine Step.by1 ?_|refine sE (by decide) ?_|refine cz rfl ?_|refine Fork.by2 (fun h=>?_) fun h=>?_
 |(refine aR ?_;simp [vl, AutoD.cells, EdgeD.cells, NetD.cells, hkt, hx, htk, hby, wI];try (simp (disch:=omega) only [wI];try simp [vl, AutoD.cells, EdgeD.cells, NetD.cells, hkt, hx, htk, hby, wI]))
 |(refine Split.by2 (fun h=>?_) (fun h=>?_)<;>(simp [h, vl, AutoD.cells, EdgeD.cells, NetD.cells, hkt, hx, htk, hby, wI];try (simp (disch:=omega) only [wI];try simp [vl, AutoD.cells, EdgeD.cells, NetD.cells, hkt, hx, htk, hby, wI])))
 |(apply hK;clear hK K)|refine AWh ‹_› ?_)
        exact ⟨g2 + 1, o2 ++ x.sets, hG, by simp; omega, by apply Weak.mk' <;> simp [vl, NetD.cells, AutoD.cells]⟩
      · rintro ⟨g2, o2⟩ hK2 hG
        rw [catF_nil] at hG
        simp only at hK2 hG
        subst hG
        simp only [catF] at hr2
        rw [catF_cons g2] at hF
        have ho : out ++ setsA a = o2 := by rw [← hr2]; simp [setsA]
        simp only at hF
        rw [ho] at hF
        repeat' (first
 |refine aK fun K hK=>?_|refine Step.by1 ?_|refine sE (by decide) ?_|refine cz rfl ?_|refine Fork.by2 (fun h=>?_) fun h=>?_
 |(refine aR ?_;simp [vl, AutoD.cells, NetD.cells, wI];try (simp (disch:=omega) only [wI];try simp [vl, AutoD.cells, NetD.cells, wI]))
 |(refine Split.by2 (fun h=>?_) (fun h=>?_)<;>(simp [h, vl, AutoD.cells, NetD.cells, wI];try (simp (disch:=omega) only [wI];try simp [vl, AutoD.cells, NetD.cells, wI])))
 |(apply hK;clear hK K)|refine AWh ‹_› ?_)
        exact ⟨g2, o2, hF, by omega, by apply Weak.mk' <;> simp [vl, NetD.cells]⟩
    · rintro ⟨g, out⟩ hJ hF
      rw [catF_nil] at hF
      simp only at hF
      subst hF
      repeat' (first
 |refine aK fun K hK=>?_|refine Step.by1 ?_|refine sE (by decide) ?_|refine cz rfl ?_|refine Fork.by2 (fun h=>?_) fun h=>?_
 |(refine aR ?_;simp [vl, NetD.cells])
 |(refine Split.by2 (fun h=>?_) (fun h=>?_)<;>(simp [h, vl, NetD.cells]))
 |(apply hK;clear hK K)|refine AWh ‹_› ?_)
      exact r1q (.inr (.inl (conv1_own rfl (by simp))))
  have := hgoal.freeze
  simpa [vl] using this
def locNamesL (a : AutoD) : List ByteArray := a.locs.map (·.name)
set_option maxHeartbeats 8000000 in
theorem c_locNames (a : AutoD) (ha : a.locs.length ≤ 1048576) : PC 189 [.agg a.cells] (vl (fun s => [V.str s]) (locNamesL a)) := by
  have hgoal : PC 189 [.agg a.cells] (.own 9 ((locNamesL a).map fun s => [V.str s])) := by
    refine pB Tryz.func189 rfl (by decide) Tryz.ntmps189 (by simp) Tryz.results189 ?_
    repeat' (first
 |refine AW_nilrow 3 9 rfl (by simp) ?_
 |refine aK fun K hK=>?_|refine Step.by1 ?_|refine sE (by decide) ?_|refine cz rfl ?_|refine Fork.by2 (fun h=>?_) fun h=>?_
 |(refine aR ?_;simp [vl, AutoD.cells])
 |(refine Split.by2 (fun h=>?_) (fun h=>?_)<;>(simp [h, vl, AutoD.cells]))
 |(apply hK;clear hK K)|refine AWh ‹_› ?_)
    refine AW_range a.locs 9 [7, 8] (fun c : Nat × List ByteArray => [(3, .ref 1 c.1 0 c.2.length)]) (fun c => [.var a.cells, .row 9 c.1 0 true (c.2.map fun s => [V.str s])]) (fun i c => c.2.length = i) (catF fun x : LocD => [x.name]) (0, []) (r := locNamesL a)
      (by simp [catF, locNamesL, List.flatMap_singleton']; try exact (List.map_eq_flatMap ..).symm) (by simp) (by apply Weak.mk' <;> simp [vl, AutoD.cells]) (fun _ _ _ => rfl) ?_ ?_
    · rintro i ⟨g, out⟩ x _ hlt hx hJ hF
      simp only at hJ
      rw [catF_cons (g + 1)] at hF
      have hby : (out.length + 1) * 16 ≤ 140737488355328 := by omega
      repeat' (first
 |refine aK fun K hK=>?_|refine Step.by1 ?_|refine sE (by decide) ?_|refine cz rfl ?_|refine Fork.by2 (fun h=>?_) fun h=>?_
 |(refine aR ?_;simp [vl, AutoD.cells, LocD.cells, hlt, hx, hby, wI];try (simp (disch:=omega) only [wI];try simp [vl, AutoD.cells, LocD.cells, hlt, hx, hby, wI]))
 |(refine Split.by2 (fun h=>?_) (fun h=>?_)<;>(simp [h, vl, AutoD.cells, LocD.cells, hlt, hx, hby, wI];try (simp (disch:=omega) only [wI];try simp [vl, AutoD.cells, LocD.cells, hlt, hx, hby, wI])))
 |(apply hK;clear hK K)|refine AWh ‹_› ?_)
      exact ⟨g + 1, out ++ [x.name], hF, by simp; omega, by apply Weak.mk' <;> simp [vl, AutoD.cells]⟩
    · rintro ⟨g, out⟩ hJ hF
      rw [catF_nil] at hF
      simp only at hF
      subst hF
      repeat' (first
 |refine aK fun K hK=>?_|refine Step.by1 ?_|refine sE (by decide) ?_|refine cz rfl ?_|refine Fork.by2 (fun h=>?_) fun h=>?_
 |(refine aR ?_;simp [vl, AutoD.cells])
 |(refine Split.by2 (fun h=>?_) (fun h=>?_)<;>(simp [h, vl, AutoD.cells]))
 |(apply hK;clear hK K)|refine AWh ‹_› ?_)
      exact r1q (.inr (.inl (conv1_own rfl (by simp))))
  have := hgoal.freeze
  simpa [vl] using this
def namesL (n : NetD) : List ByteArray := n.vars.map (·.name)
set_option maxHeartbeats 8000000 in
theorem c_Names (n : NetD) (ha : n.vars.length ≤ 1048576) : PC 218 [.agg n.cells] (vl (fun s => [V.str s]) (namesL n)) := by
  have hgoal : PC 218 [.agg n.cells] (.own 9 ((namesL n).map fun s => [V.str s])) := by
    refine pB Tryz.func218 rfl (by decide) Tryz.ntmps218 (by simp) Tryz.results218 ?_
    repeat' (first
 |refine AW_nilrow 3 9 rfl (by simp) ?_
 |refine aK fun K hK=>?_|refine Step.by1 ?_|refine sE (by decide) ?_|refine cz rfl ?_|refine Fork.by2 (fun h=>?_) fun h=>?_
 |(refine aR ?_;simp [vl, NetD.cells])
 |(refine Split.by2 (fun h=>?_) (fun h=>?_)<;>(simp [h, vl, NetD.cells]))
 |(apply hK;clear hK K)|refine AWh ‹_› ?_)
    refine AW_range n.vars 9 [7, 8] (fun c : Nat × List ByteArray => [(3, .ref 1 c.1 0 c.2.length)]) (fun c => [.var n.cells, .row 9 c.1 0 true (c.2.map fun s => [V.str s])]) (fun i c => c.2.length = i) (catF fun x : VarD => [x.name]) (0, []) (r := namesL n)
      (by simp [catF, namesL, List.flatMap_singleton']; try exact (List.map_eq_flatMap ..).symm) (by simp) (by apply Weak.mk' <;> simp [vl, NetD.cells]) (fun _ _ _ => rfl) ?_ ?_
    · rintro i ⟨g, out⟩ x _ hlt hx hJ hF
      simp only at hJ
      rw [catF_cons (g + 1)] at hF
      have hby : (out.length + 1) * 16 ≤ 140737488355328 := by omega
      repeat' (first
 |refine aK fun K hK=>?_|refine Step.by1 ?_|refine sE (by decide) ?_|refine cz rfl ?_|refine Fork.by2 (fun h=>?_) fun h=>?_
 |(refine aR ?_;simp [vl, NetD.cells, VarD.cells, hlt, hx, hby, wI];try (simp (disch:=omega) only [wI];try simp [vl, NetD.cells, VarD.cells, hlt, hx, hby, wI]))
 |(refine Split.by2 (fun h=>?_) (fun h=>?_)<;>(simp [h, vl, NetD.cells, VarD.cells, hlt, hx, hby, wI];try (simp (disch:=omega) only [wI];try simp [vl, NetD.cells, VarD.cells, hlt, hx, hby, wI])))
 |(apply hK;clear hK K)|refine AWh ‹_› ?_)
      exact ⟨g + 1, out ++ [x.name], hF, by simp; omega, by apply Weak.mk' <;> simp [vl, NetD.cells]⟩
    · rintro ⟨g, out⟩ hJ hF
      rw [catF_nil] at hF
      simp only at hF
      subst hF
      repeat' (first
 |refine aK fun K hK=>?_|refine Step.by1 ?_|refine sE (by decide) ?_|refine cz rfl ?_|refine Fork.by2 (fun h=>?_) fun h=>?_
 |(refine aR ?_;simp [vl, NetD.cells])
 |(refine Split.by2 (fun h=>?_) (fun h=>?_)<;>(simp [h, vl, NetD.cells]))
 |(apply hK;clear hK K)|refine AWh ‹_› ?_)
      exact r1q (.inr (.inl (conv1_own rfl (by simp))))
  have := hgoal.freeze
  simpa [vl] using this
theorem flat_len {α β : Type} {f : α → List β} {c : Nat} : ∀ {l : List α}, (∀ x ∈ l, (f x).length ≤ c) → (l.flatMap f).length ≤ l.length * c
  | [], _ => by simp
  | x :: r, h => by
    have h1 := h x (.head _)
    have h2 := flat_len (f := f) (c := c) (l := r) fun y hy => h y (.tail _ hy)
    simp only [List.flatMap_cons, List.length_append, List.length_cons, Nat.add_mul, Nat.one_mul]; omega
theorem guardsA_len {n : NetD} (hz : Small n) {a : AutoD} (ha : a ∈ n.autos) : (guardsA a).length ≤ 5120 := by
  have h1 := flat_len (f := fun x : LocD => x.inv) (c := 16) (hz.inv a ha)
  have h2 := flat_len (f := fun x : EdgeD => x.guards) (c := 16) (hz.guards a ha)
  have h3 := hz.locs a ha
  have h4 := hz.edges a ha
  unfold guardsA; rw [List.length_append]; omega
theorem guardsL_len {n : NetD} (hz : Small n) : (guardsL n).length ≤ 40960 := by
  have h1 := flat_len (f := guardsA) (c := 5120) (fun a ha => guardsA_len hz ha)
  have := hz.autos
  unfold guardsL; omega
theorem setsL_len {n : NetD} (hz : Small n) : (setsL n).length ≤ 32768 := by
  have h1 := flat_len (l := n.autos) (f := setsA) (c := 4096) (fun a ha => by
    have h2 := flat_len (f := fun x : EdgeD => x.sets) (c := 16) (hz.sets a ha)
    have h4 := hz.edges a ha
    unfold setsA; omega)
  have := hz.autos
  unfold setsL; omega
def clkS (n : NetD) (s : SetD) : Bool := decide (s.clock ≠ 0) && !isClk n s.clock
def clocksE (n : NetD) : Int := if clkE n (guardsL n) ≠ 0 then clkE n (guardsL n) else if anyL (clkS n) (setsL n) = true then 12 else 0
set_option maxRecDepth 8000 in
set_option maxHeartbeats 8000000 in
theorem c_clocks (n : NetD) (hz : Small n) : PC 134 [.agg n.cells] (.int .i64 (clocksE n)) := by
  have hg := c_guards n hz
  have hs := c_sets n hz
  have hk := c_clkE n (guardsL n) (by have := guardsL_len hz; omega)
  have hsl := setsL_len hz
  by_cases h0 : clkE n (guardsL n) = 0
  · have hr : clocksE n = if anyL (clkS n) (setsL n) = true then 12 else 0 := by simp [clocksE, h0]
    rw [hr]
    rw [h0] at hk
    obtain ⟨E, hE⟩ : ∃ E : List SetD → Int, E = fun l => if anyL (clkS n) l = true then 12 else 0 := ⟨_, rfl⟩
    have hEc : ∀ a l, E (a :: l) = if clkS n a = true then 12 else E l := fun a l => by subst hE; by_cases h : clkS n a = true <;> simp [anC, h]
    have hEn : (if anyL (clkS n) (setsL n) = true then (12 : Int) else 0) = E (setsL n) := by subst hE; rfl
    have hE0 : E [] = 0 := by subst hE; rfl
    rw [hEn]
    generalize setsL n = ss at *
    generalize guardsL n = gs at *
    simp only [NetD.cells, vl] at hg hs hk
    refine pB Tryz.func134 rfl (by decide) Tryz.ntmps134 (by simp) Tryz.results134 ?_
    repeat' (first
 |refine aK fun K hK=>?_|refine Step.by1 ?_|refine sE (by decide) ?_|refine cz rfl ?_|refine Fork.by2 (fun h=>?_) fun h=>?_
 |((first|refine aR ?_|refine aX (id:=1) 5 mixed (by decide) ?_|refine aC (f:=191) rfl rfl (hg) rfl rfl rfl ?_|refine aP1 (f:=191) rfl rfl (hg) rfl rfl rfl ?_|refine aP1 (f:=148) rfl rfl (hk) rfl rfl rfl ?_|refine aC (f:=148) rfl rfl (hk) rfl rfl rfl ?_|refine aC (f:=192) rfl rfl (hs) rfl rfl rfl ?_);simp [vl, NetD.cells])
 |(refine Split.by2 (fun h=>?_) (fun h=>?_)<;>(simp [h, vl, NetD.cells]))
 |(apply hK;clear hK K)|refine AWh ‹_› ?_)
    refine aS1 (ss) 16 [1, 14, 15] (E) rfl (by apply Weak.mk' <;> simp [vl]) ?_ ?_
    · intro i x _ hlt hx hF
      rw [hEc] at hF
      have hc1 := c_isClock n x.clock
      simp only [NetD.cells, vl] at hc1
      generalize hk1 : isClk n x.clock = k1 at hc1
      repeat' (first
 |refine aK fun K hK=>?_|refine Step.by1 ?_|refine sE (by decide) ?_|refine cz rfl ?_|refine Fork.by2 (fun h=>?_) fun h=>?_
 |((first|refine aR ?_|refine aC (f:=193) rfl rfl (hc1) rfl rfl rfl ?_);simp [vl, SetD.cells, NetD.cells, hlt, hx, wI];try (simp (disch:=omega) only [wI];try simp [vl, SetD.cells, NetD.cells, hlt, hx, wI]))
 |(refine Split.by2 (fun h=>?_) (fun h=>?_)<;>(simp [h, vl, SetD.cells, NetD.cells, hlt, hx, wI];try (simp (disch:=omega) only [wI];try simp [vl, SetD.cells, NetD.cells, hlt, hx, wI])))
 |(apply hK;clear hK K)|refine AWh ‹_› ?_)
      all_goals first
        | exact r1q (cE (by rw [← hF]; simp [clkS, *]) rfl)
        | (refine ⟨by rw [← hF]; simp [clkS, *], ?_⟩; apply Weak.mk' <;> simp [vl, NetD.cells])
    · intro hF
      repeat' (first
 |refine aK fun K hK=>?_|refine Step.by1 ?_|refine sE (by decide) ?_|refine cz rfl ?_|refine Fork.by2 (fun h=>?_) fun h=>?_
 |(refine aR ?_;simp [vl, NetD.cells])
 |(refine Split.by2 (fun h=>?_) (fun h=>?_)<;>(simp [h, vl, NetD.cells]))
 |(apply hK;clear hK K)|refine AWh ‹_› ?_)
      exact r1q (cE (by rw [← hF, hE0]; simp) rfl)
  · have hr : clocksE n = clkE n (guardsL n) := by simp [clocksE, h0]
    rw [hr]
    generalize clkE n (guardsL n) = k at *
    generalize guardsL n = gs at *
    simp only [NetD.cells, vl] at hg hk
    refine pB Tryz.func134 rfl (by decide) Tryz.ntmps134 (by simp) Tryz.results134 ?_
    repeat' (first
 |refine aK fun K hK=>?_|refine Step.by1 ?_|refine sE (by decide) ?_|refine cz rfl ?_|refine Fork.by2 (fun h=>?_) fun h=>?_
 |((first|refine aR ?_|refine aX (id:=1) 5 mixed (by decide) ?_|refine aC (f:=191) rfl rfl (hg) rfl rfl rfl ?_|refine aP1 (f:=191) rfl rfl (hg) rfl rfl rfl ?_|refine aP1 (f:=148) rfl rfl (hk) rfl rfl rfl ?_|refine aC (f:=148) rfl rfl (hk) rfl rfl rfl ?_);simp [vl, NetD.cells, h0])
 |(refine Split.by2 (fun h=>?_) (fun h=>?_)<;>(simp [h, vl, NetD.cells, h0]))
 |(apply hK;clear hK K)|refine AWh ‹_› ?_)
    exact r1q (cE rfl rfl)
def formS (s : SetD) : Bool := decide (s.clock = 0 ∧ s.n ≠ 0 ∨ s.clock ≠ 0 ∧ (s.var ≠ 0 ∨ 0 < s.expr.length))
def formsE (n : NetD) : Int := if cmpE (guardsL n) ≠ 0 then cmpE (guardsL n) else if anyL formS (setsL n) = true then 7 else 0
set_option maxRecDepth 8000 in
set_option maxHeartbeats 8000000 in
theorem c_forms (n : NetD) (hz : Small n) : PC 135 [.agg n.cells] (.int .i64 (formsE n)) := by
  have hg := c_guards n hz
  have hs := c_sets n hz
  have hk := c_cmpE (guardsL n) (by have := guardsL_len hz; omega)
  have hsl := setsL_len hz
  by_cases h0 : cmpE (guardsL n) = 0
  · have hr : formsE n = if anyL formS (setsL n) = true then 7 else 0 := by simp [formsE, h0]
    rw [hr]
    rw [h0] at hk
    obtain ⟨E, hE⟩ : ∃ E : List SetD → Int, E = fun l => if anyL formS l = true then 7 else 0 := ⟨_, rfl⟩
    have hEc : ∀ a l, E (a :: l) = if formS a = true then 7 else E l := fun a l => by subst hE; by_cases h : formS a = true <;> simp [anC, h]
    have hEn : (if anyL formS (setsL n) = true then (7 : Int) else 0) = E (setsL n) := by subst hE; rfl
    have hE0 : E [] = 0 := by subst hE; rfl
    rw [hEn]
    generalize setsL n = ss at *
    generalize guardsL n = gs at *
    simp only [NetD.cells, vl] at hg hs hk
    refine pB Tryz.func135 rfl (by decide) Tryz.ntmps135 (by simp) Tryz.results135 ?_
    repeat' (first
 |refine aK fun K hK=>?_|refine Step.by1 ?_|refine sE (by decide) ?_|refine cz rfl ?_|refine Fork.by2 (fun h=>?_) fun h=>?_
 |((first|refine aR ?_|refine aC (f:=191) rfl rfl (hg) rfl rfl rfl ?_|refine aC (f:=150) rfl rfl (hk) rfl rfl rfl ?_|refine aC (f:=192) rfl rfl (hs) rfl rfl rfl ?_);simp [vl, NetD.cells])
 |(refine Split.by2 (fun h=>?_) (fun h=>?_)<;>(simp [h, vl, NetD.cells]))
 |(apply hK;clear hK K)|refine AWh ‹_› ?_)
    refine aS1 (ss) 15 [13, 14] (E) rfl (by apply Weak.mk' <;> simp [vl]) ?_ ?_
    · intro i x _ hlt hx hF
      rw [hEc] at hF
      repeat' (first
 |refine aK fun K hK=>?_|refine Step.by1 ?_|refine sE (by decide) ?_|refine cz rfl ?_|refine Fork.by2 (fun h=>?_) fun h=>?_
 |(refine aR ?_;simp [vl, SetD.cells, NetD.cells, hlt, hx, wI];try (simp (disch:=omega) only [wI];try simp [vl, SetD.cells, NetD.cells, hlt, hx, wI]))
 |(refine Split.by2 (fun h=>?_) (fun h=>?_)<;>(simp [h, vl, SetD.cells, NetD.cells, hlt, hx, wI];try (simp (disch:=omega) only [wI];try simp [vl, SetD.cells, NetD.cells, hlt, hx, wI])))
 |(apply hK;clear hK K)|refine AWh ‹_› ?_)
      all_goals first
        | exact r1q (cE (by rw [← hF]; simp [formS, *]) rfl)
        | exact r1q (cE (by rw [← hF]; simp [formS, *]; omega) rfl)
        | (refine ⟨by rw [← hF]; simp [formS, *]; done, ?_⟩; apply Weak.mk' <;> simp [vl, NetD.cells])
        | (refine ⟨by rw [← hF]; simp [formS, *]; omega, ?_⟩; apply Weak.mk' <;> simp [vl, NetD.cells])
    · intro hF
      repeat' (first
 |refine aK fun K hK=>?_|refine Step.by1 ?_|refine sE (by decide) ?_|refine cz rfl ?_|refine Fork.by2 (fun h=>?_) fun h=>?_
 |(refine aR ?_;simp [vl, NetD.cells])
 |(refine Split.by2 (fun h=>?_) (fun h=>?_)<;>(simp [h, vl, NetD.cells]))
 |(apply hK;clear hK K)|refine AWh ‹_› ?_)
      exact r1q (cE (by rw [← hF, hE0]; simp) rfl)
  · have hr : formsE n = cmpE (guardsL n) := by simp [formsE, h0]
    rw [hr]
    generalize cmpE (guardsL n) = k at *
    generalize guardsL n = gs at *
    simp only [NetD.cells, vl] at hg hk
    refine pB Tryz.func135 rfl (by decide) Tryz.ntmps135 (by simp) Tryz.results135 ?_
    repeat' (first
 |refine aK fun K hK=>?_|refine Step.by1 ?_|refine sE (by decide) ?_|refine cz rfl ?_|refine Fork.by2 (fun h=>?_) fun h=>?_
 |((first|refine aR ?_|refine aC (f:=191) rfl rfl (hg) rfl rfl rfl ?_|refine aC (f:=150) rfl rfl (hk) rfl rfl rfl ?_);simp [vl, NetD.cells, h0])
 |(refine Split.by2 (fun h=>?_) (fun h=>?_)<;>(simp [h, vl, NetD.cells, h0]))
 |(apply hK;clear hK K)|refine AWh ‹_› ?_)
    exact r1q (cE rfl rfl)
def isLoc (a : AutoD) (c : Int) : Bool := decide (0 ≤ c ∧ c < a.locs.length)
theorem c_edgesIs (a : AutoD) (c : Int) (hp : List B) (b : Nat) (hb : hp[b]? = some (.var a.cells)) : GCall Tryz.prog GV 190 [.int .i64 c, .ptr b 0] hp (fun v h' => v = .bool (isLoc a c) ∧ h' = hp) := by
  simp only [AutoD.cells, vl] at hb
  refine gB1 Tryz.func190 rfl (by decide) Tryz.ntmps190 (by simp) Tryz.results190 ?_
  repeat' (first
 |refine aK fun K hK=>?_|refine Step.by1 ?_|refine sE (by decide) ?_|refine cz rfl ?_|refine Fork.by2 (fun h=>?_) fun h=>?_
 |(refine aR ?_;simp [hb])
 |(refine Split.by2 (fun h=>?_) (fun h=>?_)<;>(simp [h, hb]))
 |(apply hK;clear hK K)|refine AWh ‹_› ?_)
  all_goals first
    | exact retg1 (h' := hp) ⟨by simp [isLoc, *], rfl⟩ rfl Leaves.refl
def edgeB (n : NetD) (a : AutoD) (e : EdgeD) : Bool := !isLoc a e.frm || (!isLoc a e.to || (decide (e.chan < 0 ∨ n.chans.length < e.chan) || (e.send && decide (e.chan = 0))))
def edgesE (n : NetD) (l : List AutoD) : Int := if anyL (fun a => anyL (edgeB n a) a.edges) l then 123 else 0
theorem edgesE_cons {n : NetD} {a : AutoD} {l : List AutoD} : edgesE n (a :: l) = if anyL (edgeB n a) a.edges = true then 123 else edgesE n l := by
  by_cases h : anyL (edgeB n a) a.edges = true <;> simp [edgesE, anC, h]
set_option maxRecDepth 8000 in
set_option maxHeartbeats 8000000 in
theorem c_edges (n : NetD) (hn : n.ok) : PC 133 [.agg n.cells] (.int .i64 (edgesE n n.autos)) := by
  obtain ⟨⟨h1, _⟩, ⟨h2, _⟩, ⟨h3, _⟩, h4, h5⟩ := hn
  refine pB Tryz.func133 rfl (by decide) Tryz.ntmps133 (by simp) Tryz.results133 ?_
  repeat' (first
 |refine aK fun K hK=>?_|refine Step.by1 ?_|refine sE (by decide) ?_|refine cz rfl ?_|refine Fork.by2 (fun h=>?_) fun h=>?_
 |(refine aR ?_;simp [vl, NetD.cells])
 |(refine Split.by2 (fun h=>?_) (fun h=>?_)<;>(simp [h, vl, NetD.cells]))
 |(apply hK;clear hK K)|refine AWh ‹_› ?_)
  refine aS1 (n.autos) 11 [1, 9, 10] (edgesE n) rfl (by apply Weak.mk' <;> simp [vl]) ?_ ?_
  · intro i a _ hlt ha hF
    have hoa := h5 a (ha ▸ List.getElem_mem hlt)
    obtain ⟨_, ⟨hl1, hl2⟩, he1, he2⟩ := hoa
    rw [edgesE_cons] at hF
    repeat' (first
 |refine aK fun K hK=>?_|refine Step.by1 ?_|refine sE (by decide) ?_|refine cz rfl ?_|refine Fork.by2 (fun h=>?_) fun h=>?_
 |(refine aR ?_;simp [vl, AutoD.cells, hlt, ha, wI];try (simp (disch:=omega) only [wI];try simp [vl, AutoD.cells, hlt, ha, wI]))
 |(refine Split.by2 (fun h=>?_) (fun h=>?_)<;>(simp [h, vl, AutoD.cells, hlt, ha, wI];try (simp (disch:=omega) only [wI];try simp [vl, AutoD.cells, hlt, ha, wI])))
 |(apply hK;clear hK K)|refine AWh ‹_› ?_)
    refine aS1 (a.edges) 19 [1, 5, 9, 10, 11, 17, 18] (anyL (edgeB n a)) rfl (by apply Weak.mk' <;> simp [vl]) ?_ ?_
    · intro m y _ hmt hy hM
      rw [anC] at hM
      have hg1 := c_edgesIs a y.frm
      have hg2 := c_edgesIs a y.to
      simp only [AutoD.cells, vl] at hg1 hg2
      generalize hk1 : isLoc a y.frm = k1 at hg1
      generalize hk2 : isLoc a y.to = k2 at hg2
      repeat' (first
 |refine aK fun K hK=>?_|refine Step.by1 ?_|refine sE (by decide) ?_|refine cz rfl ?_|refine Fork.by2 (fun h=>?_) fun h=>?_
 |(refine aR ?_;simp [vl, EdgeD.cells, hmt, hy, wI];try (simp (disch:=omega) only [wI];try simp [vl, EdgeD.cells, hmt, hy, wI]))
 |(refine Split.by2 (fun h=>?_) (fun h=>?_)<;>(simp [h, vl, EdgeD.cells, hmt, hy, wI];try (simp (disch:=omega) only [wI];try simp [vl, EdgeD.cells, hmt, hy, wI])))
 |(refine aG (f := 190) rfl rfl (hg1 _ 1 rfl) rfl (fun v h' hq => ?_); obtain ⟨rfl, rfl⟩ := hq; simp [vl])
 |(refine aG (f := 190) rfl rfl (hg2 _ 1 rfl) rfl (fun v h' hq => ?_); obtain ⟨rfl, rfl⟩ := hq; simp [vl])
 |(apply hK;clear hK K)|refine AWh ‹_› ?_)
      all_goals first
        | exact r1q (cE (by rw [← hF, ← hM]; simp [edgeB, *]) rfl)
        | (refine ⟨by rw [← hM]; simp [edgeB, *]; done, ?_⟩; apply Weak.mk' <;> simp [vl, AutoD.cells])
        | (refine ⟨by rw [← hM]; simp [edgeB, *]; omega, ?_⟩; apply Weak.mk' <;> simp [vl, AutoD.cells])
    · intro hM
      rw [← hM, anyL_nil] at hF
      repeat' (first
 |refine aK fun K hK=>?_|refine Step.by1 ?_|refine sE (by decide) ?_|refine cz rfl ?_|refine Fork.by2 (fun h=>?_) fun h=>?_
 |(refine aR ?_;simp [vl, wI];try (simp (disch:=omega) only [wI];try simp [vl, wI]))
 |(refine Split.by2 (fun h=>?_) (fun h=>?_)<;>(simp [h, vl, wI];try (simp (disch:=omega) only [wI];try simp [vl, wI])))
 |(apply hK;clear hK K)|refine AWh ‹_› ?_)
      all_goals first
        | (refine ⟨by simpa using hF, ?_⟩; apply Weak.mk' <;> simp [vl])
  · intro hF
    repeat' (first
 |refine aK fun K hK=>?_|refine Step.by1 ?_|refine sE (by decide) ?_|refine cz rfl ?_|refine Fork.by2 (fun h=>?_) fun h=>?_
 |(refine aR ?_;simp [vl])
 |(refine Split.by2 (fun h=>?_) (fun h=>?_)<;>(simp [h, vl]))
 |(apply hK;clear hK K)|refine AWh ‹_› ?_)
    exact r1q (cE (by rw [← hF]; simp [edgesE, anyL_nil]) rfl)
theorem take_same {α : Type} {a b : List α} {i : Nat} (h : a.take i = b.take i) (h1 : i < a.length) (h2 : i < b.length) (hx : a[i] = b[i]) : a.take (i + 1) = b.take (i + 1) := by
  rw [List.take_add_one, List.take_add_one, h, List.getElem?_eq_getElem h1, List.getElem?_eq_getElem h2, hx]
theorem take_end {α : Type} {a b : List α} (h : a.take a.length = b.take a.length) (hl : a.length = b.length) : a = b := by
  rw [List.take_length, hl, List.take_length] at h; exact h
/-- A row that is filled from its beginning on. -/
def fillR (f : Nat → List V) (z : List V) (n i : Nat) : List (List V) := (List.range i).map f ++ List.replicate (n - i) z
theorem fillR_set {f : Nat → List V} {z : List V} {n i : Nat} (h : i < n) : (fillR f z n i).set i (f i) = fillR f z n (i + 1) := by
  unfold fillR
  obtain ⟨m, hm⟩ : ∃ m, n - i = m + 1 := ⟨n - i - 1, by omega⟩
  rw [hm, show n - (i + 1) = m by omega, List.range_succ, List.map_append, List.set_append_right _ _ (by simp)]
  simp [List.replicate_succ]
theorem fillR_len {f : Nat → List V} {z : List V} {n i : Nat} (h : i ≤ n) : (fillR f z n i).length = n := by simp [fillR]; omega
theorem fillR_get {f : Nat → List V} {z : List V} {n i : Nat} (h : i < n) : (fillR f z n i)[i]? = some z := by
  unfold fillR
  rw [List.getElem?_append_right (by simp), List.length_map, List.length_range, Nat.sub_self, List.getElem?_replicate, if_pos (by omega)]
/-- What a copy with marked room holds. -/
def handF {α : Type} (c : α → List V) (mark : Nat → List V) (l : List α) (k : Nat) : List V := match l[k]? with
  | some x => c x
  | none => mark (k - l.length)
theorem handF_in {α : Type} {c : α → List V} {mark : Nat → List V} {l : List α} {k : Nat} (h : k < l.length) : handF c mark l k = c l[k] := by simp [handF, h]
theorem handF_out {α : Type} {c : α → List V} {mark : Nat → List V} {l : List α} {j : Nat} : handF c mark l (l.length + j) = mark j := by simp [handF]
theorem range_hand {α : Type} {c : α → List V} {mark : Nat → List V} {l : List α} (m : Nat) : (List.range (l.length + m)).map (handF c mark l) = l.map c ++ (List.range m).map mark := by
  apply List.ext_getElem?
  intro i
  rcases Nat.lt_or_ge i l.length with h | h
  · rw [List.getElem?_append_left (by simpa using h)]
    rw [List.getElem?_map, List.getElem?_range (by omega), List.getElem?_map, List.getElem?_eq_getElem h]; simp [handF, h]
  · rw [List.getElem?_append_right (by simpa using h)]
    rcases Nat.lt_or_ge i (l.length + m) with h2 | h2
    · obtain ⟨j, rfl⟩ : ∃ j, i = l.length + j := ⟨i - l.length, by omega⟩
      rw [List.getElem?_map, List.getElem?_range h2, List.getElem?_map, List.length_map, Nat.add_sub_cancel_left, List.getElem?_range (by omega)]; simp [handF_out]
    · rw [List.getElem?_eq_none (by simp; omega), List.getElem?_eq_none (by simp; omega)]
theorem trims_map (cs : List V) (h : ∀ v ∈ cs, v.trim = v) : V.trims cs = cs := by
  rw [trims_eq]
  conv => rhs; rw [← List.map_id cs]
  exact List.map_congr_left fun v hv => h v hv
/-- What is seen of a list whose room is marked. -/
theorem trim_pad {α : Type} {c c' : α → List V} {l : List α} (pad : List (List V)) (h : ∀ x ∈ l, V.trims (c x) = c' x) : (V.vec (l.map c ++ pad) l.length).trim = vl c' l := by
  rw [V.trim, trimR_eq, List.take_append_of_le_length (by simp), List.take_of_length_le (by simp), List.map_map]
  unfold vl
  congr 1
  exact List.map_congr_left fun x hx => h x hx
theorem trim_vl {α : Type} {c : α → List V} {l : List α} (h : ∀ x ∈ l, V.trims (c x) = c x) : (vl c l).trim = vl c l := by
  have := trim_pad (c := c) (c' := c) (l := l) [] h
  rw [List.append_nil] at this; exact this
def handV {α : Type} (c : α → List V) (mark : Nat → List V) (l : List α) : V := .vec (l.map c ++ (List.range 9).map mark) l.length
def kindT : Nat → Int × Bool × Bool × ByteArray × Int
  | 0 => (0, false, false, ⟨#[]⟩, 0)
  | 1 => (0, false, false, ⟨#[]⟩, 9)
  | 2 => (0, false, false, ⟨#[]⟩, 9)
  | 3 => (1, false, false, ⟨#[45]⟩, 6)
  | 4 => (2, false, false, ⟨#[43]⟩, 4)
  | 5 => (2, false, false, ⟨#[45]⟩, 4)
  | 6 => (2, false, false, ⟨#[42]⟩, 5)
  | 7 => (0, true, false, ⟨#[116, 114, 117, 101]⟩, 9)
  | 8 => (2, true, false, ⟨#[60]⟩, 3)
  | 9 => (2, true, false, ⟨#[60, 61]⟩, 3)
  | 10 => (2, true, false, ⟨#[61, 61]⟩, 3)
  | 11 => (2, true, false, ⟨#[33, 61]⟩, 3)
  | 12 => (1, true, true, ⟨#[33]⟩, 9)
  | 13 => (2, true, true, ⟨#[38, 38]⟩, 2)
  | 14 => (2, true, true, ⟨#[124, 124]⟩, 1)
  | _ => (0, false, false, ⟨#[]⟩, 0)
def known (o : Int) : Bool := decide (1 ≤ o ∧ o ≤ 14)
def kindO (o : Int) : Int × Bool × Bool × ByteArray × Int := if known o = true then kindT o.toNat else (0, false, false, ⟨#[]⟩, 0)
def kparts (o : Int) : Int := (kindO o).1
def ktruth (o : Int) : Bool := (kindO o).2.1
def ktakes (o : Int) : Bool := (kindO o).2.2.1
def ksign (o : Int) : ByteArray := (kindO o).2.2.2.1
def kbinds (o : Int) : Int := (kindO o).2.2.2.2
def kcells (o : Int) : List V := [.int .i64 (kparts o), .bool (ktruth o), .bool (ktakes o), .str (ksign o), .int .i64 (kbinds o)]
theorem kinds_at : ∀ j : Nat, 1 ≤ j → j ≤ 14 → (kindsV.drop (j * 5)).take 5 = kcells j := by
  intro j h1 h2
  match j, h1, h2 with
  | 1, _, _ => rfl
  | 2, _, _ => rfl
  | 3, _, _ => rfl
  | 4, _, _ => rfl
  | 5, _, _ => rfl
  | 6, _, _ => rfl
  | 7, _, _ => rfl
  | 8, _, _ => rfl
  | 9, _, _ => rfl
  | 10, _, _ => rfl
  | 11, _, _ => rfl
  | 12, _, _ => rfl
  | 13, _, _ => rfl
  | 14, _, _ => rfl
  | j + 15, _, h => omega
set_option maxRecDepth 8000 in
theorem c_of (o : Int) (ho : 0 ≤ o ∧ o ≤ 255) : PC 220 [.int .u8 o] (.tup [.agg (kcells o), .bool (known o)]) := by
  by_cases hk : 1 ≤ o ∧ o ≤ 14
  · obtain ⟨j, rfl⟩ := Int.eq_ofNat_of_zero_le ho.1
    have hat := kinds_at j (by omega) (by omega)
    have k1 : ¬ (j : Int) < 1 := by omega
    have k2 : ¬ (14 : Int) < j := by omega
    have k3 : (j : Int) < 15 := by omega
    have k4 : j * 5 + 5 ≤ 75 := by omega
    have hlen : kindsV.length = 75 := rfl
    have hkn : known (j : Int) = true := by simp [known]; omega
    have hkl : (kcells (j : Int)).length = 5 := rfl
    have k5 : min 5 (75 - j * 5) = 5 := by omega
    rw [hkn]
    refine pB Tryz.func220 rfl (by decide) Tryz.ntmps220 (by simp) Tryz.results220 ?_
    repeat' (first
 |refine aK fun K hK=>?_|refine Step.by1 ?_|refine sE (by decide) ?_|refine cz rfl ?_|refine Fork.by2 (fun h=>?_) fun h=>?_
 |(refine aR ?_;simp [k1, k2, k3, k4, hlen, k5, hat, hkl])
 |(refine Split.by2 (fun h=>?_) (fun h=>?_)<;>(simp [h, k1, k2, k3, k4, hlen, k5, hat, hkl]))
 |(apply hK;clear hK K)|refine AWh ‹_› ?_)
    exact retq2ct rfl (by simp [kcells]) (cE (by simp [kcells]) (by simp [kcells]))
  · have hkn : known o = false := by simpa [known] using hk
    have hkc : kcells o = [.int .i64 0, .bool false, .bool false, .str ⟨#[]⟩, .int .i64 0] := by simp [kcells, kparts, ktruth, ktakes, ksign, kbinds, kindO, hkn]
    rw [hkc, hkn]
    refine pB Tryz.func220 rfl (by decide) Tryz.ntmps220 (by simp) Tryz.results220 ?_
    by_cases h1 : o < 1
    · repeat' (first
 |refine aK fun K hK=>?_|refine Step.by1 ?_|refine sE (by decide) ?_|refine cz rfl ?_|refine Fork.by2 (fun h=>?_) fun h=>?_
 |(refine aR ?_;simp [h1])
 |(refine Split.by2 (fun h=>?_) (fun h=>?_)<;>(simp [h, h1]))
 |(apply hK;clear hK K)|refine AWh ‹_› ?_)
      exact retq2ct rfl (by simp) (cE (by simp) (by simp))
    · have h2 : 14 < o := by omega
      repeat' (first
 |refine aK fun K hK=>?_|refine Step.by1 ?_|refine sE (by decide) ?_|refine cz rfl ?_|refine Fork.by2 (fun h=>?_) fun h=>?_
 |(refine aR ?_;simp [h1, h2])
 |(refine Split.by2 (fun h=>?_) (fun h=>?_)<;>(simp [h, h1, h2]))
 |(apply hK;clear hK K)|refine AWh ‹_› ?_)
      exact retq2ct rfl (by simp) (cE (by simp) (by simp))
end Go.Proofs.YtgmlimipejcpgaaGreatDoor
end
