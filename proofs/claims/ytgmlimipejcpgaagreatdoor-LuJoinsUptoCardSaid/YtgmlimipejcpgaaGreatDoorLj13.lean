/-
  YtgmlimipejcpgaaGreatDoorLj13: steps of the proof of a law of the program: what these texts prove holds under the hypotheses that their theorems name, and no others.
-/
import Derived.Test.YtgmlimipejcpgaaGreatDoorLj11
import Derived.Test.YtgmlimipejcpgaaGreatDoorLj12
import Derived.Test.YtgmlimipejcpgaaGreatDoorProg
import Derived.Test.YtgmlimipejcpgaaGreatDoorLj07
import Derived.KernelRfl
section
set_option linter.unusedSimpArgs false
set_option linter.unusedVariables false
namespace Go.Proofs.YtgmlimipejcpgaaGreatDoor
open Go Go.AM Fx
def diagG (g : GuardD) : Bool := decide (g.other ≠ 0)
def greatG (g : GuardD) : Bool := decide (g.n < 0 ∨ 1048576 < g.n)
def greatS (s : SetD) : Bool := decide (s.clock ≠ 0 ∧ (s.n < 0 ∨ 1048576 < s.n))
def cmpG (g : GuardD) : Bool := decide (g.cmp < 1 ∨ 5 < g.cmp)
def isClk (n : NetD) (c : Int) : Bool := decide (1 ≤ c ∧ c ≤ n.clocks.length)
def clkG (n : NetD) (g : GuardD) : Bool := !isClk n g.clock || (decide (g.other ≠ 0) && !isClk n g.other)
def varV (v : VarD) : Bool := decide (v.init < v.lo ∨ v.hi < v.init ∨ v.lo < -1048576 ∨ 1048576 < v.hi)
theorem c_isClock (n : NetD) (c : Int) : PC 193 [.agg n.cells, .int .i64 c] (.bool (isClk n c)) := by
  refine pB Tryz.func193 rfl (by decide) Tryz.ntmps193 (by simp) Tryz.results193 ?_
  repeat' (first
 |refine aK fun K hK=>?_|refine Step.by1 ?_|refine sE (by decide) ?_|refine cz rfl ?_|refine Fork.by2 (fun h=>?_) fun h=>?_
 |(refine aR ?_;simp [vl, NetD.cells])
 |(refine Split.by2 (fun h=>?_) (fun h=>?_)<;>(simp [h, vl, NetD.cells]))
 |(apply hK;clear hK K)|refine AWh ‹_› ?_)
  all_goals first
    | exact r1q (cE (by simp [isClk, *]) rfl)
def diagE (l : List GuardD) : Int := if l.any (diagG) then 120 else 0
theorem c_diagE (l : List GuardD) (hl : l.length ≤ 1099511627776) : PC 61 [vl GuardD.cells l] (.int .i64 (diagE l)) := by
  refine pB Tryz.func61 rfl (by decide) Tryz.ntmps61 (by simp) Tryz.results61 ?_
  repeat' (first
 |refine aK fun K hK=>?_|refine Step.by1 ?_|refine sE (by decide) ?_|refine cz rfl ?_|refine Fork.by2 (fun h=>?_) fun h=>?_
 |(refine aR ?_;simp [vl])
 |(refine Split.by2 (fun h=>?_) (fun h=>?_)<;>(simp [h, vl]))
 |(apply hK;clear hK K)|refine AWh ‹_› ?_)
  refine aS1 (l) 7 [5, 6] (diagE) rfl (by apply Weak.mk' <;> simp [vl]) ?_ ?_
  · intro i x _ hlt hx hF
    repeat' (first
 |refine aK fun K hK=>?_|refine Step.by1 ?_|refine sE (by decide) ?_|refine cz rfl ?_|refine Fork.by2 (fun h=>?_) fun h=>?_
 |(refine aR ?_;simp [vl, GuardD.cells, hlt, hx, wI];try (simp (disch:=omega) only [wI];try simp [vl, GuardD.cells, hlt, hx, wI]))
 |(refine Split.by2 (fun h=>?_) (fun h=>?_)<;>(simp [h, vl, GuardD.cells, hlt, hx, wI];try (simp (disch:=omega) only [wI];try simp [vl, GuardD.cells, hlt, hx, wI])))
 |(apply hK;clear hK K)|refine AWh ‹_› ?_)
    all_goals first
      | exact r1q (cE (by rw [← hF]; simp [diagE, diagG, *]) rfl)
      | (refine ⟨by rw [← hF]; simp [diagE, diagG, *], ?_⟩; apply Weak.mk' <;> simp [vl])
  · intro hF
    repeat' (first
 |refine aK fun K hK=>?_|refine Step.by1 ?_|refine sE (by decide) ?_|refine cz rfl ?_|refine Fork.by2 (fun h=>?_) fun h=>?_
 |(refine aR ?_;simp [vl])
 |(refine Split.by2 (fun h=>?_) (fun h=>?_)<;>(simp [h, vl]))
 |(apply hK;clear hK K)|refine AWh ‹_› ?_)
    exact r1q (cE (by rw [← hF]; simp [diagE]) rfl)
def greatE (l : List GuardD) : Int := if l.any (greatG) then 13 else 0
theorem c_greatE (l : List GuardD) (hl : l.length ≤ 1099511627776) : PC 64 [vl GuardD.cells l] (.int .i64 (greatE l)) := by
  refine pB Tryz.func64 rfl (by decide) Tryz.ntmps64 (by simp) Tryz.results64 ?_
  repeat' (first
 |refine aK fun K hK=>?_|refine Step.by1 ?_|refine sE (by decide) ?_|refine cz rfl ?_|refine Fork.by2 (fun h=>?_) fun h=>?_
 |(refine aR ?_;simp [vl])
 |(refine Split.by2 (fun h=>?_) (fun h=>?_)<;>(simp [h, vl]))
 |(apply hK;clear hK K)|refine AWh ‹_› ?_)
  refine aS1 (l) 7 [5, 6] (greatE) rfl (by apply Weak.mk' <;> simp [vl]) ?_ ?_
  · intro i x _ hlt hx hF
    repeat' (first
 |refine aK fun K hK=>?_|refine Step.by1 ?_|refine sE (by decide) ?_|refine cz rfl ?_|refine Fork.by2 (fun h=>?_) fun h=>?_
 |(refine aR ?_;simp [vl, GuardD.cells, hlt, hx, wI];try (simp (disch:=omega) only [wI];try simp [vl, GuardD.cells, hlt, hx, wI]))
 |(refine Split.by2 (fun h=>?_) (fun h=>?_)<;>(simp [h, vl, GuardD.cells, hlt, hx, wI];try (simp (disch:=omega) only [wI];try simp [vl, GuardD.cells, hlt, hx, wI])))
 |(apply hK;clear hK K)|refine AWh ‹_› ?_)
    all_goals first
      | exact r1q (cE (by rw [← hF]; simp [greatE, greatG, *]) rfl)
      | (refine ⟨by rw [← hF]; simp [greatE, greatG, *], ?_⟩; apply Weak.mk' <;> simp [vl])
  · intro hF
    repeat' (first
 |refine aK fun K hK=>?_|refine Step.by1 ?_|refine sE (by decide) ?_|refine cz rfl ?_|refine Fork.by2 (fun h=>?_) fun h=>?_
 |(refine aR ?_;simp [vl])
 |(refine Split.by2 (fun h=>?_) (fun h=>?_)<;>(simp [h, vl]))
 |(apply hK;clear hK K)|refine AWh ‹_› ?_)
    exact r1q (cE (by rw [← hF]; simp [greatE]) rfl)
def greatSE (l : List SetD) : Int := if l.any (greatS) then 13 else 0
theorem c_greatSE (l : List SetD) (hl : l.length ≤ 1099511627776) : PC 66 [vl SetD.cells l] (.int .i64 (greatSE l)) := by
  refine pB Tryz.func66 rfl (by decide) Tryz.ntmps66 (by simp) Tryz.results66 ?_
  repeat' (first
 |refine aK fun K hK=>?_|refine Step.by1 ?_|refine sE (by decide) ?_|refine cz rfl ?_|refine Fork.by2 (fun h=>?_) fun h=>?_
 |(refine aR ?_;simp [vl])
 |(refine Split.by2 (fun h=>?_) (fun h=>?_)<;>(simp [h, vl]))
 |(apply hK;clear hK K)|refine AWh ‹_› ?_)
  refine aS1 (l) 7 [5, 6] (greatSE) rfl (by apply Weak.mk' <;> simp [vl]) ?_ ?_
  · intro i x _ hlt hx hF
    repeat' (first
 |refine aK fun K hK=>?_|refine Step.by1 ?_|refine sE (by decide) ?_|refine cz rfl ?_|refine Fork.by2 (fun h=>?_) fun h=>?_
 |(refine aR ?_;simp [vl, SetD.cells, hlt, hx, wI];try (simp (disch:=omega) only [wI];try simp [vl, SetD.cells, hlt, hx, wI]))
 |(refine Split.by2 (fun h=>?_) (fun h=>?_)<;>(simp [h, vl, SetD.cells, hlt, hx, wI];try (simp (disch:=omega) only [wI];try simp [vl, SetD.cells, hlt, hx, wI])))
 |(apply hK;clear hK K)|refine AWh ‹_› ?_)
    all_goals first
      | exact r1q (cE (by rw [← hF]; simp [greatSE, greatS, *]) rfl)
      | (refine ⟨by rw [← hF]; simp [greatSE, greatS, *], ?_⟩; apply Weak.mk' <;> simp [vl])
  · intro hF
    repeat' (first
 |refine aK fun K hK=>?_|refine Step.by1 ?_|refine sE (by decide) ?_|refine cz rfl ?_|refine Fork.by2 (fun h=>?_) fun h=>?_
 |(refine aR ?_;simp [vl])
 |(refine Split.by2 (fun h=>?_) (fun h=>?_)<;>(simp [h, vl]))
 |(apply hK;clear hK K)|refine AWh ‹_› ?_)
    exact r1q (cE (by rw [← hF]; simp [greatSE]) rfl)
def cmpE (l : List GuardD) : Int := if l.any (cmpG) then 7 else 0
theorem c_cmpE (l : List GuardD) (hl : l.length ≤ 1099511627776) : PC 150 [vl GuardD.cells l] (.int .i64 (cmpE l)) := by
  refine pB Tryz.func150 rfl (by decide) Tryz.ntmps150 (by simp) Tryz.results150 ?_
  repeat' (first
 |refine aK fun K hK=>?_|refine Step.by1 ?_|refine sE (by decide) ?_|refine cz rfl ?_|refine Fork.by2 (fun h=>?_) fun h=>?_
 |(refine aR ?_;simp [vl])
 |(refine Split.by2 (fun h=>?_) (fun h=>?_)<;>(simp [h, vl]))
 |(apply hK;clear hK K)|refine AWh ‹_› ?_)
  refine aS1 (l) 7 [5, 6] (cmpE) rfl (by apply Weak.mk' <;> simp [vl]) ?_ ?_
  · intro i x _ hlt hx hF
    repeat' (first
 |refine aK fun K hK=>?_|refine Step.by1 ?_|refine sE (by decide) ?_|refine cz rfl ?_|refine Fork.by2 (fun h=>?_) fun h=>?_
 |(refine aR ?_;simp [vl, GuardD.cells, hlt, hx, wI];try (simp (disch:=omega) only [wI];try simp [vl, GuardD.cells, hlt, hx, wI]))
 |(refine Split.by2 (fun h=>?_) (fun h=>?_)<;>(simp [h, vl, GuardD.cells, hlt, hx, wI];try (simp (disch:=omega) only [wI];try simp [vl, GuardD.cells, hlt, hx, wI])))
 |(apply hK;clear hK K)|refine AWh ‹_› ?_)
    all_goals first
      | exact r1q (cE (by rw [← hF]; simp [cmpE, cmpG, *]) rfl)
      | (refine ⟨by rw [← hF]; simp [cmpE, cmpG, *], ?_⟩; apply Weak.mk' <;> simp [vl])
  · intro hF
    repeat' (first
 |refine aK fun K hK=>?_|refine Step.by1 ?_|refine sE (by decide) ?_|refine cz rfl ?_|refine Fork.by2 (fun h=>?_) fun h=>?_
 |(refine aR ?_;simp [vl])
 |(refine Split.by2 (fun h=>?_) (fun h=>?_)<;>(simp [h, vl]))
 |(apply hK;clear hK K)|refine AWh ‹_› ?_)
    exact r1q (cE (by rw [← hF]; simp [cmpE]) rfl)
def clkE (n : NetD) (l : List GuardD) : Int := if l.any (clkG n) then 12 else 0
theorem c_clkE (n : NetD) (l : List GuardD) (hl : l.length ≤ 1099511627776) : PC 148 [.agg n.cells, vl GuardD.cells l] (.int .i64 (clkE n l)) := by
  refine pB Tryz.func148 rfl (by decide) Tryz.ntmps148 (by simp) Tryz.results148 ?_
  repeat' (first
 |refine aK fun K hK=>?_|refine Step.by1 ?_|refine sE (by decide) ?_|refine cz rfl ?_|refine Fork.by2 (fun h=>?_) fun h=>?_
 |(refine aR ?_;simp [vl, NetD.cells])
 |(refine Split.by2 (fun h=>?_) (fun h=>?_)<;>(simp [h, vl, NetD.cells]))
 |(apply hK;clear hK K)|refine AWh ‹_› ?_)
  refine aS1 (l) 9 [2, 7, 8] (clkE n) rfl (by apply Weak.mk' <;> simp [vl]) ?_ ?_
  · intro i x _ hlt hx hF
    have hc1 := c_isClock n x.clock
    have hc2 := c_isClock n x.other
    simp only [NetD.cells, vl] at hc1 hc2
    generalize hk1 : isClk n x.clock = k1 at hc1
    generalize hk2 : isClk n x.other = k2 at hc2
    repeat' (first
 |refine aK fun K hK=>?_|refine Step.by1 ?_|refine sE (by decide) ?_|refine cz rfl ?_|refine Fork.by2 (fun h=>?_) fun h=>?_
 |((first|refine aR ?_|refine aC (f:=193) rfl rfl (hc1) rfl rfl rfl ?_|refine aC (f:=193) rfl rfl (hc2) rfl rfl rfl ?_);simp [vl, GuardD.cells, NetD.cells, hlt, hx, wI];try (simp (disch:=omega) only [wI];try simp [vl, GuardD.cells, NetD.cells, hlt, hx, wI]))
 |(refine Split.by2 (fun h=>?_) (fun h=>?_)<;>(simp [h, vl, GuardD.cells, NetD.cells, hlt, hx, wI];try (simp (disch:=omega) only [wI];try simp [vl, GuardD.cells, NetD.cells, hlt, hx, wI])))
 |(apply hK;clear hK K)|refine AWh ‹_› ?_)
    all_goals first
      | exact r1q (cE (by rw [← hF]; simp [clkE, clkG, *]) rfl)
      | (refine ⟨by rw [← hF]; simp [clkE, clkG, *], ?_⟩; apply Weak.mk' <;> simp [vl, NetD.cells])
  · intro hF
    repeat' (first
 |refine aK fun K hK=>?_|refine Step.by1 ?_|refine sE (by decide) ?_|refine cz rfl ?_|refine Fork.by2 (fun h=>?_) fun h=>?_
 |(refine aR ?_;simp [vl, NetD.cells])
 |(refine Split.by2 (fun h=>?_) (fun h=>?_)<;>(simp [h, vl, NetD.cells]))
 |(apply hK;clear hK K)|refine AWh ‹_› ?_)
    exact r1q (cE (by rw [← hF]; simp [clkE]) rfl)
def varE (l : List VarD) : Int := if l.any (varV) then 124 else 0
theorem c_varE (n : NetD) (hl : n.vars.length ≤ 1099511627776) : PC 131 [.agg n.cells] (.int .i64 (varE n.vars)) := by
  refine pB Tryz.func131 rfl (by decide) Tryz.ntmps131 (by simp) Tryz.results131 ?_
  repeat' (first
 |refine aK fun K hK=>?_|refine Step.by1 ?_|refine sE (by decide) ?_|refine cz rfl ?_|refine Fork.by2 (fun h=>?_) fun h=>?_
 |(refine aR ?_;simp [vl, NetD.cells])
 |(refine Split.by2 (fun h=>?_) (fun h=>?_)<;>(simp [h, vl, NetD.cells]))
 |(apply hK;clear hK K)|refine AWh ‹_› ?_)
  refine aS1 (n.vars) 8 [6, 7] (varE) rfl (by apply Weak.mk' <;> simp [vl]) ?_ ?_
  · intro i x _ hlt hx hF
    repeat' (first
 |refine aK fun K hK=>?_|refine Step.by1 ?_|refine sE (by decide) ?_|refine cz rfl ?_|refine Fork.by2 (fun h=>?_) fun h=>?_
 |(refine aR ?_;simp [vl, VarD.cells, NetD.cells, hlt, hx, wI];try (simp (disch:=omega) only [wI];try simp [vl, VarD.cells, NetD.cells, hlt, hx, wI]))
 |(refine Split.by2 (fun h=>?_) (fun h=>?_)<;>(simp [h, vl, VarD.cells, NetD.cells, hlt, hx, wI];try (simp (disch:=omega) only [wI];try simp [vl, VarD.cells, NetD.cells, hlt, hx, wI])))
 |(apply hK;clear hK K)|refine AWh ‹_› ?_)
    all_goals first
      | exact r1q (cE (by rw [← hF]; simp [varE, varV, *]) rfl)
      | (refine ⟨by rw [← hF]; simp [varE, varV, *], ?_⟩; apply Weak.mk' <;> simp [vl, NetD.cells])
  · intro hF
    repeat' (first
 |refine aK fun K hK=>?_|refine Step.by1 ?_|refine sE (by decide) ?_|refine cz rfl ?_|refine Fork.by2 (fun h=>?_) fun h=>?_
 |(refine aR ?_;simp [vl, NetD.cells])
 |(refine Split.by2 (fun h=>?_) (fun h=>?_)<;>(simp [h, vl, NetD.cells]))
 |(apply hK;clear hK K)|refine AWh ‹_› ?_)
    exact r1q (cE (by rw [← hF]; simp [varE]) rfl)
def anyL {α : Type} (p : α → Bool) (l : List α) : Bool := l.any p
theorem anyL_nil {α : Type} {p : α → Bool} : anyL p [] = false := rfl
theorem anC {α : Type} {p : α → Bool} {x : α} {l : List α} : anyL p (x :: l) = (p x || anyL p l) := rfl
def noLocs (a : AutoD) : Bool := decide (a.locs.length = 0)
theorem c_some1 (a : AutoD) : PC 186 [.agg a.cells] (.bool (noLocs a)) := by
  refine pB Tryz.func186 rfl (by decide) Tryz.ntmps186 (by simp) Tryz.results186 ?_
  repeat' (first
 |refine aK fun K hK=>?_|refine Step.by1 ?_|refine sE (by decide) ?_|refine cz rfl ?_|refine Fork.by2 (fun h=>?_) fun h=>?_
 |(refine aR ?_;simp [vl, AutoD.cells])
 |(refine Split.by2 (fun h=>?_) (fun h=>?_)<;>(simp [h, vl, AutoD.cells]))
 |(apply hK;clear hK K)|refine AWh ‹_› ?_)
  exact r1q (cE (by simp [noLocs]) rfl)
theorem c_indexNoLocs (l : List AutoD) (hl : l.length ≤ 1099511627776) : ∃ k : Int, PC 215 [vl AutoD.cells l, .fn (.func 186) [] []] (.int .i64 k) ∧ (0 ≤ k ↔ anyL noLocs l = true) := by
  by_cases hk : anyL noLocs l = true
  · -- the first one
    obtain ⟨i0, h1, h2, h3⟩ : ∃ i0, ∃ h : i0 < l.length, noLocs l[i0] = true ∧ ∀ j (hj : j < i0), noLocs (l[j]'(by omega)) = false := by
      have hx : ∃ x ∈ l, noLocs x = true := by unfold anyL at hk; rw [List.any_eq_true] at hk; exact hk
      have hlt := List.findIdx_lt_length.2 hx
      exact ⟨l.findIdx noLocs, hlt, List.findIdx_getElem (w := hlt), fun j hj => by simpa using List.not_of_lt_findIdx hj⟩
    refine ⟨i0, ?_, ⟨fun _ => hk, fun _ => by omega⟩⟩
    refine pB Tryz.func215 rfl (by decide) Tryz.ntmps215 (by simp) Tryz.results215 ?_
    repeat' (first
 |refine aK fun K hK=>?_|refine Step.by1 ?_|refine sE (by decide) ?_|refine cz rfl ?_|refine Fork.by2 (fun h=>?_) fun h=>?_
 |(refine aR ?_;simp [vl])
 |(refine Split.by2 (fun h=>?_) (fun h=>?_)<;>(simp [h, vl]))
 |(apply hK;clear hK K)|refine AWh ‹_› ?_)
    refine aL [0, 1, 7] (fun i : Nat => [(8, .int .i64 i)]) (fun _ => []) (fun i => i ≤ i0) (fun i => l.length - i) 0 (Nat.zero_le _) (by apply Weak.mk' <;> simp [vl]) (fun _ _ => rfl) ?_
    intro i hi
    have hlt : i < l.length := by omega
    have hc := c_some1 l[i]
    have hv : noLocs l[i] = decide (i = i0) := by
      by_cases he : i = i0
      · subst he; simp [h2]
      · simp [he, h3 i (by omega)]
    obtain ⟨x, hx⟩ : ∃ x, l[i] = x := ⟨_, rfl⟩
    rw [hx] at hc hv
    rw [hv] at hc
    simp only [AutoD.cells, vl] at hc
    repeat' (first
 |refine aK fun K hK=>?_|refine Step.by1 ?_|refine sE (by decide) ?_|refine cz rfl ?_|refine Fork.by2 (fun h=>?_) fun h=>?_
 |((first|refine aR ?_|refine aC (f:=186) rfl rfl (hc) rfl rfl rfl ?_);simp [vl, AutoD.cells, hlt, hx, wI];try (simp (disch:=omega) only [wI];try simp [vl, AutoD.cells, hlt, hx, wI]))
 |(refine Split.by2 (fun h=>?_) (fun h=>?_)<;>(simp [h, vl, AutoD.cells, hlt, hx, wI];try (simp (disch:=omega) only [wI];try simp [vl, AutoD.cells, hlt, hx, wI])))
 |(apply hK;clear hK K)|refine AWh ‹_› ?_)
    all_goals first
      | exact r1q (cE (by simp [*]) rfl)
      | (refine ⟨i + 1, by omega, by omega, ?_⟩; apply Weak.mk' <;> simp [vl])
  · refine ⟨-1, ?_, ⟨fun h => by omega, fun h => absurd h hk⟩⟩
    have hall : ∀ i (h : i < l.length), noLocs l[i] = false := fun i h => by
      cases hh : noLocs l[i]
      · rfl
      · exact absurd (by unfold anyL; exact List.any_eq_true.2 ⟨_, List.getElem_mem h, hh⟩) hk
    refine pB Tryz.func215 rfl (by decide) Tryz.ntmps215 (by simp) Tryz.results215 ?_
    repeat' (first
 |refine aK fun K hK=>?_|refine Step.by1 ?_|refine sE (by decide) ?_|refine cz rfl ?_|refine Fork.by2 (fun h=>?_) fun h=>?_
 |(refine aR ?_;simp [vl])
 |(refine Split.by2 (fun h=>?_) (fun h=>?_)<;>(simp [h, vl]))
 |(apply hK;clear hK K)|refine AWh ‹_› ?_)
    refine aL [0, 1, 7] (fun i : Nat => [(8, .int .i64 i)]) (fun _ => []) (fun i => i ≤ l.length) (fun i => l.length - i) 0 (Nat.zero_le _) (by apply Weak.mk' <;> simp [vl]) (fun _ _ => rfl) ?_
    intro i hi
    by_cases hlt : i < l.length
    · have hc := c_some1 l[i]
      rw [hall i hlt] at hc
      obtain ⟨x, hx⟩ : ∃ x, l[i] = x := ⟨_, rfl⟩
      rw [hx] at hc
      simp only [AutoD.cells, vl] at hc
      repeat' (first
 |refine aK fun K hK=>?_|refine Step.by1 ?_|refine sE (by decide) ?_|refine cz rfl ?_|refine Fork.by2 (fun h=>?_) fun h=>?_
 |((first|refine aR ?_|refine aC (f:=186) rfl rfl (hc) rfl rfl rfl ?_);simp [vl, AutoD.cells, hlt, hx, wI];try (simp (disch:=omega) only [wI];try simp [vl, AutoD.cells, hlt, hx, wI]))
 |(refine Split.by2 (fun h=>?_) (fun h=>?_)<;>(simp [h, vl, AutoD.cells, hlt, hx, wI];try (simp (disch:=omega) only [wI];try simp [vl, AutoD.cells, hlt, hx, wI])))
 |(apply hK;clear hK K)|refine AWh ‹_› ?_)
      refine ⟨i + 1, by omega, by omega, ?_⟩; apply Weak.mk' <;> simp [vl]
    · repeat' (first
 |refine aK fun K hK=>?_|refine Step.by1 ?_|refine sE (by decide) ?_|refine cz rfl ?_|refine Fork.by2 (fun h=>?_) fun h=>?_
 |(refine aR ?_;simp [vl, hlt])
 |(refine Split.by2 (fun h=>?_) (fun h=>?_)<;>(simp [h, vl, hlt]))
 |(apply hK;clear hK K)|refine AWh ‹_› ?_)
      exact r1q (cE rfl rfl)
def someE (n : NetD) : Int := if n.autos.length = 0 ∨ anyL noLocs n.autos = true then 2 else 0
theorem c_someE (n : NetD) (hl : n.autos.length ≤ 1099511627776) : PC 128 [.agg n.cells] (.int .i64 (someE n)) := by
  obtain ⟨k, hk, hk'⟩ := c_indexNoLocs n.autos hl
  have hcf : PC 185 [vl AutoD.cells n.autos, .fn (.func 186) [] []] (.bool (anyL noLocs n.autos)) := by
    simp only [vl] at hk
    refine pB Tryz.func185 rfl (by decide) Tryz.ntmps185 (by simp) Tryz.results185 ?_
    repeat' (first
 |refine aK fun K hK=>?_|refine Step.by1 ?_|refine sE (by decide) ?_|refine cz rfl ?_|refine Fork.by2 (fun h=>?_) fun h=>?_
 |((first|refine aR ?_|refine aC (f:=215) rfl rfl (hk) rfl rfl rfl ?_);simp [vl])
 |(refine Split.by2 (fun h=>?_) (fun h=>?_)<;>(simp [h, vl]))
 |(apply hK;clear hK K)|refine AWh ‹_› ?_)
    exact r1q (cE (by simp; rw [Bool.eq_iff_iff]; simp [hk']) rfl)
  simp only [vl] at hcf
  refine pB Tryz.func128 rfl (by decide) Tryz.ntmps128 (by simp) Tryz.results128 ?_
  repeat' (first
 |refine aK fun K hK=>?_|refine Step.by1 ?_|refine sE (by decide) ?_|refine cz rfl ?_|refine Fork.by2 (fun h=>?_) fun h=>?_
 |((first|refine aR ?_|refine aC (f:=185) rfl rfl (hcf) rfl rfl rfl ?_);simp [vl, NetD.cells])
 |(refine Split.by2 (fun h=>?_) (fun h=>?_)<;>(simp [h, vl, NetD.cells]))
 |(apply hK;clear hK K)|refine AWh ‹_› ?_)
  all_goals first
    | exact r1q (cE (by simp [someE, *]) rfl)
def kindB (x : LocD) : Bool := decide (2 < x.kind)
def locsE (l : List AutoD) : Int := if anyL (fun a => anyL kindB a.locs) l then 122 else 0
theorem locsE_cons {a : AutoD} {l : List AutoD} : locsE (a :: l) = if anyL kindB a.locs = true then 122 else locsE l := by
  by_cases h : anyL kindB a.locs = true <;> simp [locsE, anC, h]
theorem c_locs (n : NetD) (hl : n.autos.length ≤ 1099511627776) (hl2 : ∀ a ∈ n.autos, a.locs.length ≤ 1099511627776) : PC 132 [.agg n.cells] (.int .i64 (locsE n.autos)) := by
  refine pB Tryz.func132 rfl (by decide) Tryz.ntmps132 (by simp) Tryz.results132 ?_
  repeat' (first
 |refine aK fun K hK=>?_|refine Step.by1 ?_|refine sE (by decide) ?_|refine cz rfl ?_|refine Fork.by2 (fun h=>?_) fun h=>?_
 |(refine aR ?_;simp [vl, NetD.cells])
 |(refine Split.by2 (fun h=>?_) (fun h=>?_)<;>(simp [h, vl, NetD.cells]))
 |(apply hK;clear hK K)|refine AWh ‹_› ?_)
  refine aS1 (n.autos) 10 [8, 9] (locsE) rfl (by apply Weak.mk' <;> simp [vl]) ?_ ?_
  · intro i a _ hlt ha hF
    have hll := hl2 a (ha ▸ List.getElem_mem hlt)
    rw [locsE_cons] at hF
    repeat' (first
 |refine aK fun K hK=>?_|refine Step.by1 ?_|refine sE (by decide) ?_|refine cz rfl ?_|refine Fork.by2 (fun h=>?_) fun h=>?_
 |(refine aR ?_;simp [vl, AutoD.cells, hlt, ha, wI];try (simp (disch:=omega) only [wI];try simp [vl, AutoD.cells, hlt, ha, wI]))
 |(refine Split.by2 (fun h=>?_) (fun h=>?_)<;>(simp [h, vl, AutoD.cells, hlt, ha, wI];try (simp (disch:=omega) only [wI];try simp [vl, AutoD.cells, hlt, ha, wI])))
 |(apply hK;clear hK K)|refine AWh ‹_› ?_)
    refine aS1 (a.locs) 17 [8, 9, 10, 15, 16] (anyL kindB) rfl (by apply Weak.mk' <;> simp [vl]) ?_ ?_
    · intro k x _ hkt hx hG
      rw [anC] at hG
      repeat' (first
 |refine aK fun K hK=>?_|refine Step.by1 ?_|refine sE (by decide) ?_|refine cz rfl ?_|refine Fork.by2 (fun h=>?_) fun h=>?_
 |(refine aR ?_;simp [vl, LocD.cells, hkt, hx, wI];try (simp (disch:=omega) only [wI];try simp [vl, LocD.cells, hkt, hx, wI]))
 |(refine Split.by2 (fun h=>?_) (fun h=>?_)<;>(simp [h, vl, LocD.cells, hkt, hx, wI];try (simp (disch:=omega) only [wI];try simp [vl, LocD.cells, hkt, hx, wI])))
 |(apply hK;clear hK K)|refine AWh ‹_› ?_)
      all_goals first
        | exact r1q (cE (by rw [← hF, ← hG]; simp [kindB, *]) rfl)
        | (refine ⟨by rw [← hG]; simp [kindB, *], ?_⟩; apply Weak.mk' <;> simp [vl])
    · intro hG
      repeat' (first
 |refine aK fun K hK=>?_|refine Step.by1 ?_|refine sE (by decide) ?_|refine cz rfl ?_|refine Fork.by2 (fun h=>?_) fun h=>?_
 |(refine aR ?_;simp [vl, wI];try (simp (disch:=omega) only [wI];try simp [vl, wI]))
 |(refine Split.by2 (fun h=>?_) (fun h=>?_)<;>(simp [h, vl, wI];try (simp (disch:=omega) only [wI];try simp [vl, wI])))
 |(apply hK;clear hK K)|refine AWh ‹_› ?_)
      all_goals first
        | (refine ⟨by rw [← hF, ← hG]; simp [anyL_nil], ?_⟩; apply Weak.mk' <;> simp [vl])
  · intro hF
    repeat' (first
 |refine aK fun K hK=>?_|refine Step.by1 ?_|refine sE (by decide) ?_|refine cz rfl ?_|refine Fork.by2 (fun h=>?_) fun h=>?_
 |(refine aR ?_;simp [vl])
 |(refine Split.by2 (fun h=>?_) (fun h=>?_)<;>(simp [h, vl]))
 |(apply hK;clear hK K)|refine AWh ‹_› ?_)
    exact r1q (cE (by rw [← hF]; simp [locsE, anyL_nil]) rfl)
end Go.Proofs.YtgmlimipejcpgaaGreatDoor
end
section
set_option maxRecDepth 100000
namespace Go.Proofs.YtgmlimipejcpgaaGreatDoor
open Go.AM
namespace Fx
@[simp] theorem by1 : bytesOf Tryz.prog 1 = 8 := by kernel_rfl
@[simp] theorem zo37 : (zeroOf Tryz.prog 37).isSome = true := by kernel_rfl
@[simp] theorem zd37 : zeroD Tryz.prog 37 = [.nilf] := by kernel_rfl
@[simp] theorem zo118 : (zeroOf Tryz.prog 118).isSome = true := by kernel_rfl
@[simp] theorem zd118 : zeroD Tryz.prog 118 = [.nilf] := by kernel_rfl
@[simp] theorem zo172 : (zeroOf Tryz.prog 172).isSome = true := by kernel_rfl
@[simp] theorem zd172 : zeroD Tryz.prog 172 = [.nilf] := by kernel_rfl
end Fx
end Go.Proofs.YtgmlimipejcpgaaGreatDoor
end
section
set_option linter.unusedSimpArgs false
set_option linter.unusedVariables false
namespace Go.Proofs.YtgmlimipejcpgaaGreatDoor
open Go Go.AM Fx
def firstAt {α : Type} (f : α → Int) : List α → Nat → Option (Nat × Int)
  | [], _ => none
  | x :: r, i => if f x ≠ 0 then some (i, f x) else firstAt f r (i + 1)
theorem firstAt_nil {α : Type} {f : α → Int} {i : Nat} : firstAt f [] i = none := rfl
theorem firstAt_cons {α : Type} {f : α → Int} {x : α} {r : List α} {i : Nat} : firstAt f (x :: r) i = if f x ≠ 0 then some (i, f x) else firstAt f r (i + 1) := rfl
def spotV (a l e : Int) : V := .agg [.int .i64 a, .int .i64 l, .int .i64 e]
/-- An automaton's first wrong place. -/
def searchA (pl : LocD → Int) (pe : EdgeD → Int) (a : AutoD) : Option ((Int × Int) × Int) := match firstAt pl a.locs 0 with
  | some (k, e) => some (((k : Int), -1), e)
  | none => match firstAt pe a.edges 0 with
    | some (k, e) => some ((-1, (k : Int)), e)
    | none => none
def searchE (pl : LocD → Int) (pe : EdgeD → Int) : List AutoD → Nat → (Int × Int × Int) × Int
  | [], _ => ((0, 0, 0), 0)
  | a :: r, i => match searchA pl pe a with
    | some ((l, k), e) => ((i, l, k), e)
    | none => searchE pl pe r (i + 1)
def spotE (x : (Int × Int × Int) × Int) : V := .tup [spotV x.1.1 x.1.2.1 x.1.2.2, .int .i64 x.2]
theorem searchE_nil {pl : LocD → Int} {pe : EdgeD → Int} {i : Nat} : searchE pl pe [] i = ((0, 0, 0), 0) := rfl
theorem searchE_cons {pl : LocD → Int} {pe : EdgeD → Int} {a : AutoD} {r : List AutoD} {i : Nat} : searchE pl pe (a :: r) i = match searchA pl pe a with
    | some ((l, k), e) => ((i, l, k), e)
    | none => searchE pl pe r (i + 1) := rfl
set_option maxRecDepth 20000 in
set_option maxHeartbeats 8000000 in
theorem c_search (n : NetD) (hn : n.ok) (fl fe : Nat) (pl : LocD → Int) (pe : EdgeD → Int) (hl : ∀ a ∈ n.autos, ∀ x ∈ a.locs, PC fl [.agg x.cells] (.int .i64 (pl x))) (he : ∀ a ∈ n.autos, ∀ x ∈ a.edges, PC fe [.agg x.cells] (.int .i64 (pe x))) :
    PC 59 [.agg n.cells, .fn (.func fl) [] [], .fn (.func fe) [] []] (spotE (searchE pl pe n.autos 0)) := by
  obtain ⟨_, _, _, h4, h5⟩ := hn
  obtain ⟨r, hr⟩ : ∃ r, searchE pl pe n.autos 0 = r := ⟨_, rfl⟩
  rw [hr]
  refine pB Tryz.func59 rfl (by decide) Tryz.ntmps59 (by simp) Tryz.results59 ?_
  repeat' (first
 |refine aK fun K hK=>?_|refine Step.by1 ?_|refine sE (by decide) ?_|refine cz rfl ?_|refine Fork.by2 (fun h=>?_) fun h=>?_
 |(refine aR ?_;simp [vl, NetD.cells])
 |(refine Split.by2 (fun h=>?_) (fun h=>?_)<;>(simp [h, vl, NetD.cells]))
 |(apply hK;clear hK K)|refine AWh ‹_› ?_)
  refine AW_range (r := r) n.autos 19 [1, 2, 6, 17, 18] (fun c : Nat => []) (fun _ => [.var n.cells, .var [.int .i64 0, .int .i64 0, .int .i64 0]]) (fun i c => c = i) (searchE pl pe) 0
    hr rfl (by apply Weak.mk' <;> simp [vl, NetD.cells]) (fun _ _ _ => rfl) ?_ ?_
  · intro i c a _ hlt ha hJ hF
    subst hJ
    rw [searchE_cons] at hF
    have hm : a ∈ n.autos := ha ▸ List.getElem_mem hlt
    have hoa := h5 a hm
    obtain ⟨_, ⟨hl1, hl2⟩, he1, he2⟩ := hoa
    have hlt' : (c : Int) < n.autos.length := by omega
    have w0 : IntKind.i64.wrap ((c : Int) + 1) = c + 1 := wI (by omega) (by omega)
    have hsA : searchA pl pe a = match firstAt pl a.locs 0 with
      | some (k, e) => some (((k : Int), -1), e)
      | none => match firstAt pe a.edges 0 with
        | some (k, e) => some ((-1, (k : Int)), e)
        | none => none := rfl
    obtain ⟨ra, hra⟩ : ∃ ra, firstAt pl a.locs 0 = ra := ⟨_, rfl⟩
    obtain ⟨re, hre⟩ : ∃ re, firstAt pe a.edges 0 = re := ⟨_, rfl⟩
    rw [hra, hre] at hsA
    rw [hsA] at hF
    clear hsA
    repeat' (first
 |refine aK fun K hK=>?_|refine Step.by1 ?_|refine sE (by decide) ?_|refine cz rfl ?_|refine Fork.by2 (fun h=>?_) fun h=>?_
 |(refine aR ?_;simp [vl, NetD.cells, AutoD.cells, hlt, hlt', ha])
 |(refine Split.by2 (fun h=>?_) (fun h=>?_)<;>(simp [h, vl, NetD.cells, AutoD.cells, hlt, hlt', ha]))
 |(apply hK;clear hK K)|refine AWh ‹_› ?_)
    refine AW_range (r := ra) a.locs 27 [1, 2, 6, 8, 9, 17, 18, 19, 25, 26] (fun c : Nat => []) (fun _ => [.var n.cells, .var [.int .i64 0, .int .i64 0, .int .i64 0], .var a.cells]) (fun i c => c = i) (firstAt pl) 0
      hra rfl (by apply Weak.mk' <;> simp [vl, NetD.cells, AutoD.cells]) (fun _ _ _ => rfl) ?_ ?_
    · intro k q x _ hkt hx hJ hG
      subst hJ
      rw [firstAt_cons] at hG
      have hc := hl a hm x (hx ▸ List.getElem_mem hkt)
      have hkt' : (q : Int) < a.locs.length := by omega
      have w1 : IntKind.i64.wrap ((q : Int) + 1) = q + 1 := wI (by omega) (by omega)
      simp only [LocD.cells, vl] at hc
      by_cases hz : pl x = 0
      · rw [if_neg (by simp [hz])] at hG
        rw [hz] at hc
        repeat' (first
 |refine aK fun K hK=>?_|refine Step.by1 ?_|refine sE (by decide) ?_|refine cz rfl ?_|refine Fork.by2 (fun h=>?_) fun h=>?_
 |(refine aR ?_;simp [vl, NetD.cells, AutoD.cells, LocD.cells, hkt, hkt', hx, w1])
 |(refine Split.by2 (fun h=>?_) (fun h=>?_)<;>(simp [h, vl, NetD.cells, AutoD.cells, LocD.cells, hkt, hkt', hx, w1]))
 |(refine aC (f := fl) rfl rfl hc rfl rfl rfl ?_; simp)
 |(apply hK;clear hK K)|refine AWh ‹_› ?_)
        exact ⟨q + 1, hG, rfl, by apply Weak.mk' <;> simp [vl, NetD.cells, AutoD.cells]⟩
      · rw [if_pos hz] at hG
        subst hG
        simp only at hF
        repeat' (first
 |refine aK fun K hK=>?_|refine Step.by1 ?_|refine sE (by decide) ?_|refine cz rfl ?_|refine Fork.by2 (fun h=>?_) fun h=>?_
 |(refine aR ?_;simp [vl, NetD.cells, AutoD.cells, LocD.cells, hkt, hkt', hx, w1, hz])
 |(refine Split.by2 (fun h=>?_) (fun h=>?_)<;>(simp [h, vl, NetD.cells, AutoD.cells, LocD.cells, hkt, hkt', hx, w1, hz]))
 |(refine aC (f := fl) rfl rfl hc rfl rfl rfl ?_; simp [hz])
 |(apply hK;clear hK K)|refine AWh ‹_› ?_)
        exact retq2ct rfl (by simp) (cE (by rw [← hF]; simp [spotE, spotV]) (by simp))
    · intro q hJ hG
      rw [firstAt_nil] at hG
      subst hG
      simp only at hF
      repeat' (first
 |refine aK fun K hK=>?_|refine Step.by1 ?_|refine sE (by decide) ?_|refine cz rfl ?_|refine Fork.by2 (fun h=>?_) fun h=>?_
 |(refine aR ?_;simp [vl, NetD.cells, AutoD.cells])
 |(refine Split.by2 (fun h=>?_) (fun h=>?_)<;>(simp [h, vl, NetD.cells, AutoD.cells]))
 |(apply hK;clear hK K)|refine AWh ‹_› ?_)
      refine AW_range (r := re) a.edges 45 [1, 2, 6, 8, 17, 18, 19, 43, 44] (fun c : Nat => []) (fun _ => [.var n.cells, .var [.int .i64 0, .int .i64 0, .int .i64 0], .var a.cells]) (fun i c => c = i) (firstAt pe) 0
        hre rfl (by apply Weak.mk' <;> simp [vl, NetD.cells, AutoD.cells]) (fun _ _ _ => rfl) ?_ ?_
      · intro k q2 y _ hkt hy hJ2 hG
        subst hJ2
        rw [firstAt_cons] at hG
        have hc := he a hm y (hy ▸ List.getElem_mem hkt)
        have hkt' : (q2 : Int) < a.edges.length := by omega
        have w1 : IntKind.i64.wrap ((q2 : Int) + 1) = q2 + 1 := wI (by omega) (by omega)
        simp only [EdgeD.cells, vl] at hc
        by_cases hz : pe y = 0
        · rw [if_neg (by simp [hz])] at hG
          rw [hz] at hc
          repeat' (first
 |refine aK fun K hK=>?_|refine Step.by1 ?_|refine sE (by decide) ?_|refine cz rfl ?_|refine Fork.by2 (fun h=>?_) fun h=>?_
 |(refine aR ?_;simp [vl, NetD.cells, AutoD.cells, EdgeD.cells, hkt, hkt', hy, w1])
 |(refine Split.by2 (fun h=>?_) (fun h=>?_)<;>(simp [h, vl, NetD.cells, AutoD.cells, EdgeD.cells, hkt, hkt', hy, w1]))
 |(refine aC (f := fe) rfl rfl hc rfl rfl rfl ?_; simp)
 |(apply hK;clear hK K)|refine AWh ‹_› ?_)
          exact ⟨q2 + 1, hG, rfl, by apply Weak.mk' <;> simp [vl, NetD.cells, AutoD.cells]⟩
        · rw [if_pos hz] at hG
          subst hG
          simp only at hF
          repeat' (first
 |refine aK fun K hK=>?_|refine Step.by1 ?_|refine sE (by decide) ?_|refine cz rfl ?_|refine Fork.by2 (fun h=>?_) fun h=>?_
 |(refine aR ?_;simp [vl, NetD.cells, AutoD.cells, EdgeD.cells, hkt, hkt', hy, w1, hz])
 |(refine Split.by2 (fun h=>?_) (fun h=>?_)<;>(simp [h, vl, NetD.cells, AutoD.cells, EdgeD.cells, hkt, hkt', hy, w1, hz]))
 |(refine aC (f := fe) rfl rfl hc rfl rfl rfl ?_; simp [hz])
 |(apply hK;clear hK K)|refine AWh ‹_› ?_)
          exact retq2ct rfl (by simp) (cE (by rw [← hF]; simp [spotE, spotV]) (by simp))
      · intro q2 hJ2 hG
        rw [firstAt_nil] at hG
        subst hG
        simp only at hF
        repeat' (first
 |refine aK fun K hK=>?_|refine Step.by1 ?_|refine sE (by decide) ?_|refine cz rfl ?_|refine Fork.by2 (fun h=>?_) fun h=>?_
 |(refine aR ?_;simp [vl, NetD.cells, AutoD.cells, w0])
 |(refine Split.by2 (fun h=>?_) (fun h=>?_)<;>(simp [h, vl, NetD.cells, AutoD.cells, w0]))
 |(apply hK;clear hK K)|refine AWh ‹_› ?_)
        exact ⟨c + 1, hF, rfl, by apply Weak.mk' <;> simp [vl, NetD.cells]⟩
  · intro c hJ hF
    rw [searchE_nil] at hF
    repeat' (first
 |refine aK fun K hK=>?_|refine Step.by1 ?_|refine sE (by decide) ?_|refine cz rfl ?_|refine Fork.by2 (fun h=>?_) fun h=>?_
 |(refine aR ?_;simp [vl, NetD.cells])
 |(refine Split.by2 (fun h=>?_) (fun h=>?_)<;>(simp [h, vl, NetD.cells]))
 |(apply hK;clear hK K)|refine AWh ‹_› ?_)
    exact retq2ct rfl (by simp) (cE (by rw [← hF]; simp [spotE, spotV]) (by simp))
def sizeSet (s : SetD) : Bool := decide (64 < s.expr.length)
def sizeLoc (x : LocD) : Bool := decide (16 < x.inv.length)
def sizeEdge (e : EdgeD) : Bool := decide (16 < e.guards.length ∨ 16 < e.sets.length ∨ 64 < e.test.length) || anyL sizeSet e.sets
def sizeAuto (a : AutoD) : Bool := decide (64 < a.locs.length ∨ 256 < a.edges.length) || (anyL sizeLoc a.locs || anyL sizeEdge a.edges)
def sizeNet (n : NetD) : Bool := decide (8 < n.clocks.length ∨ 16 < n.vars.length ∨ 16 < n.chans.length ∨ 8 < n.autos.length) || anyL sizeAuto n.autos
def sizesE (n : NetD) : Int := if sizeNet n = true then 6 else 0
set_option maxRecDepth 8000 in
set_option maxHeartbeats 8000000 in
theorem c_sizes (n : NetD) (hn : n.ok) : PC 129 [.agg n.cells] (.int .i64 (sizesE n)) := by
  obtain ⟨⟨h1, _⟩, ⟨h2, _⟩, ⟨h3, _⟩, h4, h5⟩ := hn
  refine pB Tryz.func129 rfl (by decide) Tryz.ntmps129 (by simp) Tryz.results129 ?_
  by_cases h0 : 8 < n.clocks.length ∨ 16 < n.vars.length ∨ 16 < n.chans.length ∨ 8 < n.autos.length
  · have hs : sizesE n = 6 := by simp [sizesE, sizeNet, h0]
    repeat' (first
 |refine aK fun K hK=>?_|refine Step.by1 ?_|refine sE (by decide) ?_|refine cz rfl ?_|refine Fork.by2 (fun h=>?_) fun h=>?_
 |(refine aR ?_;simp [vl, NetD.cells])
 |(refine Split.by2 (fun h=>?_) (fun h=>?_)<;>(simp [h, vl, NetD.cells]))
 |(apply hK;clear hK K)|refine AWh ‹_› ?_)
    all_goals first
      | exact r1q (cE (by simp [hs]) rfl)
      | (exfalso; omega)
  · have hs : sizesE n = if anyL sizeAuto n.autos = true then 6 else 0 := by simp [sizesE, sizeNet, h0]
    have k1 : ¬ (8 : Int) < n.clocks.length := by omega
    have k2 : ¬ (16 : Int) < n.vars.length := by omega
    have k3 : ¬ (16 : Int) < n.chans.length := by omega
    have k4 : ¬ (8 : Int) < n.autos.length := by omega
    rw [hs]
    obtain ⟨E, hE⟩ : ∃ E : List AutoD → Int, E = fun l => if anyL sizeAuto l = true then 6 else 0 := ⟨_, rfl⟩
    have hEc : ∀ a l, E (a :: l) = if sizeAuto a = true then 6 else E l := fun a l => by subst hE; by_cases h : sizeAuto a = true <;> simp [anC, h]
    have hEn : (if anyL sizeAuto n.autos = true then (6 : Int) else 0) = E n.autos := by subst hE; rfl
    have hE0 : E [] = 0 := by subst hE; rfl
    rw [hEn]
    repeat' (first
 |refine aK fun K hK=>?_|refine Step.by1 ?_|refine sE (by decide) ?_|refine cz rfl ?_|refine Fork.by2 (fun h=>?_) fun h=>?_
 |(refine aR ?_;simp [vl, NetD.cells, k1, k2, k3, k4])
 |(refine Split.by2 (fun h=>?_) (fun h=>?_)<;>(simp [h, vl, NetD.cells, k1, k2, k3, k4]))
 |(apply hK;clear hK K)|refine AWh ‹_› ?_)
    refine aS1 (n.autos) 36 [34, 35] (E) rfl (by apply Weak.mk' <;> simp [vl]) ?_ ?_
    · intro i a _ hlt ha hF
      have hoa := h5 a (ha ▸ List.getElem_mem hlt)
      obtain ⟨_, ⟨hl1, hl2⟩, he1, he2⟩ := hoa
      rw [hEc] at hF
      by_cases hA : 64 < a.locs.length ∨ 256 < a.edges.length
      · have hA' : sizeAuto a = true := by simp [sizeAuto, hA]
        rw [if_pos hA'] at hF
        repeat' (first
 |refine aK fun K hK=>?_|refine Step.by1 ?_|refine sE (by decide) ?_|refine cz rfl ?_|refine Fork.by2 (fun h=>?_) fun h=>?_
 |(refine aR ?_;simp [vl, AutoD.cells, hlt, ha, wI];try (simp (disch:=omega) only [wI];try simp [vl, AutoD.cells, hlt, ha, wI]))
 |(refine Split.by2 (fun h=>?_) (fun h=>?_)<;>(simp [h, vl, AutoD.cells, hlt, ha, wI];try (simp (disch:=omega) only [wI];try simp [vl, AutoD.cells, hlt, ha, wI])))
 |(apply hK;clear hK K)|refine AWh ‹_› ?_)
        all_goals first
          | exact r1q (cE (by simp [← hF]) rfl)
          | (exfalso; omega)
      · have hA' : sizeAuto a = (anyL sizeLoc a.locs || anyL sizeEdge a.edges) := by simp [sizeAuto, hA]
        have j1 : ¬ (64 : Int) < a.locs.length := by omega
        have j2 : ¬ (256 : Int) < a.edges.length := by omega
        rw [hA'] at hF
        repeat' (first
 |refine aK fun K hK=>?_|refine Step.by1 ?_|refine sE (by decide) ?_|refine cz rfl ?_|refine Fork.by2 (fun h=>?_) fun h=>?_
 |(refine aR ?_;simp [vl, AutoD.cells, hlt, ha, j1, j2, wI];try (simp (disch:=omega) only [wI];try simp [vl, AutoD.cells, hlt, ha, j1, j2, wI]))
 |(refine Split.by2 (fun h=>?_) (fun h=>?_)<;>(simp [h, vl, AutoD.cells, hlt, ha, j1, j2, wI];try (simp (disch:=omega) only [wI];try simp [vl, AutoD.cells, hlt, ha, j1, j2, wI])))
 |(apply hK;clear hK K)|refine AWh ‹_› ?_)
        refine aS1 (a.locs) 53 [4, 34, 35, 36, 51, 52] (anyL sizeLoc) rfl (by apply Weak.mk' <;> simp [vl]) ?_ ?_
        · intro k x _ hkt hx hG
          rw [anC] at hG
          repeat' (first
 |refine aK fun K hK=>?_|refine Step.by1 ?_|refine sE (by decide) ?_|refine cz rfl ?_|refine Fork.by2 (fun h=>?_) fun h=>?_
 |(refine aR ?_;simp [vl, LocD.cells, hkt, hx, wI];try (simp (disch:=omega) only [wI];try simp [vl, LocD.cells, hkt, hx, wI]))
 |(refine Split.by2 (fun h=>?_) (fun h=>?_)<;>(simp [h, vl, LocD.cells, hkt, hx, wI];try (simp (disch:=omega) only [wI];try simp [vl, LocD.cells, hkt, hx, wI])))
 |(apply hK;clear hK K)|refine AWh ‹_› ?_)
          all_goals first
            | exact r1q (cE (by rw [← hF, ← hG]; simp [sizeLoc]; omega) rfl)
            | (refine ⟨by rw [← hG]; simp [sizeLoc]; omega, ?_⟩; apply Weak.mk' <;> simp [vl])
        · intro hG
          rw [← hG, anyL_nil, Bool.false_or] at hF
          repeat' (first
 |refine aK fun K hK=>?_|refine Step.by1 ?_|refine sE (by decide) ?_|refine cz rfl ?_|refine Fork.by2 (fun h=>?_) fun h=>?_
 |(refine aR ?_;simp [vl, wI];try (simp (disch:=omega) only [wI];try simp [vl, wI]))
 |(refine Split.by2 (fun h=>?_) (fun h=>?_)<;>(simp [h, vl, wI];try (simp (disch:=omega) only [wI];try simp [vl, wI])))
 |(apply hK;clear hK K)|refine AWh ‹_› ?_)
          refine aS1 (a.edges) 65 [34, 35, 36, 63, 64] (anyL sizeEdge) rfl (by apply Weak.mk' <;> simp [vl]) ?_ ?_
          · intro m y _ hmt hy hM
            have hoy := he2 y (hy ▸ List.getElem_mem hmt)
            have ok7 := hoy.2.2.2.2.2.2.1
            rw [anC] at hM
            by_cases hY : 16 < y.guards.length ∨ 16 < y.sets.length ∨ 64 < y.test.length
            · have hY' : sizeEdge y = true := by simp [sizeEdge, hY]
              rw [hY', Bool.true_or] at hM
              rw [← hM] at hF
              repeat' (first
 |refine aK fun K hK=>?_|refine Step.by1 ?_|refine sE (by decide) ?_|refine cz rfl ?_|refine Fork.by2 (fun h=>?_) fun h=>?_
 |(refine aR ?_;simp [vl, EdgeD.cells, hmt, hy, wI];try (simp (disch:=omega) only [wI];try simp [vl, EdgeD.cells, hmt, hy, wI]))
 |(refine Split.by2 (fun h=>?_) (fun h=>?_)<;>(simp [h, vl, EdgeD.cells, hmt, hy, wI];try (simp (disch:=omega) only [wI];try simp [vl, EdgeD.cells, hmt, hy, wI])))
 |(apply hK;clear hK K)|refine AWh ‹_› ?_)
              all_goals first
                | exact r1q (cE (by simp [← hF]) rfl)
                | (exfalso; omega)
            · have hY' : sizeEdge y = anyL sizeSet y.sets := by simp [sizeEdge, hY]
              have i1 : ¬ (16 : Int) < y.guards.length := by omega
              have i2 : ¬ (16 : Int) < y.sets.length := by omega
              have i3 : ¬ (64 : Int) < y.test.length := by omega
              rw [hY'] at hM
              repeat' (first
 |refine aK fun K hK=>?_|refine Step.by1 ?_|refine sE (by decide) ?_|refine cz rfl ?_|refine Fork.by2 (fun h=>?_) fun h=>?_
 |(refine aR ?_;simp [vl, EdgeD.cells, hmt, hy, i1, i2, i3, wI];try (simp (disch:=omega) only [wI];try simp [vl, EdgeD.cells, hmt, hy, i1, i2, i3, wI]))
 |(refine Split.by2 (fun h=>?_) (fun h=>?_)<;>(simp [h, vl, EdgeD.cells, hmt, hy, i1, i2, i3, wI];try (simp (disch:=omega) only [wI];try simp [vl, EdgeD.cells, hmt, hy, i1, i2, i3, wI])))
 |(apply hK;clear hK K)|refine AWh ‹_› ?_)
              refine aS1 (y.sets) 88 [34, 35, 36, 63, 64, 65, 86, 87] (anyL sizeSet) rfl (by apply Weak.mk' <;> simp [vl]) ?_ ?_
              · intro q z _ hqt hz hQ
                rw [anC] at hQ
                repeat' (first
 |refine aK fun K hK=>?_|refine Step.by1 ?_|refine sE (by decide) ?_|refine cz rfl ?_|refine Fork.by2 (fun h=>?_) fun h=>?_
 |(refine aR ?_;simp [vl, SetD.cells, hqt, hz, wI];try (simp (disch:=omega) only [wI];try simp [vl, SetD.cells, hqt, hz, wI]))
 |(refine Split.by2 (fun h=>?_) (fun h=>?_)<;>(simp [h, vl, SetD.cells, hqt, hz, wI];try (simp (disch:=omega) only [wI];try simp [vl, SetD.cells, hqt, hz, wI])))
 |(apply hK;clear hK K)|refine AWh ‹_› ?_)
                all_goals first
                  | exact r1q (cE (by rw [← hF, ← hM, ← hQ]; simp [sizeSet]; omega) rfl)
                  | (refine ⟨by rw [← hQ]; simp [sizeSet]; omega, ?_⟩; apply Weak.mk' <;> simp [vl])
              · intro hQ
                rw [← hQ, anyL_nil, Bool.false_or] at hM
                repeat' (first
 |refine aK fun K hK=>?_|refine Step.by1 ?_|refine sE (by decide) ?_|refine cz rfl ?_|refine Fork.by2 (fun h=>?_) fun h=>?_
 |(refine aR ?_;simp [vl, wI];try (simp (disch:=omega) only [wI];try simp [vl, wI]))
 |(refine Split.by2 (fun h=>?_) (fun h=>?_)<;>(simp [h, vl, wI];try (simp (disch:=omega) only [wI];try simp [vl, wI])))
 |(apply hK;clear hK K)|refine AWh ‹_› ?_)
                all_goals first
                  | (refine ⟨hM, ?_⟩; apply Weak.mk' <;> simp [vl])
          · intro hM
            rw [← hM, anyL_nil] at hF
            repeat' (first
 |refine aK fun K hK=>?_|refine Step.by1 ?_|refine sE (by decide) ?_|refine cz rfl ?_|refine Fork.by2 (fun h=>?_) fun h=>?_
 |(refine aR ?_;simp [vl, wI];try (simp (disch:=omega) only [wI];try simp [vl, wI]))
 |(refine Split.by2 (fun h=>?_) (fun h=>?_)<;>(simp [h, vl, wI];try (simp (disch:=omega) only [wI];try simp [vl, wI])))
 |(apply hK;clear hK K)|refine AWh ‹_› ?_)
            all_goals first
              | (refine ⟨by simpa using hF, ?_⟩; apply Weak.mk' <;> simp [vl])
    · intro hF
      repeat' (first
 |refine aK fun K hK=>?_|refine Step.by1 ?_|refine sE (by decide) ?_|refine cz rfl ?_|refine Fork.by2 (fun h=>?_) fun h=>?_
 |(refine aR ?_;simp [vl])
 |(refine Split.by2 (fun h=>?_) (fun h=>?_)<;>(simp [h, vl]))
 |(apply hK;clear hK K)|refine AWh ‹_› ?_)
      exact r1q (cE (by rw [← hF, hE0]; simp) rfl)
end Go.Proofs.YtgmlimipejcpgaaGreatDoor
end
