/-
  YtbgooadmonnjaaaGreatDoorRc12: steps of the proof of a law of the program: what these texts prove holds under the hypotheses that their theorems name, and no others.
-/
import Derived.Test.YtbgooadmonnjaaaGreatDoorRc11
import Derived.Test.YtbgooadmonnjaaaGreatDoorProg
import Derived.Test.YtbgooadmonnjaaaGreatDoorRc07
import Derived.KernelRfl
section
set_option linter.unusedVariables false
set_option linter.unusedSimpArgs false
namespace Go.AM
section
variable {P : Program} {ge : GEnv} {st : St} {Q : Exit → St → Prop} {G : Gh} {w : World}
/-- A variable's cell is told otherwise. -/
theorem RH_retell {h : List B} (rh : RH P ge G h w) {b0 j : Nat} {cs : List V} {v : V} (hb : h[b0]? = some (.var cs))
    (hv : ∀ (c : Value) (u : V), cs[j]? = some u → R G w false u c → c.oneCell' = true → R G w false v c) :
    RH P ge G (h.set b0 (.var (cs.set j v))) w ∧ Ext G h w G (h.set b0 (.var (cs.set j v))) w := by
  obtain ⟨h00, k, arr, T, hm, hh, hfz, hs, hcells⟩ := rh.bl b0 _ hb
  refine RH_upd (w' := w) rh hb hm rfl (fun _ _ => rfl) rfl ⟨rfl, rfl⟩ (.refl _ _) ⟨h00, k, arr, T, hm, hh, hfz, by simp [hs], fun i u hu => ?_⟩ hm
  rw [List.getElem?_set] at hu
  split at hu
  · rename_i e
    subst e
    split at hu
    · rename_i hj
      cases hu
      have := hcells j cs[j] (List.getElem?_eq_getElem hj)
      exact ⟨this.1, hv _ _ (List.getElem?_eq_getElem hj) this.2 this.1⟩
    · cases hu
  · exact hcells i u hu
/-- A nil slice in a variable's cell, as an empty row of one's own. -/
theorem AW_nilcell {c : Code} (b0 j : Nat) (T : TypeId) {cs : List V} (h0 : st.h[b0]? = some (.var cs)) (hj : cs[j]? = some .nils) (hT : 0 < szOf P T)
    (h : AW P ge c Q { st with h := (st.h ++ [B.row T 0 0 true []]).set b0 (.var (cs.set j (.ref st.h.length 0 0 0))) }) : AW P ge c Q st := by
  intro G a w hr
  have hk : ∀ k', (G.push none (szOf P T) 0).at G.n (.row T 0 0 true []) = some k' → w.heap.size ≤ k' := fun k' h => by
    simp [Gh.at, Gh.push] at h
  have hrb : RB P (G.push none (szOf P T) 0) w G.n (.row T 0 0 true []) := ⟨by simp [Gh.push], Nat.zero_le _, by simp [Gh.push, hT], .inl ⟨by simp [Gh.push], rfl⟩⟩
  have rh := hr.rh.push (.refl w) hrb hk
  have ext := Ext.push hr.rh (.refl w) hk
  have hlt : b0 < st.h.length := (List.getElem?_eq_some_iff.1 h0).1
  have h0' : (st.h ++ [B.row T 0 0 true []])[b0]? = some (.var cs) := by rw [List.getElem?_append_left hlt]; exact h0
  obtain ⟨rh2, x2⟩ := RH_retell (j := j) (v := .ref st.h.length 0 0 0) rh h0' (fun c u hu hc ho => by
    rw [hj] at hu; cases hu
    cases hc
    rw [hr.rh.n]
    exact .refn (by simp [Gh.push]) (by simp [Gh.push]) (by simp [Gh.push]))
  exact wp_mono (h _ a w ⟨rh2, fun t => (hr.tm t).mono ext.le, hr.n, hr.d⟩) fun _ _ _ hp => hp.mono (ext.trans x2) fun _ _ h => h
end
end Go.AM
end
section
set_option linter.unusedVariables false
set_option linter.unusedSimpArgs false
namespace Go.AM
section
variable {P : Program} {ge : GEnv} {st st' : St} {Q : Exit → St → Prop} {ops : Array Oper}
/-- A result that lies in a variable. -/
theorem retqc {t : Nat} {T : TypeId} {cs : List V} {off : Nat} {r : V} (hp : place st.h (lk st.tm t) = some (cs, off)) (ho : loadOk P T cs off) (hc : Conv st.h (loadV P T cs off) r) : RetQ P #[.cell t T] r .ret st :=
  ⟨.inr rfl, _, ⟨cs, off, hp, ho, rfl⟩, hc⟩
theorem retq2ct {t u : Nat} {T : TypeId} {cs : List V} {off : Nat} {r : V} (hp : place st.h (lk st.tm t) = some (cs, off)) (ho : loadOk P T cs off) (hc : Conv st.h (.tup [loadV P T cs off, lk st.tm u]) r) : RetQ P #[.cell t T, .tmp u] r .ret st :=
  ⟨.inr rfl, _, ⟨[loadV P T cs off, lk st.tm u], rfl, ⟨cs, off, hp, ho, rfl⟩, rfl, trivial⟩, hc⟩
end
end Go.AM
end
section
set_option linter.unusedSimpArgs false
set_option linter.unusedVariables false
namespace Go.Proofs.YtbgooadmonnjaaaGreatDoor
open Go Go.AM Fx
def diagG (g : GuardD) : Bool := decide (g.other ≠ 0)
def greatG (g : GuardD) : Bool := decide (g.n < 0 ∨ 1048576 < g.n)
def greatS (s : SetD) : Bool := decide (s.clock ≠ 0 ∧ (s.n < 0 ∨ 1048576 < s.n))
def cmpG (g : GuardD) : Bool := decide (g.cmp < 1 ∨ 5 < g.cmp)
def isClk (n : NetD) (c : Int) : Bool := decide (1 ≤ c ∧ c ≤ n.clocks.length)
def clkG (n : NetD) (g : GuardD) : Bool := !isClk n g.clock || (decide (g.other ≠ 0) && !isClk n g.other)
def varV (v : VarD) : Bool := decide (v.init < v.lo ∨ v.hi < v.init ∨ v.lo < -1048576 ∨ 1048576 < v.hi)
theorem c_isClock (n : NetD) (c : Int) : PC 235 [.agg n.cells, .int .i64 c] (.bool (isClk n c)) := by
  refine pB Tryz.func235 rfl (by decide) Tryz.ntmps235 (by simp) Tryz.results235 ?_
  repeat' (first
 |refine aK fun K hK=>?_|refine Step.by1 ?_|refine sE (by decide) ?_|refine cz rfl ?_|refine Fork.by2 (fun h=>?_) fun h=>?_
 |(refine aR ?_;simp [vl, NetD.cells])
 |(refine Split.by2 (fun h=>?_) (fun h=>?_)<;>(simp [h, vl, NetD.cells]))
 |(apply hK;clear hK K)|refine AWh ‹_› ?_)
  all_goals first
    | exact r1q (cE (by simp [isClk, *]) rfl)
def diagE (l : List GuardD) : Int := if l.any (diagG) then 120 else 0
theorem c_diagE (l : List GuardD) (hl : l.length ≤ 1099511627776) : PC 114 [vl GuardD.cells l] (.int .i64 (diagE l)) := by
  refine pB Tryz.func114 rfl (by decide) Tryz.ntmps114 (by simp) Tryz.results114 ?_
  repeat' (first
 |refine aK fun K hK=>?_|refine Step.by1 ?_|refine sE (by decide) ?_|refine cz rfl ?_|refine Fork.by2 (fun h=>?_) fun h=>?_
 |(refine aR ?_;simp [vl])
 |(refine Split.by2 (fun h=>?_) (fun h=>?_)<;>(simp [h, vl]))
 |(apply hK;clear hK K)|refine AWh ‹_› ?_)
  refine aS1 (l) 7 [5, 6] (diagE) rfl (by apply Weak.mk' <;> simp [vl]) ?_ ?_
  · intro i x _ hlt hx hF
    repeat' (first
 |refine aK fun K hK=>?_|refine Step.by1 ?_|refine sE (by decide) ?_|refine cz rfl ?_|refine Fork.by2 (fun h=>?_) fun h=>?_
 |(refine aR ?_;simp [vl, GuardD.cells, hlt, hx, wI];try (simp (disch:=omega) only [wI];try simp [vl, GuardD.cells, hlt, hx, wI]))
 |(refine Split.by2 (fun h=>?_) (fun h=>?_)<;>(simp [h, vl, GuardD.cells, hlt, hx, wI];try (simp (disch:=omega) only [wI];try simp [vl, GuardD.cells, hlt, hx, wI])))
 |(apply hK;clear hK K)|refine AWh ‹_› ?_)
    all_goals first
      | exact r1q (cE (by rw [← hF]; simp [diagE, diagG, *]) rfl)
      | (refine ⟨by rw [← hF]; simp [diagE, diagG, *], ?_⟩; apply Weak.mk' <;> simp [vl])
  · intro hF
    repeat' (first
 |refine aK fun K hK=>?_|refine Step.by1 ?_|refine sE (by decide) ?_|refine cz rfl ?_|refine Fork.by2 (fun h=>?_) fun h=>?_
 |(refine aR ?_;simp [vl])
 |(refine Split.by2 (fun h=>?_) (fun h=>?_)<;>(simp [h, vl]))
 |(apply hK;clear hK K)|refine AWh ‹_› ?_)
    exact r1q (cE (by rw [← hF]; simp [diagE]) rfl)
def greatE (l : List GuardD) : Int := if l.any (greatG) then 13 else 0
theorem c_greatE (l : List GuardD) (hl : l.length ≤ 1099511627776) : PC 115 [vl GuardD.cells l] (.int .i64 (greatE l)) := by
  refine pB Tryz.func115 rfl (by decide) Tryz.ntmps115 (by simp) Tryz.results115 ?_
  repeat' (first
 |refine aK fun K hK=>?_|refine Step.by1 ?_|refine sE (by decide) ?_|refine cz rfl ?_|refine Fork.by2 (fun h=>?_) fun h=>?_
 |(refine aR ?_;simp [vl])
 |(refine Split.by2 (fun h=>?_) (fun h=>?_)<;>(simp [h, vl]))
 |(apply hK;clear hK K)|refine AWh ‹_› ?_)
  refine aS1 (l) 7 [5, 6] (greatE) rfl (by apply Weak.mk' <;> simp [vl]) ?_ ?_
  · intro i x _ hlt hx hF
    repeat' (first
 |refine aK fun K hK=>?_|refine Step.by1 ?_|refine sE (by decide) ?_|refine cz rfl ?_|refine Fork.by2 (fun h=>?_) fun h=>?_
 |(refine aR ?_;simp [vl, GuardD.cells, hlt, hx, wI];try (simp (disch:=omega) only [wI];try simp [vl, GuardD.cells, hlt, hx, wI]))
 |(refine Split.by2 (fun h=>?_) (fun h=>?_)<;>(simp [h, vl, GuardD.cells, hlt, hx, wI];try (simp (disch:=omega) only [wI];try simp [vl, GuardD.cells, hlt, hx, wI])))
 |(apply hK;clear hK K)|refine AWh ‹_› ?_)
    all_goals first
      | exact r1q (cE (by rw [← hF]; simp [greatE, greatG, *]) rfl)
      | (refine ⟨by rw [← hF]; simp [greatE, greatG, *], ?_⟩; apply Weak.mk' <;> simp [vl])
  · intro hF
    repeat' (first
 |refine aK fun K hK=>?_|refine Step.by1 ?_|refine sE (by decide) ?_|refine cz rfl ?_|refine Fork.by2 (fun h=>?_) fun h=>?_
 |(refine aR ?_;simp [vl])
 |(refine Split.by2 (fun h=>?_) (fun h=>?_)<;>(simp [h, vl]))
 |(apply hK;clear hK K)|refine AWh ‹_› ?_)
    exact r1q (cE (by rw [← hF]; simp [greatE]) rfl)
def greatSE (l : List SetD) : Int := if l.any (greatS) then 13 else 0
theorem c_greatSE (l : List SetD) (hl : l.length ≤ 1099511627776) : PC 225 [vl SetD.cells l] (.int .i64 (greatSE l)) := by
  refine pB Tryz.func225 rfl (by decide) Tryz.ntmps225 (by simp) Tryz.results225 ?_
  repeat' (first
 |refine aK fun K hK=>?_|refine Step.by1 ?_|refine sE (by decide) ?_|refine cz rfl ?_|refine Fork.by2 (fun h=>?_) fun h=>?_
 |(refine aR ?_;simp [vl])
 |(refine Split.by2 (fun h=>?_) (fun h=>?_)<;>(simp [h, vl]))
 |(apply hK;clear hK K)|refine AWh ‹_› ?_)
  refine aS1 (l) 7 [5, 6] (greatSE) rfl (by apply Weak.mk' <;> simp [vl]) ?_ ?_
  · intro i x _ hlt hx hF
    repeat' (first
 |refine aK fun K hK=>?_|refine Step.by1 ?_|refine sE (by decide) ?_|refine cz rfl ?_|refine Fork.by2 (fun h=>?_) fun h=>?_
 |(refine aR ?_;simp [vl, SetD.cells, hlt, hx, wI];try (simp (disch:=omega) only [wI];try simp [vl, SetD.cells, hlt, hx, wI]))
 |(refine Split.by2 (fun h=>?_) (fun h=>?_)<;>(simp [h, vl, SetD.cells, hlt, hx, wI];try (simp (disch:=omega) only [wI];try simp [vl, SetD.cells, hlt, hx, wI])))
 |(apply hK;clear hK K)|refine AWh ‹_› ?_)
    all_goals first
      | exact r1q (cE (by rw [← hF]; simp [greatSE, greatS, *]) rfl)
      | (refine ⟨by rw [← hF]; simp [greatSE, greatS, *], ?_⟩; apply Weak.mk' <;> simp [vl])
  · intro hF
    repeat' (first
 |refine aK fun K hK=>?_|refine Step.by1 ?_|refine sE (by decide) ?_|refine cz rfl ?_|refine Fork.by2 (fun h=>?_) fun h=>?_
 |(refine aR ?_;simp [vl])
 |(refine Split.by2 (fun h=>?_) (fun h=>?_)<;>(simp [h, vl]))
 |(apply hK;clear hK K)|refine AWh ‹_› ?_)
    exact r1q (cE (by rw [← hF]; simp [greatSE]) rfl)
def cmpE (l : List GuardD) : Int := if l.any (cmpG) then 7 else 0
theorem c_cmpE (l : List GuardD) (hl : l.length ≤ 1099511627776) : PC 182 [vl GuardD.cells l] (.int .i64 (cmpE l)) := by
  refine pB Tryz.func182 rfl (by decide) Tryz.ntmps182 (by simp) Tryz.results182 ?_
  repeat' (first
 |refine aK fun K hK=>?_|refine Step.by1 ?_|refine sE (by decide) ?_|refine cz rfl ?_|refine Fork.by2 (fun h=>?_) fun h=>?_
 |(refine aR ?_;simp [vl])
 |(refine Split.by2 (fun h=>?_) (fun h=>?_)<;>(simp [h, vl]))
 |(apply hK;clear hK K)|refine AWh ‹_› ?_)
  refine aS1 (l) 7 [5, 6] (cmpE) rfl (by apply Weak.mk' <;> simp [vl]) ?_ ?_
  · intro i x _ hlt hx hF
    repeat' (first
 |refine aK fun K hK=>?_|refine Step.by1 ?_|refine sE (by decide) ?_|refine cz rfl ?_|refine Fork.by2 (fun h=>?_) fun h=>?_
 |(refine aR ?_;simp [vl, GuardD.cells, hlt, hx, wI];try (simp (disch:=omega) only [wI];try simp [vl, GuardD.cells, hlt, hx, wI]))
 |(refine Split.by2 (fun h=>?_) (fun h=>?_)<;>(simp [h, vl, GuardD.cells, hlt, hx, wI];try (simp (disch:=omega) only [wI];try simp [vl, GuardD.cells, hlt, hx, wI])))
 |(apply hK;clear hK K)|refine AWh ‹_› ?_)
    all_goals first
      | exact r1q (cE (by rw [← hF]; simp [cmpE, cmpG, *]) rfl)
      | (refine ⟨by rw [← hF]; simp [cmpE, cmpG, *], ?_⟩; apply Weak.mk' <;> simp [vl])
  · intro hF
    repeat' (first
 |refine aK fun K hK=>?_|refine Step.by1 ?_|refine sE (by decide) ?_|refine cz rfl ?_|refine Fork.by2 (fun h=>?_) fun h=>?_
 |(refine aR ?_;simp [vl])
 |(refine Split.by2 (fun h=>?_) (fun h=>?_)<;>(simp [h, vl]))
 |(apply hK;clear hK K)|refine AWh ‹_› ?_)
    exact r1q (cE (by rw [← hF]; simp [cmpE]) rfl)
def clkE (n : NetD) (l : List GuardD) : Int := if l.any (clkG n) then 12 else 0
theorem c_clkE (n : NetD) (l : List GuardD) (hl : l.length ≤ 1099511627776) : PC 180 [.agg n.cells, vl GuardD.cells l] (.int .i64 (clkE n l)) := by
  refine pB Tryz.func180 rfl (by decide) Tryz.ntmps180 (by simp) Tryz.results180 ?_
  repeat' (first
 |refine aK fun K hK=>?_|refine Step.by1 ?_|refine sE (by decide) ?_|refine cz rfl ?_|refine Fork.by2 (fun h=>?_) fun h=>?_
 |(refine aR ?_;simp [vl, NetD.cells])
 |(refine Split.by2 (fun h=>?_) (fun h=>?_)<;>(simp [h, vl, NetD.cells]))
 |(apply hK;clear hK K)|refine AWh ‹_› ?_)
  refine aS1 (l) 9 [2, 7, 8] (clkE n) rfl (by apply Weak.mk' <;> simp [vl]) ?_ ?_
  · intro i x _ hlt hx hF
    have hc1 := c_isClock n x.clock
    have hc2 := c_isClock n x.other
    simp only [NetD.cells, vl] at hc1 hc2
    generalize hk1 : isClk n x.clock = k1 at hc1
    generalize hk2 : isClk n x.other = k2 at hc2
    repeat' (first
 |refine aK fun K hK=>?_|refine Step.by1 ?_|refine sE (by decide) ?_|refine cz rfl ?_|refine Fork.by2 (fun h=>?_) fun h=>?_
 |((first|refine aR ?_|refine aC (f:=235) rfl rfl (hc1) rfl rfl rfl ?_|refine aC (f:=235) rfl rfl (hc2) rfl rfl rfl ?_);simp [vl, GuardD.cells, NetD.cells, hlt, hx, wI];try (simp (disch:=omega) only [wI];try simp [vl, GuardD.cells, NetD.cells, hlt, hx, wI]))
 |(refine Split.by2 (fun h=>?_) (fun h=>?_)<;>(simp [h, vl, GuardD.cells, NetD.cells, hlt, hx, wI];try (simp (disch:=omega) only [wI];try simp [vl, GuardD.cells, NetD.cells, hlt, hx, wI])))
 |(apply hK;clear hK K)|refine AWh ‹_› ?_)
    all_goals first
      | exact r1q (cE (by rw [← hF]; simp [clkE, clkG, *]) rfl)
      | (refine ⟨by rw [← hF]; simp [clkE, clkG, *], ?_⟩; apply Weak.mk' <;> simp [vl, NetD.cells])
  · intro hF
    repeat' (first
 |refine aK fun K hK=>?_|refine Step.by1 ?_|refine sE (by decide) ?_|refine cz rfl ?_|refine Fork.by2 (fun h=>?_) fun h=>?_
 |(refine aR ?_;simp [vl, NetD.cells])
 |(refine Split.by2 (fun h=>?_) (fun h=>?_)<;>(simp [h, vl, NetD.cells]))
 |(apply hK;clear hK K)|refine AWh ‹_› ?_)
    exact r1q (cE (by rw [← hF]; simp [clkE]) rfl)
def varE (l : List VarD) : Int := if l.any (varV) then 124 else 0
theorem c_varE (n : NetD) (hl : n.vars.length ≤ 1099511627776) : PC 229 [.agg n.cells] (.int .i64 (varE n.vars)) := by
  refine pB Tryz.func229 rfl (by decide) Tryz.ntmps229 (by simp) Tryz.results229 ?_
  repeat' (first
 |refine aK fun K hK=>?_|refine Step.by1 ?_|refine sE (by decide) ?_|refine cz rfl ?_|refine Fork.by2 (fun h=>?_) fun h=>?_
 |(refine aR ?_;simp [vl, NetD.cells])
 |(refine Split.by2 (fun h=>?_) (fun h=>?_)<;>(simp [h, vl, NetD.cells]))
 |(apply hK;clear hK K)|refine AWh ‹_› ?_)
  refine aS1 (n.vars) 8 [6, 7] (varE) rfl (by apply Weak.mk' <;> simp [vl]) ?_ ?_
  · intro i x _ hlt hx hF
    repeat' (first
 |refine aK fun K hK=>?_|refine Step.by1 ?_|refine sE (by decide) ?_|refine cz rfl ?_|refine Fork.by2 (fun h=>?_) fun h=>?_
 |(refine aR ?_;simp [vl, VarD.cells, NetD.cells, hlt, hx, wI];try (simp (disch:=omega) only [wI];try simp [vl, VarD.cells, NetD.cells, hlt, hx, wI]))
 |(refine Split.by2 (fun h=>?_) (fun h=>?_)<;>(simp [h, vl, VarD.cells, NetD.cells, hlt, hx, wI];try (simp (disch:=omega) only [wI];try simp [vl, VarD.cells, NetD.cells, hlt, hx, wI])))
 |(apply hK;clear hK K)|refine AWh ‹_› ?_)
    all_goals first
      | exact r1q (cE (by rw [← hF]; simp [varE, varV, *]) rfl)
      | (refine ⟨by rw [← hF]; simp [varE, varV, *], ?_⟩; apply Weak.mk' <;> simp [vl, NetD.cells])
  · intro hF
    repeat' (first
 |refine aK fun K hK=>?_|refine Step.by1 ?_|refine sE (by decide) ?_|refine cz rfl ?_|refine Fork.by2 (fun h=>?_) fun h=>?_
 |(refine aR ?_;simp [vl, NetD.cells])
 |(refine Split.by2 (fun h=>?_) (fun h=>?_)<;>(simp [h, vl, NetD.cells]))
 |(apply hK;clear hK K)|refine AWh ‹_› ?_)
    exact r1q (cE (by rw [← hF]; simp [varE]) rfl)
def anyL {α : Type} (p : α → Bool) (l : List α) : Bool := l.any p
theorem anyL_nil {α : Type} {p : α → Bool} : anyL p [] = false := rfl
theorem anC {α : Type} {p : α → Bool} {x : α} {l : List α} : anyL p (x :: l) = (p x || anyL p l) := rfl
def noLocs (a : AutoD) : Bool := decide (a.locs.length = 0)
theorem c_some1 (a : AutoD) : PC 264 [.agg a.cells] (.bool (noLocs a)) := by
  refine pB Tryz.func264 rfl (by decide) Tryz.ntmps264 (by simp) Tryz.results264 ?_
  repeat' (first
 |refine aK fun K hK=>?_|refine Step.by1 ?_|refine sE (by decide) ?_|refine cz rfl ?_|refine Fork.by2 (fun h=>?_) fun h=>?_
 |(refine aR ?_;simp [vl, AutoD.cells])
 |(refine Split.by2 (fun h=>?_) (fun h=>?_)<;>(simp [h, vl, AutoD.cells]))
 |(apply hK;clear hK K)|refine AWh ‹_› ?_)
  exact r1q (cE (by simp [noLocs]) rfl)
theorem c_indexNoLocs (l : List AutoD) (hl : l.length ≤ 1099511627776) : ∃ k : Int, PC 276 [vl AutoD.cells l, .fn (.func 264) [] []] (.int .i64 k) ∧ (0 ≤ k ↔ anyL noLocs l = true) := by
  by_cases hk : anyL noLocs l = true
  · -- the first one
    obtain ⟨i0, h1, h2, h3⟩ : ∃ i0, ∃ h : i0 < l.length, noLocs l[i0] = true ∧ ∀ j (hj : j < i0), noLocs (l[j]'(by omega)) = false := by
      have hx : ∃ x ∈ l, noLocs x = true := by unfold anyL at hk; rw [List.any_eq_true] at hk; exact hk
      have hlt := List.findIdx_lt_length.2 hx
      exact ⟨l.findIdx noLocs, hlt, List.findIdx_getElem (w := hlt), fun j hj => by simpa using List.not_of_lt_findIdx hj⟩
    refine ⟨i0, ?_, ⟨fun _ => hk, fun _ => by omega⟩⟩
    refine pB Tryz.func276 rfl (by decide) Tryz.ntmps276 (by simp) Tryz.results276 ?_
    repeat' (first
 |refine aK fun K hK=>?_|refine Step.by1 ?_|refine sE (by decide) ?_|refine cz rfl ?_|refine Fork.by2 (fun h=>?_) fun h=>?_
 |(refine aR ?_;simp [vl])
 |(refine Split.by2 (fun h=>?_) (fun h=>?_)<;>(simp [h, vl]))
 |(apply hK;clear hK K)|refine AWh ‹_› ?_)
    refine aL [0, 1, 7] (fun i : Nat => [(8, .int .i64 i)]) (fun _ => []) (fun i => i ≤ i0) (fun i => l.length - i) 0 (Nat.zero_le _) (by apply Weak.mk' <;> simp [vl]) (fun _ _ => rfl) ?_
    intro i hi
    have hlt : i < l.length := by omega
    have hc := c_some1 l[i]
    have hv : noLocs l[i] = decide (i = i0) := by
      by_cases he : i = i0
      · subst he; simp [h2]
      · simp [he, h3 i (by omega)]
    obtain ⟨x, hx⟩ : ∃ x, l[i] = x := ⟨_, rfl⟩
    rw [hx] at hc hv
    rw [hv] at hc
    simp only [AutoD.cells, vl] at hc
    repeat' (first
 |refine aK fun K hK=>?_|refine Step.by1 ?_|refine sE (by decide) ?_|refine cz rfl ?_|refine Fork.by2 (fun h=>?_) fun h=>?_
 |((first|refine aR ?_|refine aC (f:=264) rfl rfl (hc) rfl rfl rfl ?_);simp [vl, AutoD.cells, hlt, hx, wI];try (simp (disch:=omega) only [wI];try simp [vl, AutoD.cells, hlt, hx, wI]))
 |(refine Split.by2 (fun h=>?_) (fun h=>?_)<;>(simp [h, vl, AutoD.cells, hlt, hx, wI];try (simp (disch:=omega) only [wI];try simp [vl, AutoD.cells, hlt, hx, wI])))
 |(apply hK;clear hK K)|refine AWh ‹_› ?_)
    all_goals first
      | exact r1q (cE (by simp [*]) rfl)
      | (refine ⟨i + 1, by omega, by omega, ?_⟩; apply Weak.mk' <;> simp [vl])
  · refine ⟨-1, ?_, ⟨fun h => by omega, fun h => absurd h hk⟩⟩
    have hall : ∀ i (h : i < l.length), noLocs l[i] = false := fun i h => by
      cases hh : noLocs l[i]
      · rfl
      · exact absurd (by unfold anyL; exact List.any_eq_true.2 ⟨_, List.getElem_mem h, hh⟩) hk
    refine pB Tryz.func276 rfl (by decide) Tryz.ntmps276 (by simp) Tryz.results276 ?_
    repeat' (first
 |refine aK fun K hK=>?_|refine Step.by1 ?_|refine sE (by decide) ?_|refine cz rfl ?_|refine Fork.by2 (fun h=>?_) fun h=>?_
 |(refine aR ?_;simp [vl])
 |(refine Split.by2 (fun h=>?_) (fun h=>?_)<;>(simp [h, vl]))
 |(apply hK;clear hK K)|refine AWh ‹_› ?_)
    refine aL [0, 1, 7] (fun i : Nat => [(8, .int .i64 i)]) (fun _ => []) (fun i => i ≤ l.length) (fun i => l.length - i) 0 (Nat.zero_le _) (by apply Weak.mk' <;> simp [vl]) (fun _ _ => rfl) ?_
    intro i hi
    by_cases hlt : i < l.length
    · have hc := c_some1 l[i]
      rw [hall i hlt] at hc
      obtain ⟨x, hx⟩ : ∃ x, l[i] = x := ⟨_, rfl⟩
      rw [hx] at hc
      simp only [AutoD.cells, vl] at hc
      repeat' (first
 |refine aK fun K hK=>?_|refine Step.by1 ?_|refine sE (by decide) ?_|refine cz rfl ?_|refine Fork.by2 (fun h=>?_) fun h=>?_
 |((first|refine aR ?_|refine aC (f:=264) rfl rfl (hc) rfl rfl rfl ?_);simp [vl, AutoD.cells, hlt, hx, wI];try (simp (disch:=omega) only [wI];try simp [vl, AutoD.cells, hlt, hx, wI]))
 |(refine Split.by2 (fun h=>?_) (fun h=>?_)<;>(simp [h, vl, AutoD.cells, hlt, hx, wI];try (simp (disch:=omega) only [wI];try simp [vl, AutoD.cells, hlt, hx, wI])))
 |(apply hK;clear hK K)|refine AWh ‹_› ?_)
      refine ⟨i + 1, by omega, by omega, ?_⟩; apply Weak.mk' <;> simp [vl]
    · repeat' (first
 |refine aK fun K hK=>?_|refine Step.by1 ?_|refine sE (by decide) ?_|refine cz rfl ?_|refine Fork.by2 (fun h=>?_) fun h=>?_
 |(refine aR ?_;simp [vl, hlt])
 |(refine Split.by2 (fun h=>?_) (fun h=>?_)<;>(simp [h, vl, hlt]))
 |(apply hK;clear hK K)|refine AWh ‹_› ?_)
      exact r1q (cE rfl rfl)
def someE (n : NetD) : Int := if n.autos.length = 0 ∨ anyL noLocs n.autos = true then 2 else 0
theorem c_someE (n : NetD) (hl : n.autos.length ≤ 1099511627776) : PC 226 [.agg n.cells] (.int .i64 (someE n)) := by
  obtain ⟨k, hk, hk'⟩ := c_indexNoLocs n.autos hl
  have hcf : PC 263 [vl AutoD.cells n.autos, .fn (.func 264) [] []] (.bool (anyL noLocs n.autos)) := by
    simp only [vl] at hk
    refine pB Tryz.func263 rfl (by decide) Tryz.ntmps263 (by simp) Tryz.results263 ?_
    repeat' (first
 |refine aK fun K hK=>?_|refine Step.by1 ?_|refine sE (by decide) ?_|refine cz rfl ?_|refine Fork.by2 (fun h=>?_) fun h=>?_
 |((first|refine aR ?_|refine aC (f:=276) rfl rfl (hk) rfl rfl rfl ?_);simp [vl])
 |(refine Split.by2 (fun h=>?_) (fun h=>?_)<;>(simp [h, vl]))
 |(apply hK;clear hK K)|refine AWh ‹_› ?_)
    exact r1q (cE (by simp; rw [Bool.eq_iff_iff]; simp [hk']) rfl)
  simp only [vl] at hcf
  refine pB Tryz.func226 rfl (by decide) Tryz.ntmps226 (by simp) Tryz.results226 ?_
  repeat' (first
 |refine aK fun K hK=>?_|refine Step.by1 ?_|refine sE (by decide) ?_|refine cz rfl ?_|refine Fork.by2 (fun h=>?_) fun h=>?_
 |((first|refine aR ?_|refine aC (f:=263) rfl rfl (hcf) rfl rfl rfl ?_);simp [vl, NetD.cells])
 |(refine Split.by2 (fun h=>?_) (fun h=>?_)<;>(simp [h, vl, NetD.cells]))
 |(apply hK;clear hK K)|refine AWh ‹_› ?_)
  all_goals first
    | exact r1q (cE (by simp [someE, *]) rfl)
def kindB (x : LocD) : Bool := decide (2 < x.kind)
def locsE (l : List AutoD) : Int := if anyL (fun a => anyL kindB a.locs) l then 122 else 0
theorem locsE_cons {a : AutoD} {l : List AutoD} : locsE (a :: l) = if anyL kindB a.locs = true then 122 else locsE l := by
  by_cases h : anyL kindB a.locs = true <;> simp [locsE, anC, h]
theorem c_locs (n : NetD) (hl : n.autos.length ≤ 1099511627776) (hl2 : ∀ a ∈ n.autos, a.locs.length ≤ 1099511627776) : PC 230 [.agg n.cells] (.int .i64 (locsE n.autos)) := by
  refine pB Tryz.func230 rfl (by decide) Tryz.ntmps230 (by simp) Tryz.results230 ?_
  repeat' (first
 |refine aK fun K hK=>?_|refine Step.by1 ?_|refine sE (by decide) ?_|refine cz rfl ?_|refine Fork.by2 (fun h=>?_) fun h=>?_
 |(refine aR ?_;simp [vl, NetD.cells])
 |(refine Split.by2 (fun h=>?_) (fun h=>?_)<;>(simp [h, vl, NetD.cells]))
 |(apply hK;clear hK K)|refine AWh ‹_› ?_)
  refine aS1 (n.autos) 10 [8, 9] (locsE) rfl (by apply Weak.mk' <;> simp [vl]) ?_ ?_
  · intro i a _ hlt ha hF
    have hll := hl2 a (ha ▸ List.getElem_mem hlt)
    rw [locsE_cons] at hF
    repeat' (first
 |refine aK fun K hK=>?_|refine Step.by1 ?_|refine sE (by decide) ?_|refine cz rfl ?_|refine Fork.by2 (fun h=>?_) fun h=>?_
 |(refine aR ?_;simp [vl, AutoD.cells, hlt, ha, wI];try (simp (disch:=omega) only [wI];try simp [vl, AutoD.cells, hlt, ha, wI]))
 |(refine Split.by2 (fun h=>?_) (fun h=>?_)<;>(simp [h, vl, AutoD.cells, hlt, ha, wI];try (simp (disch:=omega) only [wI];try simp [vl, AutoD.cells, hlt, ha, wI])))
 |(apply hK;clear hK K)|refine AWh ‹_› ?_)
    refine aS1 (a.locs) 17 [8, 9, 10, 15, 16] (anyL kindB) rfl (by apply Weak.mk' <;> simp [vl]) ?_ ?_
    · intro k x _ hkt hx hG
      rw [anC] at hG
      repeat' (first
 |refine aK fun K hK=>?_|refine Step.by1 ?_|refine sE (by decide) ?_|refine cz rfl ?_|refine Fork.by2 (fun h=>?_) fun h=>?_
 |(refine aR ?_;simp [vl, LocD.cells, hkt, hx, wI];try (simp (disch:=omega) only [wI];try simp [vl, LocD.cells, hkt, hx, wI]))
 |(refine Split.by2 (fun h=>?_) (fun h=>?_)<;>(simp [h, vl, LocD.cells, hkt, hx, wI];try (simp (disch:=omega) only [wI];try simp [vl, LocD.cells, hkt, hx, wI])))
 |(apply hK;clear hK K)|refine AWh ‹_› ?_)
      all_goals first
        | exact r1q (cE (by rw [← hF, ← hG]; simp [kindB, *]) rfl)
        | (refine ⟨by rw [← hG]; simp [kindB, *], ?_⟩; apply Weak.mk' <;> simp [vl])
    · intro hG
      repeat' (first
 |refine aK fun K hK=>?_|refine Step.by1 ?_|refine sE (by decide) ?_|refine cz rfl ?_|refine Fork.by2 (fun h=>?_) fun h=>?_
 |(refine aR ?_;simp [vl, wI];try (simp (disch:=omega) only [wI];try simp [vl, wI]))
 |(refine Split.by2 (fun h=>?_) (fun h=>?_)<;>(simp [h, vl, wI];try (simp (disch:=omega) only [wI];try simp [vl, wI])))
 |(apply hK;clear hK K)|refine AWh ‹_› ?_)
      all_goals first
        | (refine ⟨by rw [← hF, ← hG]; simp [anyL_nil], ?_⟩; apply Weak.mk' <;> simp [vl])
  · intro hF
    repeat' (first
 |refine aK fun K hK=>?_|refine Step.by1 ?_|refine sE (by decide) ?_|refine cz rfl ?_|refine Fork.by2 (fun h=>?_) fun h=>?_
 |(refine aR ?_;simp [vl])
 |(refine Split.by2 (fun h=>?_) (fun h=>?_)<;>(simp [h, vl]))
 |(apply hK;clear hK K)|refine AWh ‹_› ?_)
    exact r1q (cE (by rw [← hF]; simp [locsE, anyL_nil]) rfl)
end Go.Proofs.YtbgooadmonnjaaaGreatDoor
end
section
set_option maxRecDepth 100000
namespace Go.Proofs.YtbgooadmonnjaaaGreatDoor
open Go.AM
namespace Fx
@[simp] theorem by1 : bytesOf Tryz.prog 1 = 8 := by kernel_rfl
@[simp] theorem zo104 : (zeroOf Tryz.prog 104).isSome = true := by kernel_rfl
@[simp] theorem zd104 : zeroD Tryz.prog 104 = [.nilf] := by kernel_rfl
@[simp] theorem zo121 : (zeroOf Tryz.prog 121).isSome = true := by kernel_rfl
@[simp] theorem zd121 : zeroD Tryz.prog 121 = [.nilf] := by kernel_rfl
@[simp] theorem zo194 : (zeroOf Tryz.prog 194).isSome = true := by kernel_rfl
@[simp] theorem zd194 : zeroD Tryz.prog 194 = [.nilf] := by kernel_rfl
@[simp] theorem zo266 : (zeroOf Tryz.prog 266).isSome = true := by kernel_rfl
@[simp] theorem zd266 : zeroD Tryz.prog 266 = [.nilf] := by kernel_rfl
end Fx
end Go.Proofs.YtbgooadmonnjaaaGreatDoor
end
section
set_option linter.unusedSimpArgs false
set_option linter.unusedVariables false
namespace Go.Proofs.YtbgooadmonnjaaaGreatDoor
open Go Go.AM Fx
def firstAt {α : Type} (f : α → Int) : List α → Nat → Option (Nat × Int)
  | [], _ => none
  | x :: r, i => if f x ≠ 0 then some (i, f x) else firstAt f r (i + 1)
theorem firstAt_nil {α : Type} {f : α → Int} {i : Nat} : firstAt f [] i = none := rfl
theorem firstAt_cons {α : Type} {f : α → Int} {x : α} {r : List α} {i : Nat} : firstAt f (x :: r) i = if f x ≠ 0 then some (i, f x) else firstAt f r (i + 1) := rfl
def spotV (a l e : Int) : V := .agg [.int .i64 a, .int .i64 l, .int .i64 e]
/-- An automaton's first wrong place. -/
def searchA (pl : LocD → Int) (pe : EdgeD → Int) (a : AutoD) : Option ((Int × Int) × Int) := match firstAt pl a.locs 0 with
  | some (k, e) => some (((k : Int), -1), e)
  | none => match firstAt pe a.edges 0 with
    | some (k, e) => some ((-1, (k : Int)), e)
    | none => none
def searchE (pl : LocD → Int) (pe : EdgeD → Int) : List AutoD → Nat → (Int × Int × Int) × Int
  | [], _ => ((0, 0, 0), 0)
  | a :: r, i => match searchA pl pe a with
    | some ((l, k), e) => ((i, l, k), e)
    | none => searchE pl pe r (i + 1)
def spotE (x : (Int × Int × Int) × Int) : V := .tup [spotV x.1.1 x.1.2.1 x.1.2.2, .int .i64 x.2]
theorem searchE_nil {pl : LocD → Int} {pe : EdgeD → Int} {i : Nat} : searchE pl pe [] i = ((0, 0, 0), 0) := rfl
theorem searchE_cons {pl : LocD → Int} {pe : EdgeD → Int} {a : AutoD} {r : List AutoD} {i : Nat} : searchE pl pe (a :: r) i = match searchA pl pe a with
    | some ((l, k), e) => ((i, l, k), e)
    | none => searchE pl pe r (i + 1) := rfl
set_option maxRecDepth 20000 in
set_option maxHeartbeats 8000000 in
theorem c_search (n : NetD) (hn : n.ok) (fl fe : Nat) (pl : LocD → Int) (pe : EdgeD → Int) (hl : ∀ a ∈ n.autos, ∀ x ∈ a.locs, PC fl [.agg x.cells] (.int .i64 (pl x))) (he : ∀ a ∈ n.autos, ∀ x ∈ a.edges, PC fe [.agg x.cells] (.int .i64 (pe x))) :
    PC 220 [.agg n.cells, .fn (.func fl) [] [], .fn (.func fe) [] []] (spotE (searchE pl pe n.autos 0)) := by
  obtain ⟨_, _, _, h4, h5⟩ := hn
  obtain ⟨r, hr⟩ : ∃ r, searchE pl pe n.autos 0 = r := ⟨_, rfl⟩
  rw [hr]
  refine pB Tryz.func220 rfl (by decide) Tryz.ntmps220 (by simp) Tryz.results220 ?_
  repeat' (first
 |refine aK fun K hK=>?_|refine Step.by1 ?_|refine sE (by decide) ?_|refine cz rfl ?_|refine Fork.by2 (fun h=>?_) fun h=>?_
 |(refine aR ?_;simp [vl, NetD.cells])
 |(refine Split.by2 (fun h=>?_) (fun h=>?_)<;>(simp [h, vl, NetD.cells]))
 |(apply hK;clear hK K)|refine AWh ‹_› ?_)
  refine AW_range (r := r) n.autos 19 [1, 2, 6, 17, 18] (fun c : Nat => []) (fun _ => [.var n.cells, .var [.int .i64 0, .int .i64 0, .int .i64 0]]) (fun i c => c = i) (searchE pl pe) 0
    hr rfl (by apply Weak.mk' <;> simp [vl, NetD.cells]) (fun _ _ _ => rfl) ?_ ?_
  · intro i c a _ hlt ha hJ hF
    subst hJ
    rw [searchE_cons] at hF
    have hm : a ∈ n.autos := ha ▸ List.getElem_mem hlt
    have hoa := h5 a hm
    obtain ⟨_, ⟨hl1, hl2⟩, he1, he2⟩ := hoa
    have hlt' : (c : Int) < n.autos.length := by omega
    have w0 : IntKind.i64.wrap ((c : Int) + 1) = c + 1 := wI (by omega) (by omega)
    have hsA : searchA pl pe a = match firstAt pl a.locs 0 with
      | some (k, e) => some (((k : Int), -1), e)
      | none => match firstAt pe a.edges 0 with
        | some (k, e) => some ((-1, (k : Int)), e)
        | none => none := rfl
    obtain ⟨ra, hra⟩ : ∃ ra, firstAt pl a.locs 0 = ra := ⟨_, rfl⟩
    obtain ⟨re, hre⟩ : ∃ re, firstAt pe a.edges 0 = re := ⟨_, rfl⟩
    rw [hra, hre] at hsA
    rw [hsA] at hF
    clear hsA
    repeat' (first
 |refine aK fun K hK=>?_|refine Step.by1 ?_|refine sE (by decide) ?_|refine cz rfl ?_|refine Fork.by2 (fun h=>?_) fun h=>?_
 |(refine aR ?_;simp [vl, NetD.cells, AutoD.cells, hlt, hlt', ha])
 |(refine Split.by2 (fun h=>?_) (fun h=>?_)<;>(simp [h, vl, NetD.cells, AutoD.cells, hlt, hlt', ha]))
 |(apply hK;clear hK K)|refine AWh ‹_› ?_)
    refine AW_range (r := ra) a.locs 27 [1, 2, 6, 8, 9, 17, 18, 19, 25, 26] (fun c : Nat => []) (fun _ => [.var n.cells, .var [.int .i64 0, .int .i64 0, .int .i64 0], .var a.cells]) (fun i c => c = i) (firstAt pl) 0
      hra rfl (by apply Weak.mk' <;> simp [vl, NetD.cells, AutoD.cells]) (fun _ _ _ => rfl) ?_ ?_
    · intro k q x _ hkt hx hJ hG
      subst hJ
      rw [firstAt_cons] at hG
      have hc := hl a hm x (hx ▸ List.getElem_mem hkt)
      have hkt' : (q : Int) < a.locs.length := by omega
      have w1 : IntKind.i64.wrap ((q : Int) + 1) = q + 1 := wI (by omega) (by omega)
      simp only [LocD.cells, vl] at hc
      by_cases hz : pl x = 0
      · rw [if_neg (by simp [hz])] at hG
        rw [hz] at hc
        repeat' (first
 |refine aK fun K hK=>?_|refine Step.by1 ?_|refine sE (by decide) ?_|refine cz rfl ?_|refine Fork.by2 (fun h=>?_) fun h=>?_
 |(refine aR ?_;simp [vl, NetD.cells, AutoD.cells, LocD.cells, hkt, hkt', hx, w1])
 |(refine Split.by2 (fun h=>?_) (fun h=>?_)<;>(simp [h, vl, NetD.cells, AutoD.cells, LocD.cells, hkt, hkt', hx, w1]))
 |(refine aC (f := fl) rfl rfl hc rfl rfl rfl ?_; simp)
 |(apply hK;clear hK K)|refine AWh ‹_› ?_)
        exact ⟨q + 1, hG, rfl, by apply Weak.mk' <;> simp [vl, NetD.cells, AutoD.cells]⟩
      · rw [if_pos hz] at hG
        subst hG
        simp only at hF
        repeat' (first
 |refine aK fun K hK=>?_|refine Step.by1 ?_|refine sE (by decide) ?_|refine cz rfl ?_|refine Fork.by2 (fun h=>?_) fun h=>?_
 |(refine aR ?_;simp [vl, NetD.cells, AutoD.cells, LocD.cells, hkt, hkt', hx, w1, hz])
 |(refine Split.by2 (fun h=>?_) (fun h=>?_)<;>(simp [h, vl, NetD.cells, AutoD.cells, LocD.cells, hkt, hkt', hx, w1, hz]))
 |(refine aC (f := fl) rfl rfl hc rfl rfl rfl ?_; simp [hz])
 |(apply hK;clear hK K)|refine AWh ‹_› ?_)
        exact retq2ct rfl (by simp) (cE (by rw [← hF]; simp [spotE, spotV]) (by simp))
    · intro q hJ hG
      rw [firstAt_nil] at hG
      subst hG
      simp only at hF
      repeat' (first
 |refine aK fun K hK=>?_|refine Step.by1 ?_|refine sE (by decide) ?_|refine cz rfl ?_|refine Fork.by2 (fun h=>?_) fun h=>?_
 |(refine aR ?_;simp [vl, NetD.cells, AutoD.cells])
 |(refine Split.by2 (fun h=>?_) (fun h=>?_)<;>(simp [h, vl, NetD.cells, AutoD.cells]))
 |(apply hK;clear hK K)|refine AWh ‹_› ?_)
      refine AW_range (r := re) a.edges 45 [1, 2, 6, 8, 17, 18, 19, 43, 44] (fun c : Nat => []) (fun _ => [.var n.cells, .var [.int .i64 0, .int .i64 0, .int .i64 0], .var a.cells]) (fun i c => c = i) (firstAt pe) 0
        hre rfl (by apply Weak.mk' <;> simp [vl, NetD.cells, AutoD.cells]) (fun _ _ _ => rfl) ?_ ?_
      · intro k q2 y _ hkt hy hJ2 hG
        subst hJ2
        rw [firstAt_cons] at hG
        have hc := he a hm y (hy ▸ List.getElem_mem hkt)
        have hkt' : (q2 : Int) < a.edges.length := by omega
        have w1 : IntKind.i64.wrap ((q2 : Int) + 1) = q2 + 1 := wI (by omega) (by omega)
        simp only [EdgeD.cells, vl] at hc
        by_cases hz : pe y = 0
        · rw [if_neg (by simp [hz])] at hG
          rw [hz] at hc
          repeat' (first
 |refine aK fun K hK=>?_|refine Step.by1 ?_|refine sE (by decide) ?_|refine cz rfl ?_|refine Fork.by2 (fun h=>?_) fun h=>?_
 |(refine aR ?_;simp [vl, NetD.cells, AutoD.cells, EdgeD.cells, hkt, hkt', hy, w1])
 |(refine Split.by2 (fun h=>?_) (fun h=>?_)<;>(simp [h, vl, NetD.cells, AutoD.cells, EdgeD.cells, hkt, hkt', hy, w1]))
 |(refine aC (f := fe) rfl rfl hc rfl rfl rfl ?_; simp)
 |(apply hK;clear hK K)|refine AWh ‹_› ?_)
          exact ⟨q2 + 1, hG, rfl, by apply Weak.mk' <;> simp [vl, NetD.cells, AutoD.cells]⟩
        · rw [if_pos hz] at hG
          subst hG
          simp only at hF
          repeat' (first
 |refine aK fun K hK=>?_|refine Step.by1 ?_|refine sE (by decide) ?_|refine cz rfl ?_|refine Fork.by2 (fun h=>?_) fun h=>?_
 |(refine aR ?_;simp [vl, NetD.cells, AutoD.cells, EdgeD.cells, hkt, hkt', hy, w1, hz])
 |(refine Split.by2 (fun h=>?_) (fun h=>?_)<;>(simp [h, vl, NetD.cells, AutoD.cells, EdgeD.cells, hkt, hkt', hy, w1, hz]))
 |(refine aC (f := fe) rfl rfl hc rfl rfl rfl ?_; simp [hz])
 |(apply hK;clear hK K)|refine AWh ‹_› ?_)
          exact retq2ct rfl (by simp) (cE (by rw [← hF]; simp [spotE, spotV]) (by simp))
      · intro q2 hJ2 hG
        rw [firstAt_nil] at hG
        subst hG
        simp only at hF
        repeat' (first
 |refine aK fun K hK=>?_|refine Step.by1 ?_|refine sE (by decide) ?_|refine cz rfl ?_|refine Fork.by2 (fun h=>?_) fun h=>?_
 |(refine aR ?_;simp [vl, NetD.cells, AutoD.cells, w0])
 |(refine Split.by2 (fun h=>?_) (fun h=>?_)<;>(simp [h, vl, NetD.cells, AutoD.cells, w0]))
 |(apply hK;clear hK K)|refine AWh ‹_› ?_)
        exact ⟨c + 1, hF, rfl, by apply Weak.mk' <;> simp [vl, NetD.cells]⟩
  · intro c hJ hF
    rw [searchE_nil] at hF
    repeat' (first
 |refine aK fun K hK=>?_|refine Step.by1 ?_|refine sE (by decide) ?_|refine cz rfl ?_|refine Fork.by2 (fun h=>?_) fun h=>?_
 |(refine aR ?_;simp [vl, NetD.cells])
 |(refine Split.by2 (fun h=>?_) (fun h=>?_)<;>(simp [h, vl, NetD.cells]))
 |(apply hK;clear hK K)|refine AWh ‹_› ?_)
    exact retq2ct rfl (by simp) (cE (by rw [← hF]; simp [spotE, spotV]) (by simp))
end Go.Proofs.YtbgooadmonnjaaaGreatDoor
end
