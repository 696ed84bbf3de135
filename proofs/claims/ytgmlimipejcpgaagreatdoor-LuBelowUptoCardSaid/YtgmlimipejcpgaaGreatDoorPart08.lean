/-
  YtgmlimipejcpgaaGreatDoorPart08: steps of the proof of a law of the program: what these texts prove holds under the hypotheses that their theorems name, and no others.
-/
import Derived.Test.YtgmlimipejcpgaaGreatDoorPart07
import Derived.Test.YtgmlimipejcpgaaGreatDoorProg
import Derived.Test.YtgmlimipejcpgaaGreatDoorPart04
import Derived.KernelRfl
section
set_option linter.unusedVariables false
set_option linter.unusedSimpArgs false
namespace Go.AM
section
variable {P : Program} {ge : GEnv} {st : St} {Q : Exit → St → Prop} {G : Gh} {w : World}
/-- A variable's cell is told otherwise. -/
theorem RH_retell {h : List B} (rh : RH P ge G h w) {b0 j : Nat} {cs : List V} {v : V} (hb : h[b0]? = some (.var cs))
    (hv : ∀ (c : Value) (u : V), cs[j]? = some u → R G w false u c → c.oneCell' = true → R G w false v c) :
    RH P ge G (h.set b0 (.var (cs.set j v))) w ∧ Ext G h w G (h.set b0 (.var (cs.set j v))) w := by
  obtain ⟨h00, k, arr, T, hm, hh, hfz, hs, hcells⟩ := rh.bl b0 _ hb
  refine RH_upd (w' := w) rh hb hm rfl (fun _ _ => rfl) rfl ⟨rfl, rfl⟩ (.refl _ _) ⟨h00, k, arr, T, hm, hh, hfz, by simp [hs], fun i u hu => ?_⟩ hm
  rw [List.getElem?_set] at hu
  split at hu
  · rename_i e
    subst e
    split at hu
    · rename_i hj
      cases hu
      have := hcells j cs[j] (List.getElem?_eq_getElem hj)
      exact ⟨this.1, hv _ _ (List.getElem?_eq_getElem hj) this.2 this.1⟩
    · cases hu
  · exact hcells i u hu
/-- A nil slice in a variable's cell, as an empty row of one's own. -/
theorem AW_nilcell {c : Code} (b0 j : Nat) (T : TypeId) {cs : List V} (h0 : st.h[b0]? = some (.var cs)) (hj : cs[j]? = some .nils) (hT : 0 < szOf P T)
    (h : AW P ge c Q { st with h := (st.h ++ [B.row T 0 0 true []]).set b0 (.var (cs.set j (.ref st.h.length 0 0 0))) }) : AW P ge c Q st := by
  intro G a w hr
  have hk : ∀ k', (G.push none (szOf P T) 0).at G.n (.row T 0 0 true []) = some k' → w.heap.size ≤ k' := fun k' h => by
    simp [Gh.at, Gh.push] at h
  have hrb : RB P (G.push none (szOf P T) 0) w G.n (.row T 0 0 true []) := ⟨by simp [Gh.push], Nat.zero_le _, by simp [Gh.push, hT], .inl ⟨by simp [Gh.push], rfl⟩⟩
  have rh := hr.rh.push (.refl w) hrb hk
  have ext := Ext.push hr.rh (.refl w) hk
  have hlt : b0 < st.h.length := (List.getElem?_eq_some_iff.1 h0).1
  have h0' : (st.h ++ [B.row T 0 0 true []])[b0]? = some (.var cs) := by rw [List.getElem?_append_left hlt]; exact h0
  obtain ⟨rh2, x2⟩ := RH_retell (j := j) (v := .ref st.h.length 0 0 0) rh h0' (fun c u hu hc ho => by
    rw [hj] at hu; cases hu
    cases hc
    rw [hr.rh.n]
    exact .refn (by simp [Gh.push]) (by simp [Gh.push]) (by simp [Gh.push]))
  exact wp_mono (h _ a w ⟨rh2, fun t => (hr.tm t).mono ext.le, hr.n, hr.d⟩) fun _ _ _ hp => hp.mono (ext.trans x2) fun _ _ h => h
end
end Go.AM
end

section
set_option linter.unusedVariables false
set_option linter.unusedSimpArgs false
namespace Go.AM
section
variable {P : Program} {ge : GEnv} {st st' : St} {Q : Exit → St → Prop} {ops : Array Oper}
theorem get_ext {h e : List B} {b : Nat} (hb : b < h.length) : (h ++ e)[b]? = h[b]? := List.getElem?_append_left hb
theorem place_ext {h e : List B} {v : V} (hv : v.lt h.length = true) : place (h ++ e) v = place h v := by
  cases v <;> simp only [place]
  all_goals (simp only [V.lt, decide_eq_true_eq] at hv; rw [get_ext hv])
/-- Blocks laid behind the heap change no operation that does not look at them. -/
theorem op_ext {op : Op} (hs : stillOp op = true) (e : List B) (hl : ∀ x ∈ op.operands, (ev ge st.tm x).lt st.h.length = true) (ho : opOk P ge st op) :
    opOk P ge ⟨st.n, st.tm, st.h ++ e⟩ op ∧ (opVal P ge ⟨st.n, st.tm, st.h ++ e⟩ op).1 = (opVal P ge st op).1 := by
  unfold stillOp at hs
  split at hs
  case h_5 T x =>
    have := hl x (by simp [Op.operands])
    simp only [opOk, opVal, loadGood, loadVal] at ho ⊢
    rw [place_ext this]; exact ⟨ho, rfl⟩
  case h_9 s T x =>
    have := hl x (by simp [Op.operands])
    simp only [opOk, opVal] at ho ⊢
    generalize ev ge st.tm x = v at *
    cases v <;> first
      | exact ⟨ho, rfl⟩
      | (have hb := of_decide_eq_true this
         simp only [convGood, convVal, get_ext hb] at ho ⊢
         first | exact ⟨ho, rfl⟩ | exact ⟨ho, trivial⟩)
  case h_11 s x y =>
    have := hl x (by simp [Op.operands])
    simp only [opOk, opVal] at ho ⊢
    generalize ev ge st.tm x = v at *
    cases v <;> first
      | exact ⟨ho, rfl⟩
      | (have hb := of_decide_eq_true this
         simp only [idxGood, idxVal, get_ext hb] at ho ⊢
         first | exact ⟨ho, rfl⟩ | exact ⟨ho, trivial⟩)
  case h_15 T x lo hi =>
    have := hl x (by simp [Op.operands])
    simp only [opOk, opVal] at ho ⊢
    generalize ev ge st.tm x = v at *
    cases v <;> first
      | exact ⟨ho, rfl⟩
      | (have hb := of_decide_eq_true this
         simp only [sliceGood, sliceVal, get_ext hb] at ho ⊢
         first | exact ⟨ho, rfl⟩ | exact ⟨ho, trivial⟩)
  all_goals first
    | exact ⟨ho, rfl⟩
    | cases hs
theorem Core.ext {op : Op} {v : V} (e : List B) (hl : ∀ x ∈ op.operands, (ev ge st.tm x).lt st.h.length = true) (hc : Core P ge st op v) : Core P ge ⟨st.n, st.tm, st.h ++ e⟩ op v := by
  rcases hc with ⟨h1, h2, h3⟩ | h
  · obtain ⟨h4, h5⟩ := op_ext h1 e hl h2
    exact .inl ⟨h1, h4, h3.trans h5.symm⟩
  · rcases h with h | h | ⟨x, xs, ts, f, args', rfl, h1, h2, h3, h4⟩
    · exact .inr (.inl h)
    · exact .inr (.inr (.inl h))
    · refine .inr (.inr (.inr ⟨x, xs, ts, f, args', rfl, h1, h2, ?_, h4⟩))
      rw [← h3]
      refine List.map_congr_left fun y hy => seen_ext e ?_
      obtain ⟨z, hz, rfl⟩ := List.mem_map.1 hy
      exact hl z (by simp [Op.operands, Call.operands]; right; simpa using hz)
theorem PStep.ext {o : Oper} {v : V} (hc : PStep P ge ops st o v) (e : List B) (hl : ∀ x ∈ o.op.operands, (ev ge st.tm x).lt st.h.length = true) : PStep P ge ops ⟨st.n, st.tm, st.h ++ e⟩ o v := by
  unfold PStep at hc ⊢
  split at hc
  · exact hc.ext e hl
  · obtain ⟨dj, h1, h2, h3, h4, h5⟩ := hc
    exact ⟨dj, h1, h2, h3, fun h => (h4 h).ext e hl, h5⟩
/-- A result that lies in a variable. -/
theorem retqc {t : Nat} {T : TypeId} {cs : List V} {off : Nat} {r : V} (hp : place st.h (lk st.tm t) = some (cs, off)) (ho : loadOk P T cs off) (hc : Conv st.h (loadV P T cs off) r) : RetQ P #[.cell t T] r .ret st :=
  ⟨.inr rfl, _, ⟨cs, off, hp, ho, rfl⟩, hc⟩
theorem retq2ct {t u : Nat} {T : TypeId} {cs : List V} {off : Nat} {r : V} (hp : place st.h (lk st.tm t) = some (cs, off)) (ho : loadOk P T cs off) (hc : Conv st.h (.tup [loadV P T cs off, lk st.tm u]) r) : RetQ P #[.cell t T, .tmp u] r .ret st :=
  ⟨.inr rfl, _, ⟨[loadV P T cs off, lk st.tm u], rfl, ⟨cs, off, hp, ho, rfl⟩, rfl, trivial⟩, hc⟩
end
end Go.AM
end

section
set_option linter.unusedVariables false
set_option linter.unusedSimpArgs false
namespace Go.Proofs.YtgmlimipejcpgaaGreatDoor
open Go Go.AM Fx
def diagG (g : GuardD) : Bool := decide (g.other ≠ 0)
def greatG (g : GuardD) : Bool := decide (g.n < 0 ∨ 1048576 < g.n)
def greatS (s : SetD) : Bool := decide (s.clock ≠ 0 ∧ (s.n < 0 ∨ 1048576 < s.n))
def cmpG (g : GuardD) : Bool := decide (g.cmp < 1 ∨ 5 < g.cmp)
def isClk (n : NetD) (c : Int) : Bool := decide (1 ≤ c ∧ c ≤ n.clocks.length)
def clkG (n : NetD) (g : GuardD) : Bool := !isClk n g.clock || (decide (g.other ≠ 0) && !isClk n g.other)
def varV (v : VarD) : Bool := decide (v.init < v.lo ∨ v.hi < v.init ∨ v.lo < -1048576 ∨ 1048576 < v.hi)
theorem c_isClock (n : NetD) (c : Int) : PC 193 [.agg n.cells, .int .i64 c] (.bool (isClk n c)) := by
  refine PCall_body Tryz.func193 rfl (by decide) Tryz.ntmps193 (by simp) Tryz.results193 ?_
  repeat' (first
 |refine AW_seq_k fun K hK=>?_|refine Step.by1 ?_|refine SBlock_exit_ne (by decide) ?_|refine cz rfl ?_|refine Fork.by2 (fun h=>?_) fun h=>?_
 |(refine AW_region_AO ?_;simp [vl, NetD.cells])
 |(refine Split.by2 (fun h=>?_) (fun h=>?_)<;>(simp [h, vl, NetD.cells]))
 |(apply hK;clear hK K)|refine AWh (by assumption) ?_)
  all_goals first
    | exact retq1 (conv_eq (by simp [isClk, *]) rfl)
    | trace_state
def diagE (l : List GuardD) : Int := if l.any (diagG) then 120 else 0
theorem c_diagE (l : List GuardD) (hl : l.length ≤ 1099511627776) : PC 61 [vl GuardD.cells l] (.int .i64 (diagE l)) := by
  refine PCall_body Tryz.func61 rfl (by decide) Tryz.ntmps61 (by simp) Tryz.results61 ?_
  repeat' (first
 |refine AW_seq_k fun K hK=>?_|refine Step.by1 ?_|refine SBlock_exit_ne (by decide) ?_|refine cz rfl ?_|refine Fork.by2 (fun h=>?_) fun h=>?_
 |(refine AW_region_AO ?_;simp [vl])
 |(refine Split.by2 (fun h=>?_) (fun h=>?_)<;>(simp [h, vl]))
 |(apply hK;clear hK K)|refine AWh (by assumption) ?_)
  refine AW_scan (l) 7 [5, 6] (diagE) rfl (by apply Weak.mk' <;> simp [vl]) ?_ ?_
  · intro i x _ hlt hx hF
    repeat' (first
 |refine AW_seq_k fun K hK=>?_|refine Step.by1 ?_|refine SBlock_exit_ne (by decide) ?_|refine cz rfl ?_|refine Fork.by2 (fun h=>?_) fun h=>?_
 |(refine AW_region_AO ?_;simp [vl, GuardD.cells, hlt, hx, wrap_i64];try (simp (disch:=omega) only [wrap_i64];try simp [vl, GuardD.cells, hlt, hx, wrap_i64]))
 |(refine Split.by2 (fun h=>?_) (fun h=>?_)<;>(simp [h, vl, GuardD.cells, hlt, hx, wrap_i64];try (simp (disch:=omega) only [wrap_i64];try simp [vl, GuardD.cells, hlt, hx, wrap_i64])))
 |(apply hK;clear hK K)|refine AWh (by assumption) ?_)
    all_goals first
      | exact retq1 (conv_eq (by rw [← hF]; simp [diagE, diagG, *]) rfl)
      | (refine ⟨by rw [← hF]; simp [diagE, diagG, *], ?_⟩; apply Weak.mk' <;> simp [vl])
      | trace_state
  · intro hF
    repeat' (first
 |refine AW_seq_k fun K hK=>?_|refine Step.by1 ?_|refine SBlock_exit_ne (by decide) ?_|refine cz rfl ?_|refine Fork.by2 (fun h=>?_) fun h=>?_
 |(refine AW_region_AO ?_;simp [vl])
 |(refine Split.by2 (fun h=>?_) (fun h=>?_)<;>(simp [h, vl]))
 |(apply hK;clear hK K)|refine AWh (by assumption) ?_)
    exact retq1 (conv_eq (by rw [← hF]; simp [diagE]) rfl)
def greatE (l : List GuardD) : Int := if l.any (greatG) then 13 else 0
theorem c_greatE (l : List GuardD) (hl : l.length ≤ 1099511627776) : PC 64 [vl GuardD.cells l] (.int .i64 (greatE l)) := by
  refine PCall_body Tryz.func64 rfl (by decide) Tryz.ntmps64 (by simp) Tryz.results64 ?_
  repeat' (first
 |refine AW_seq_k fun K hK=>?_|refine Step.by1 ?_|refine SBlock_exit_ne (by decide) ?_|refine cz rfl ?_|refine Fork.by2 (fun h=>?_) fun h=>?_
 |(refine AW_region_AO ?_;simp [vl])
 |(refine Split.by2 (fun h=>?_) (fun h=>?_)<;>(simp [h, vl]))
 |(apply hK;clear hK K)|refine AWh (by assumption) ?_)
  refine AW_scan (l) 7 [5, 6] (greatE) rfl (by apply Weak.mk' <;> simp [vl]) ?_ ?_
  · intro i x _ hlt hx hF
    repeat' (first
 |refine AW_seq_k fun K hK=>?_|refine Step.by1 ?_|refine SBlock_exit_ne (by decide) ?_|refine cz rfl ?_|refine Fork.by2 (fun h=>?_) fun h=>?_
 |(refine AW_region_AO ?_;simp [vl, GuardD.cells, hlt, hx, wrap_i64];try (simp (disch:=omega) only [wrap_i64];try simp [vl, GuardD.cells, hlt, hx, wrap_i64]))
 |(refine Split.by2 (fun h=>?_) (fun h=>?_)<;>(simp [h, vl, GuardD.cells, hlt, hx, wrap_i64];try (simp (disch:=omega) only [wrap_i64];try simp [vl, GuardD.cells, hlt, hx, wrap_i64])))
 |(apply hK;clear hK K)|refine AWh (by assumption) ?_)
    all_goals first
      | exact retq1 (conv_eq (by rw [← hF]; simp [greatE, greatG, *]) rfl)
      | (refine ⟨by rw [← hF]; simp [greatE, greatG, *], ?_⟩; apply Weak.mk' <;> simp [vl])
      | trace_state
  · intro hF
    repeat' (first
 |refine AW_seq_k fun K hK=>?_|refine Step.by1 ?_|refine SBlock_exit_ne (by decide) ?_|refine cz rfl ?_|refine Fork.by2 (fun h=>?_) fun h=>?_
 |(refine AW_region_AO ?_;simp [vl])
 |(refine Split.by2 (fun h=>?_) (fun h=>?_)<;>(simp [h, vl]))
 |(apply hK;clear hK K)|refine AWh (by assumption) ?_)
    exact retq1 (conv_eq (by rw [← hF]; simp [greatE]) rfl)
def greatSE (l : List SetD) : Int := if l.any (greatS) then 13 else 0
theorem c_greatSE (l : List SetD) (hl : l.length ≤ 1099511627776) : PC 66 [vl SetD.cells l] (.int .i64 (greatSE l)) := by
  refine PCall_body Tryz.func66 rfl (by decide) Tryz.ntmps66 (by simp) Tryz.results66 ?_
  repeat' (first
 |refine AW_seq_k fun K hK=>?_|refine Step.by1 ?_|refine SBlock_exit_ne (by decide) ?_|refine cz rfl ?_|refine Fork.by2 (fun h=>?_) fun h=>?_
 |(refine AW_region_AO ?_;simp [vl])
 |(refine Split.by2 (fun h=>?_) (fun h=>?_)<;>(simp [h, vl]))
 |(apply hK;clear hK K)|refine AWh (by assumption) ?_)
  refine AW_scan (l) 7 [5, 6] (greatSE) rfl (by apply Weak.mk' <;> simp [vl]) ?_ ?_
  · intro i x _ hlt hx hF
    repeat' (first
 |refine AW_seq_k fun K hK=>?_|refine Step.by1 ?_|refine SBlock_exit_ne (by decide) ?_|refine cz rfl ?_|refine Fork.by2 (fun h=>?_) fun h=>?_
 |(refine AW_region_AO ?_;simp [vl, SetD.cells, hlt, hx, wrap_i64];try (simp (disch:=omega) only [wrap_i64];try simp [vl, SetD.cells, hlt, hx, wrap_i64]))
 |(refine Split.by2 (fun h=>?_) (fun h=>?_)<;>(simp [h, vl, SetD.cells, hlt, hx, wrap_i64];try (simp (disch:=omega) only [wrap_i64];try simp [vl, SetD.cells, hlt, hx, wrap_i64])))
 |(apply hK;clear hK K)|refine AWh (by assumption) ?_)
    all_goals first
      | exact retq1 (conv_eq (by rw [← hF]; simp [greatSE, greatS, *]) rfl)
      | (refine ⟨by rw [← hF]; simp [greatSE, greatS, *], ?_⟩; apply Weak.mk' <;> simp [vl])
      | trace_state
  · intro hF
    repeat' (first
 |refine AW_seq_k fun K hK=>?_|refine Step.by1 ?_|refine SBlock_exit_ne (by decide) ?_|refine cz rfl ?_|refine Fork.by2 (fun h=>?_) fun h=>?_
 |(refine AW_region_AO ?_;simp [vl])
 |(refine Split.by2 (fun h=>?_) (fun h=>?_)<;>(simp [h, vl]))
 |(apply hK;clear hK K)|refine AWh (by assumption) ?_)
    exact retq1 (conv_eq (by rw [← hF]; simp [greatSE]) rfl)
def cmpE (l : List GuardD) : Int := if l.any (cmpG) then 7 else 0
theorem c_cmpE (l : List GuardD) (hl : l.length ≤ 1099511627776) : PC 150 [vl GuardD.cells l] (.int .i64 (cmpE l)) := by
  refine PCall_body Tryz.func150 rfl (by decide) Tryz.ntmps150 (by simp) Tryz.results150 ?_
  repeat' (first
 |refine AW_seq_k fun K hK=>?_|refine Step.by1 ?_|refine SBlock_exit_ne (by decide) ?_|refine cz rfl ?_|refine Fork.by2 (fun h=>?_) fun h=>?_
 |(refine AW_region_AO ?_;simp [vl])
 |(refine Split.by2 (fun h=>?_) (fun h=>?_)<;>(simp [h, vl]))
 |(apply hK;clear hK K)|refine AWh (by assumption) ?_)
  refine AW_scan (l) 7 [5, 6] (cmpE) rfl (by apply Weak.mk' <;> simp [vl]) ?_ ?_
  · intro i x _ hlt hx hF
    repeat' (first
 |refine AW_seq_k fun K hK=>?_|refine Step.by1 ?_|refine SBlock_exit_ne (by decide) ?_|refine cz rfl ?_|refine Fork.by2 (fun h=>?_) fun h=>?_
 |(refine AW_region_AO ?_;simp [vl, GuardD.cells, hlt, hx, wrap_i64];try (simp (disch:=omega) only [wrap_i64];try simp [vl, GuardD.cells, hlt, hx, wrap_i64]))
 |(refine Split.by2 (fun h=>?_) (fun h=>?_)<;>(simp [h, vl, GuardD.cells, hlt, hx, wrap_i64];try (simp (disch:=omega) only [wrap_i64];try simp [vl, GuardD.cells, hlt, hx, wrap_i64])))
 |(apply hK;clear hK K)|refine AWh (by assumption) ?_)
    all_goals first
      | exact retq1 (conv_eq (by rw [← hF]; simp [cmpE, cmpG, *]) rfl)
      | (refine ⟨by rw [← hF]; simp [cmpE, cmpG, *], ?_⟩; apply Weak.mk' <;> simp [vl])
      | trace_state
  · intro hF
    repeat' (first
 |refine AW_seq_k fun K hK=>?_|refine Step.by1 ?_|refine SBlock_exit_ne (by decide) ?_|refine cz rfl ?_|refine Fork.by2 (fun h=>?_) fun h=>?_
 |(refine AW_region_AO ?_;simp [vl])
 |(refine Split.by2 (fun h=>?_) (fun h=>?_)<;>(simp [h, vl]))
 |(apply hK;clear hK K)|refine AWh (by assumption) ?_)
    exact retq1 (conv_eq (by rw [← hF]; simp [cmpE]) rfl)
def clkE (n : NetD) (l : List GuardD) : Int := if l.any (clkG n) then 12 else 0
theorem c_clkE (n : NetD) (l : List GuardD) (hl : l.length ≤ 1099511627776) : PC 148 [.agg n.cells, vl GuardD.cells l] (.int .i64 (clkE n l)) := by
  refine PCall_body Tryz.func148 rfl (by decide) Tryz.ntmps148 (by simp) Tryz.results148 ?_
  repeat' (first
 |refine AW_seq_k fun K hK=>?_|refine Step.by1 ?_|refine SBlock_exit_ne (by decide) ?_|refine cz rfl ?_|refine Fork.by2 (fun h=>?_) fun h=>?_
 |(refine AW_region_AO ?_;simp [vl, NetD.cells])
 |(refine Split.by2 (fun h=>?_) (fun h=>?_)<;>(simp [h, vl, NetD.cells]))
 |(apply hK;clear hK K)|refine AWh (by assumption) ?_)
  refine AW_scan (l) 9 [2, 7, 8] (clkE n) rfl (by apply Weak.mk' <;> simp [vl]) ?_ ?_
  · intro i x _ hlt hx hF
    have hc1 := c_isClock n x.clock
    have hc2 := c_isClock n x.other
    simp only [NetD.cells, vl] at hc1 hc2
    generalize hk1 : isClk n x.clock = k1 at hc1
    generalize hk2 : isClk n x.other = k2 at hc2
    repeat' (first
 |refine AW_seq_k fun K hK=>?_|refine Step.by1 ?_|refine SBlock_exit_ne (by decide) ?_|refine cz rfl ?_|refine Fork.by2 (fun h=>?_) fun h=>?_
 |((first|refine AW_region_AO ?_|refine AS_call1 (f:=193) rfl rfl (hc1) rfl rfl rfl ?_|refine AS_call1 (f:=193) rfl rfl (hc2) rfl rfl rfl ?_);simp [vl, GuardD.cells, NetD.cells, hlt, hx, wrap_i64];try (simp (disch:=omega) only [wrap_i64];try simp [vl, GuardD.cells, NetD.cells, hlt, hx, wrap_i64]))
 |(refine Split.by2 (fun h=>?_) (fun h=>?_)<;>(simp [h, vl, GuardD.cells, NetD.cells, hlt, hx, wrap_i64];try (simp (disch:=omega) only [wrap_i64];try simp [vl, GuardD.cells, NetD.cells, hlt, hx, wrap_i64])))
 |(apply hK;clear hK K)|refine AWh (by assumption) ?_)
    all_goals first
      | exact retq1 (conv_eq (by rw [← hF]; simp [clkE, clkG, *]) rfl)
      | (refine ⟨by rw [← hF]; simp [clkE, clkG, *], ?_⟩; apply Weak.mk' <;> simp [vl, NetD.cells])
      | trace_state
  · intro hF
    repeat' (first
 |refine AW_seq_k fun K hK=>?_|refine Step.by1 ?_|refine SBlock_exit_ne (by decide) ?_|refine cz rfl ?_|refine Fork.by2 (fun h=>?_) fun h=>?_
 |(refine AW_region_AO ?_;simp [vl, NetD.cells])
 |(refine Split.by2 (fun h=>?_) (fun h=>?_)<;>(simp [h, vl, NetD.cells]))
 |(apply hK;clear hK K)|refine AWh (by assumption) ?_)
    exact retq1 (conv_eq (by rw [← hF]; simp [clkE]) rfl)
def varE (l : List VarD) : Int := if l.any (varV) then 124 else 0
theorem c_varE (n : NetD) (hl : n.vars.length ≤ 1099511627776) : PC 131 [.agg n.cells] (.int .i64 (varE n.vars)) := by
  refine PCall_body Tryz.func131 rfl (by decide) Tryz.ntmps131 (by simp) Tryz.results131 ?_
  repeat' (first
 |refine AW_seq_k fun K hK=>?_|refine Step.by1 ?_|refine SBlock_exit_ne (by decide) ?_|refine cz rfl ?_|refine Fork.by2 (fun h=>?_) fun h=>?_
 |(refine AW_region_AO ?_;simp [vl, NetD.cells])
 |(refine Split.by2 (fun h=>?_) (fun h=>?_)<;>(simp [h, vl, NetD.cells]))
 |(apply hK;clear hK K)|refine AWh (by assumption) ?_)
  refine AW_scan (n.vars) 8 [6, 7] (varE) rfl (by apply Weak.mk' <;> simp [vl]) ?_ ?_
  · intro i x _ hlt hx hF
    repeat' (first
 |refine AW_seq_k fun K hK=>?_|refine Step.by1 ?_|refine SBlock_exit_ne (by decide) ?_|refine cz rfl ?_|refine Fork.by2 (fun h=>?_) fun h=>?_
 |(refine AW_region_AO ?_;simp [vl, VarD.cells, NetD.cells, hlt, hx, wrap_i64];try (simp (disch:=omega) only [wrap_i64];try simp [vl, VarD.cells, NetD.cells, hlt, hx, wrap_i64]))
 |(refine Split.by2 (fun h=>?_) (fun h=>?_)<;>(simp [h, vl, VarD.cells, NetD.cells, hlt, hx, wrap_i64];try (simp (disch:=omega) only [wrap_i64];try simp [vl, VarD.cells, NetD.cells, hlt, hx, wrap_i64])))
 |(apply hK;clear hK K)|refine AWh (by assumption) ?_)
    all_goals first
      | exact retq1 (conv_eq (by rw [← hF]; simp [varE, varV, *]) rfl)
      | (refine ⟨by rw [← hF]; simp [varE, varV, *], ?_⟩; apply Weak.mk' <;> simp [vl, NetD.cells])
      | trace_state
  · intro hF
    repeat' (first
 |refine AW_seq_k fun K hK=>?_|refine Step.by1 ?_|refine SBlock_exit_ne (by decide) ?_|refine cz rfl ?_|refine Fork.by2 (fun h=>?_) fun h=>?_
 |(refine AW_region_AO ?_;simp [vl, NetD.cells])
 |(refine Split.by2 (fun h=>?_) (fun h=>?_)<;>(simp [h, vl, NetD.cells]))
 |(apply hK;clear hK K)|refine AWh (by assumption) ?_)
    exact retq1 (conv_eq (by rw [← hF]; simp [varE]) rfl)
end Go.Proofs.YtgmlimipejcpgaaGreatDoor
end

section
set_option linter.unusedVariables false
set_option linter.unusedSimpArgs false
namespace Go.Proofs.YtgmlimipejcpgaaGreatDoor
open Go Go.AM Fx
def anyL {α : Type} (p : α → Bool) (l : List α) : Bool := l.any p
theorem anyL_nil {α : Type} {p : α → Bool} : anyL p [] = false := rfl
theorem anyL_cons {α : Type} {p : α → Bool} {x : α} {l : List α} : anyL p (x :: l) = (p x || anyL p l) := rfl
def noLocs (a : AutoD) : Bool := decide (a.locs.length = 0)
theorem c_some1 (a : AutoD) : PC 186 [.agg a.cells] (.bool (noLocs a)) := by
  refine PCall_body Tryz.func186 rfl (by decide) Tryz.ntmps186 (by simp) Tryz.results186 ?_
  repeat' (first
 |refine AW_seq_k fun K hK=>?_|refine Step.by1 ?_|refine SBlock_exit_ne (by decide) ?_|refine cz rfl ?_|refine Fork.by2 (fun h=>?_) fun h=>?_
 |(refine AW_region_AO ?_;simp [vl, AutoD.cells])
 |(refine Split.by2 (fun h=>?_) (fun h=>?_)<;>(simp [h, vl, AutoD.cells]))
 |(apply hK;clear hK K)|refine AWh (by assumption) ?_)
  exact retq1 (conv_eq (by simp [noLocs]) rfl)
theorem c_indexNoLocs (l : List AutoD) (hl : l.length ≤ 1099511627776) : ∃ k : Int, PC 215 [vl AutoD.cells l, .fn (.func 186) [] []] (.int .i64 k) ∧ (0 ≤ k ↔ anyL noLocs l = true) := by
  by_cases hk : anyL noLocs l = true
  · -- the first one
    obtain ⟨i0, h1, h2, h3⟩ : ∃ i0, ∃ h : i0 < l.length, noLocs l[i0] = true ∧ ∀ j (hj : j < i0), noLocs (l[j]'(by omega)) = false := by
      have hx : ∃ x ∈ l, noLocs x = true := by unfold anyL at hk; rw [List.any_eq_true] at hk; exact hk
      have hlt := List.findIdx_lt_length.2 hx
      exact ⟨l.findIdx noLocs, hlt, List.findIdx_getElem (w := hlt), fun j hj => by simpa using List.not_of_lt_findIdx hj⟩
    refine ⟨i0, ?_, ⟨fun _ => hk, fun _ => by omega⟩⟩
    refine PCall_body Tryz.func215 rfl (by decide) Tryz.ntmps215 (by simp) Tryz.results215 ?_
    repeat' (first
 |refine AW_seq_k fun K hK=>?_|refine Step.by1 ?_|refine SBlock_exit_ne (by decide) ?_|refine cz rfl ?_|refine Fork.by2 (fun h=>?_) fun h=>?_
 |(refine AW_region_AO ?_;simp [vl])
 |(refine Split.by2 (fun h=>?_) (fun h=>?_)<;>(simp [h, vl]))
 |(apply hK;clear hK K)|refine AWh (by assumption) ?_)
    refine AW_loopL [0, 1, 7] (fun i : Nat => [(8, .int .i64 i)]) (fun _ => []) (fun i => i ≤ i0) (fun i => l.length - i) 0 (Nat.zero_le _) (by apply Weak.mk' <;> simp [vl]) (fun _ _ => rfl) ?_
    intro i hi
    have hlt : i < l.length := by omega
    have hc := c_some1 l[i]
    have hv : noLocs l[i] = decide (i = i0) := by
      by_cases he : i = i0
      · subst he; simp [h2]
      · simp [he, h3 i (by omega)]
    obtain ⟨x, hx⟩ : ∃ x, l[i] = x := ⟨_, rfl⟩
    rw [hx] at hc hv
    rw [hv] at hc
    simp only [AutoD.cells, vl] at hc
    repeat' (first
 |refine AW_seq_k fun K hK=>?_|refine Step.by1 ?_|refine SBlock_exit_ne (by decide) ?_|refine cz rfl ?_|refine Fork.by2 (fun h=>?_) fun h=>?_
 |((first|refine AW_region_AO ?_|refine AS_call1 (f:=186) rfl rfl (hc) rfl rfl rfl ?_);simp [vl, AutoD.cells, hlt, hx, wrap_i64];try (simp (disch:=omega) only [wrap_i64];try simp [vl, AutoD.cells, hlt, hx, wrap_i64]))
 |(refine Split.by2 (fun h=>?_) (fun h=>?_)<;>(simp [h, vl, AutoD.cells, hlt, hx, wrap_i64];try (simp (disch:=omega) only [wrap_i64];try simp [vl, AutoD.cells, hlt, hx, wrap_i64])))
 |(apply hK;clear hK K)|refine AWh (by assumption) ?_)
    all_goals first
      | exact retq1 (conv_eq (by simp [*]) rfl)
      | (refine ⟨i + 1, by omega, by omega, ?_⟩; apply Weak.mk' <;> simp [vl])
      | trace_state
  · refine ⟨-1, ?_, ⟨fun h => by omega, fun h => absurd h hk⟩⟩
    have hall : ∀ i (h : i < l.length), noLocs l[i] = false := fun i h => by
      cases hh : noLocs l[i]
      · rfl
      · exact absurd (by unfold anyL; exact List.any_eq_true.2 ⟨_, List.getElem_mem h, hh⟩) hk
    refine PCall_body Tryz.func215 rfl (by decide) Tryz.ntmps215 (by simp) Tryz.results215 ?_
    repeat' (first
 |refine AW_seq_k fun K hK=>?_|refine Step.by1 ?_|refine SBlock_exit_ne (by decide) ?_|refine cz rfl ?_|refine Fork.by2 (fun h=>?_) fun h=>?_
 |(refine AW_region_AO ?_;simp [vl])
 |(refine Split.by2 (fun h=>?_) (fun h=>?_)<;>(simp [h, vl]))
 |(apply hK;clear hK K)|refine AWh (by assumption) ?_)
    refine AW_loopL [0, 1, 7] (fun i : Nat => [(8, .int .i64 i)]) (fun _ => []) (fun i => i ≤ l.length) (fun i => l.length - i) 0 (Nat.zero_le _) (by apply Weak.mk' <;> simp [vl]) (fun _ _ => rfl) ?_
    intro i hi
    by_cases hlt : i < l.length
    · have hc := c_some1 l[i]
      rw [hall i hlt] at hc
      obtain ⟨x, hx⟩ : ∃ x, l[i] = x := ⟨_, rfl⟩
      rw [hx] at hc
      simp only [AutoD.cells, vl] at hc
      repeat' (first
 |refine AW_seq_k fun K hK=>?_|refine Step.by1 ?_|refine SBlock_exit_ne (by decide) ?_|refine cz rfl ?_|refine Fork.by2 (fun h=>?_) fun h=>?_
 |((first|refine AW_region_AO ?_|refine AS_call1 (f:=186) rfl rfl (hc) rfl rfl rfl ?_);simp [vl, AutoD.cells, hlt, hx, wrap_i64];try (simp (disch:=omega) only [wrap_i64];try simp [vl, AutoD.cells, hlt, hx, wrap_i64]))
 |(refine Split.by2 (fun h=>?_) (fun h=>?_)<;>(simp [h, vl, AutoD.cells, hlt, hx, wrap_i64];try (simp (disch:=omega) only [wrap_i64];try simp [vl, AutoD.cells, hlt, hx, wrap_i64])))
 |(apply hK;clear hK K)|refine AWh (by assumption) ?_)
      refine ⟨i + 1, by omega, by omega, ?_⟩; apply Weak.mk' <;> simp [vl]
    · repeat' (first
 |refine AW_seq_k fun K hK=>?_|refine Step.by1 ?_|refine SBlock_exit_ne (by decide) ?_|refine cz rfl ?_|refine Fork.by2 (fun h=>?_) fun h=>?_
 |(refine AW_region_AO ?_;simp [vl, hlt])
 |(refine Split.by2 (fun h=>?_) (fun h=>?_)<;>(simp [h, vl, hlt]))
 |(apply hK;clear hK K)|refine AWh (by assumption) ?_)
      exact retq1 (conv_eq rfl rfl)
def someE (n : NetD) : Int := if n.autos.length = 0 ∨ anyL noLocs n.autos = true then 2 else 0
theorem c_someE (n : NetD) (hl : n.autos.length ≤ 1099511627776) : PC 128 [.agg n.cells] (.int .i64 (someE n)) := by
  obtain ⟨k, hk, hk'⟩ := c_indexNoLocs n.autos hl
  have hcf : PC 185 [vl AutoD.cells n.autos, .fn (.func 186) [] []] (.bool (anyL noLocs n.autos)) := by
    simp only [vl] at hk
    refine PCall_body Tryz.func185 rfl (by decide) Tryz.ntmps185 (by simp) Tryz.results185 ?_
    repeat' (first
 |refine AW_seq_k fun K hK=>?_|refine Step.by1 ?_|refine SBlock_exit_ne (by decide) ?_|refine cz rfl ?_|refine Fork.by2 (fun h=>?_) fun h=>?_
 |((first|refine AW_region_AO ?_|refine AS_call1 (f:=215) rfl rfl (hk) rfl rfl rfl ?_);simp [vl])
 |(refine Split.by2 (fun h=>?_) (fun h=>?_)<;>(simp [h, vl]))
 |(apply hK;clear hK K)|refine AWh (by assumption) ?_)
    exact retq1 (conv_eq (by simp; rw [Bool.eq_iff_iff]; simp [hk']) rfl)
  simp only [vl] at hcf
  refine PCall_body Tryz.func128 rfl (by decide) Tryz.ntmps128 (by simp) Tryz.results128 ?_
  repeat' (first
 |refine AW_seq_k fun K hK=>?_|refine Step.by1 ?_|refine SBlock_exit_ne (by decide) ?_|refine cz rfl ?_|refine Fork.by2 (fun h=>?_) fun h=>?_
 |((first|refine AW_region_AO ?_|refine AS_call1 (f:=185) rfl rfl (hcf) rfl rfl rfl ?_);simp [vl, NetD.cells])
 |(refine Split.by2 (fun h=>?_) (fun h=>?_)<;>(simp [h, vl, NetD.cells]))
 |(apply hK;clear hK K)|refine AWh (by assumption) ?_)
  all_goals first
    | exact retq1 (conv_eq (by simp [someE, *]) rfl)
    | trace_state
def kindB (x : LocD) : Bool := decide (2 < x.kind)
def locsE (l : List AutoD) : Int := if anyL (fun a => anyL kindB a.locs) l then 122 else 0
theorem locsE_cons {a : AutoD} {l : List AutoD} : locsE (a :: l) = if anyL kindB a.locs = true then 122 else locsE l := by
  by_cases h : anyL kindB a.locs = true <;> simp [locsE, anyL_cons, h]
theorem c_locs (n : NetD) (hl : n.autos.length ≤ 1099511627776) (hl2 : ∀ a ∈ n.autos, a.locs.length ≤ 1099511627776) : PC 132 [.agg n.cells] (.int .i64 (locsE n.autos)) := by
  refine PCall_body Tryz.func132 rfl (by decide) Tryz.ntmps132 (by simp) Tryz.results132 ?_
  repeat' (first
 |refine AW_seq_k fun K hK=>?_|refine Step.by1 ?_|refine SBlock_exit_ne (by decide) ?_|refine cz rfl ?_|refine Fork.by2 (fun h=>?_) fun h=>?_
 |(refine AW_region_AO ?_;simp [vl, NetD.cells])
 |(refine Split.by2 (fun h=>?_) (fun h=>?_)<;>(simp [h, vl, NetD.cells]))
 |(apply hK;clear hK K)|refine AWh (by assumption) ?_)
  refine AW_scan (n.autos) 10 [8, 9] (locsE) rfl (by apply Weak.mk' <;> simp [vl]) ?_ ?_
  · intro i a _ hlt ha hF
    have hll := hl2 a (ha ▸ List.getElem_mem hlt)
    rw [locsE_cons] at hF
    repeat' (first
 |refine AW_seq_k fun K hK=>?_|refine Step.by1 ?_|refine SBlock_exit_ne (by decide) ?_|refine cz rfl ?_|refine Fork.by2 (fun h=>?_) fun h=>?_
 |(refine AW_region_AO ?_;simp [vl, AutoD.cells, hlt, ha, wrap_i64];try (simp (disch:=omega) only [wrap_i64];try simp [vl, AutoD.cells, hlt, ha, wrap_i64]))
 |(refine Split.by2 (fun h=>?_) (fun h=>?_)<;>(simp [h, vl, AutoD.cells, hlt, ha, wrap_i64];try (simp (disch:=omega) only [wrap_i64];try simp [vl, AutoD.cells, hlt, ha, wrap_i64])))
 |(apply hK;clear hK K)|refine AWh (by assumption) ?_)
    refine AW_scan (a.locs) 17 [8, 9, 10, 15, 16] (anyL kindB) rfl (by apply Weak.mk' <;> simp [vl]) ?_ ?_
    · intro k x _ hkt hx hG
      rw [anyL_cons] at hG
      repeat' (first
 |refine AW_seq_k fun K hK=>?_|refine Step.by1 ?_|refine SBlock_exit_ne (by decide) ?_|refine cz rfl ?_|refine Fork.by2 (fun h=>?_) fun h=>?_
 |(refine AW_region_AO ?_;simp [vl, LocD.cells, hkt, hx, wrap_i64];try (simp (disch:=omega) only [wrap_i64];try simp [vl, LocD.cells, hkt, hx, wrap_i64]))
 |(refine Split.by2 (fun h=>?_) (fun h=>?_)<;>(simp [h, vl, LocD.cells, hkt, hx, wrap_i64];try (simp (disch:=omega) only [wrap_i64];try simp [vl, LocD.cells, hkt, hx, wrap_i64])))
 |(apply hK;clear hK K)|refine AWh (by assumption) ?_)
      all_goals first
        | exact retq1 (conv_eq (by rw [← hF, ← hG]; simp [kindB, *]) rfl)
        | (refine ⟨by rw [← hG]; simp [kindB, *], ?_⟩; apply Weak.mk' <;> simp [vl])
        | trace_state
    · intro hG
      repeat' (first
 |refine AW_seq_k fun K hK=>?_|refine Step.by1 ?_|refine SBlock_exit_ne (by decide) ?_|refine cz rfl ?_|refine Fork.by2 (fun h=>?_) fun h=>?_
 |(refine AW_region_AO ?_;simp [vl, wrap_i64];try (simp (disch:=omega) only [wrap_i64];try simp [vl, wrap_i64]))
 |(refine Split.by2 (fun h=>?_) (fun h=>?_)<;>(simp [h, vl, wrap_i64];try (simp (disch:=omega) only [wrap_i64];try simp [vl, wrap_i64])))
 |(apply hK;clear hK K)|refine AWh (by assumption) ?_)
      all_goals first
        | (refine ⟨by rw [← hF, ← hG]; simp [anyL_nil], ?_⟩; apply Weak.mk' <;> simp [vl])
        | trace_state
  · intro hF
    repeat' (first
 |refine AW_seq_k fun K hK=>?_|refine Step.by1 ?_|refine SBlock_exit_ne (by decide) ?_|refine cz rfl ?_|refine Fork.by2 (fun h=>?_) fun h=>?_
 |(refine AW_region_AO ?_;simp [vl])
 |(refine Split.by2 (fun h=>?_) (fun h=>?_)<;>(simp [h, vl]))
 |(apply hK;clear hK K)|refine AWh (by assumption) ?_)
    exact retq1 (conv_eq (by rw [← hF]; simp [locsE, anyL_nil]) rfl)
end Go.Proofs.YtgmlimipejcpgaaGreatDoor
end

section
set_option maxRecDepth 100000
namespace Go.Proofs.YtgmlimipejcpgaaGreatDoor
open Go.AM
namespace Fx
@[simp] theorem zo1 : (zeroOf Tryz.prog 1).isSome = true := by kernel_rfl
@[simp] theorem zd1 : zeroD Tryz.prog 1 = [.nilf] := by kernel_rfl
@[simp] theorem by1 : bytesOf Tryz.prog 1 = 8 := by kernel_rfl
@[simp] theorem zo37 : (zeroOf Tryz.prog 37).isSome = true := by kernel_rfl
@[simp] theorem zd37 : zeroD Tryz.prog 37 = [.nilf] := by kernel_rfl
@[simp] theorem by37 : bytesOf Tryz.prog 37 = 8 := by kernel_rfl
@[simp] theorem zo118 : (zeroOf Tryz.prog 118).isSome = true := by kernel_rfl
@[simp] theorem zd118 : zeroD Tryz.prog 118 = [.nilf] := by kernel_rfl
@[simp] theorem by118 : bytesOf Tryz.prog 118 = 8 := by kernel_rfl
@[simp] theorem zo119 : (zeroOf Tryz.prog 119).isSome = true := by kernel_rfl
@[simp] theorem zd119 : zeroD Tryz.prog 119 = [.nilf] := by kernel_rfl
@[simp] theorem by119 : bytesOf Tryz.prog 119 = 8 := by kernel_rfl
@[simp] theorem zo120 : (zeroOf Tryz.prog 120).isSome = true := by kernel_rfl
@[simp] theorem zd120 : zeroD Tryz.prog 120 = [.nilf] := by kernel_rfl
@[simp] theorem by120 : bytesOf Tryz.prog 120 = 8 := by kernel_rfl
@[simp] theorem zo140 : (zeroOf Tryz.prog 140).isSome = true := by kernel_rfl
@[simp] theorem zd140 : zeroD Tryz.prog 140 = [.nilf] := by kernel_rfl
@[simp] theorem by140 : bytesOf Tryz.prog 140 = 8 := by kernel_rfl
@[simp] theorem zo146 : (zeroOf Tryz.prog 146).isSome = true := by kernel_rfl
@[simp] theorem zd146 : zeroD Tryz.prog 146 = [.nilf] := by kernel_rfl
@[simp] theorem by146 : bytesOf Tryz.prog 146 = 8 := by kernel_rfl
@[simp] theorem zo147 : (zeroOf Tryz.prog 147).isSome = true := by kernel_rfl
@[simp] theorem zd147 : zeroD Tryz.prog 147 = [.nilf] := by kernel_rfl
@[simp] theorem by147 : bytesOf Tryz.prog 147 = 8 := by kernel_rfl
@[simp] theorem zo151 : (zeroOf Tryz.prog 151).isSome = true := by kernel_rfl
@[simp] theorem zd151 : zeroD Tryz.prog 151 = [.nilf] := by kernel_rfl
@[simp] theorem by151 : bytesOf Tryz.prog 151 = 8 := by kernel_rfl
@[simp] theorem zo157 : (zeroOf Tryz.prog 157).isSome = true := by kernel_rfl
@[simp] theorem zd157 : zeroD Tryz.prog 157 = [.nilf] := by kernel_rfl
@[simp] theorem by157 : bytesOf Tryz.prog 157 = 8 := by kernel_rfl
@[simp] theorem zo158 : (zeroOf Tryz.prog 158).isSome = true := by kernel_rfl
@[simp] theorem zd158 : zeroD Tryz.prog 158 = [.nilf] := by kernel_rfl
@[simp] theorem by158 : bytesOf Tryz.prog 158 = 8 := by kernel_rfl
@[simp] theorem zo159 : (zeroOf Tryz.prog 159).isSome = true := by kernel_rfl
@[simp] theorem zd159 : zeroD Tryz.prog 159 = [.nilf] := by kernel_rfl
@[simp] theorem by159 : bytesOf Tryz.prog 159 = 8 := by kernel_rfl
@[simp] theorem zo168 : (zeroOf Tryz.prog 168).isSome = true := by kernel_rfl
@[simp] theorem zd168 : zeroD Tryz.prog 168 = [.nilf] := by kernel_rfl
@[simp] theorem by168 : bytesOf Tryz.prog 168 = 8 := by kernel_rfl
@[simp] theorem zo172 : (zeroOf Tryz.prog 172).isSome = true := by kernel_rfl
@[simp] theorem zd172 : zeroD Tryz.prog 172 = [.nilf] := by kernel_rfl
@[simp] theorem by172 : bytesOf Tryz.prog 172 = 8 := by kernel_rfl
@[simp] theorem zo179 : (zeroOf Tryz.prog 179).isSome = true := by kernel_rfl
@[simp] theorem zd179 : zeroD Tryz.prog 179 = [.nilf] := by kernel_rfl
@[simp] theorem by179 : bytesOf Tryz.prog 179 = 8 := by kernel_rfl
@[simp] theorem zo199 : (zeroOf Tryz.prog 199).isSome = true := by kernel_rfl
@[simp] theorem zd199 : zeroD Tryz.prog 199 = [.nilf] := by kernel_rfl
@[simp] theorem by199 : bytesOf Tryz.prog 199 = 8 := by kernel_rfl
@[simp] theorem zo209 : (zeroOf Tryz.prog 209).isSome = true := by kernel_rfl
@[simp] theorem zd209 : zeroD Tryz.prog 209 = [.nilf] := by kernel_rfl
@[simp] theorem by209 : bytesOf Tryz.prog 209 = 8 := by kernel_rfl
@[simp] theorem zo210 : (zeroOf Tryz.prog 210).isSome = true := by kernel_rfl
@[simp] theorem zd210 : zeroD Tryz.prog 210 = [.nilf] := by kernel_rfl
@[simp] theorem by210 : bytesOf Tryz.prog 210 = 8 := by kernel_rfl
@[simp] theorem zo211 : (zeroOf Tryz.prog 211).isSome = true := by kernel_rfl
@[simp] theorem zd211 : zeroD Tryz.prog 211 = [.nilf] := by kernel_rfl
@[simp] theorem by211 : bytesOf Tryz.prog 211 = 8 := by kernel_rfl
@[simp] theorem zo231 : (zeroOf Tryz.prog 231).isSome = true := by kernel_rfl
@[simp] theorem zd231 : zeroD Tryz.prog 231 = [.nilf] := by kernel_rfl
@[simp] theorem by231 : bytesOf Tryz.prog 231 = 8 := by kernel_rfl
end Fx
end Go.Proofs.YtgmlimipejcpgaaGreatDoor
end

section
set_option linter.unusedVariables false
set_option linter.unusedSimpArgs false
namespace Go.Proofs.YtgmlimipejcpgaaGreatDoor
open Go Go.AM Fx
def firstAt {α : Type} (f : α → Int) : List α → Nat → Option (Nat × Int)
  | [], _ => none
  | x :: r, i => if f x ≠ 0 then some (i, f x) else firstAt f r (i + 1)
theorem firstAt_nil {α : Type} {f : α → Int} {i : Nat} : firstAt f [] i = none := rfl
theorem firstAt_cons {α : Type} {f : α → Int} {x : α} {r : List α} {i : Nat} : firstAt f (x :: r) i = if f x ≠ 0 then some (i, f x) else firstAt f r (i + 1) := rfl
def spotV (a l e : Int) : V := .agg [.int .i64 a, .int .i64 l, .int .i64 e]
/-- An automaton's first wrong place. -/
def searchA (pl : LocD → Int) (pe : EdgeD → Int) (a : AutoD) : Option ((Int × Int) × Int) := match firstAt pl a.locs 0 with
  | some (k, e) => some (((k : Int), -1), e)
  | none => match firstAt pe a.edges 0 with
    | some (k, e) => some ((-1, (k : Int)), e)
    | none => none
def searchE (pl : LocD → Int) (pe : EdgeD → Int) : List AutoD → Nat → (Int × Int × Int) × Int
  | [], _ => ((0, 0, 0), 0)
  | a :: r, i => match searchA pl pe a with
    | some ((l, k), e) => ((i, l, k), e)
    | none => searchE pl pe r (i + 1)
def spotE (x : (Int × Int × Int) × Int) : V := .tup [spotV x.1.1 x.1.2.1 x.1.2.2, .int .i64 x.2]
theorem searchE_nil {pl : LocD → Int} {pe : EdgeD → Int} {i : Nat} : searchE pl pe [] i = ((0, 0, 0), 0) := rfl
theorem searchE_cons {pl : LocD → Int} {pe : EdgeD → Int} {a : AutoD} {r : List AutoD} {i : Nat} : searchE pl pe (a :: r) i = match searchA pl pe a with
    | some ((l, k), e) => ((i, l, k), e)
    | none => searchE pl pe r (i + 1) := rfl
set_option maxRecDepth 20000 in
set_option maxHeartbeats 8000000 in
theorem c_search (n : NetD) (hn : n.ok) (fl fe : Nat) (pl : LocD → Int) (pe : EdgeD → Int) (hl : ∀ a ∈ n.autos, ∀ x ∈ a.locs, PC fl [.agg x.cells] (.int .i64 (pl x))) (he : ∀ a ∈ n.autos, ∀ x ∈ a.edges, PC fe [.agg x.cells] (.int .i64 (pe x))) :
    PC 59 [.agg n.cells, .fn (.func fl) [] [], .fn (.func fe) [] []] (spotE (searchE pl pe n.autos 0)) := by
  obtain ⟨_, _, _, h4, h5⟩ := hn
  obtain ⟨r, hr⟩ : ∃ r, searchE pl pe n.autos 0 = r := ⟨_, rfl⟩
  rw [hr]
  refine PCall_body Tryz.func59 rfl (by decide) Tryz.ntmps59 (by simp) Tryz.results59 ?_
  repeat' (first
 |refine AW_seq_k fun K hK=>?_|refine Step.by1 ?_|refine SBlock_exit_ne (by decide) ?_|refine cz rfl ?_|refine Fork.by2 (fun h=>?_) fun h=>?_
 |(refine AW_region_AO ?_;simp [vl, NetD.cells])
 |(refine Split.by2 (fun h=>?_) (fun h=>?_)<;>(simp [h, vl, NetD.cells]))
 |(apply hK;clear hK K)|refine AWh (by assumption) ?_)
  refine AW_range (r := r) n.autos 19 [1, 2, 6, 17, 18] (fun c : Nat => []) (fun _ => [.var n.cells, .var [.int .i64 0, .int .i64 0, .int .i64 0]]) (fun i c => c = i) (searchE pl pe) 0
    hr rfl (by apply Weak.mk' <;> simp [vl, NetD.cells]) (fun _ _ _ => rfl) ?_ ?_
  · intro i c a _ hlt ha hJ hF
    subst hJ
    rw [searchE_cons] at hF
    have hm : a ∈ n.autos := ha ▸ List.getElem_mem hlt
    have hoa := h5 a hm
    obtain ⟨_, ⟨hl1, hl2⟩, he1, he2⟩ := hoa
    have hlt' : (c : Int) < n.autos.length := by omega
    have w0 : IntKind.i64.wrap ((c : Int) + 1) = c + 1 := wrap_i64 (by omega) (by omega)
    have hsA : searchA pl pe a = match firstAt pl a.locs 0 with
      | some (k, e) => some (((k : Int), -1), e)
      | none => match firstAt pe a.edges 0 with
        | some (k, e) => some ((-1, (k : Int)), e)
        | none => none := rfl
    obtain ⟨ra, hra⟩ : ∃ ra, firstAt pl a.locs 0 = ra := ⟨_, rfl⟩
    obtain ⟨re, hre⟩ : ∃ re, firstAt pe a.edges 0 = re := ⟨_, rfl⟩
    rw [hra, hre] at hsA
    rw [hsA] at hF
    clear hsA
    repeat' (first
 |refine AW_seq_k fun K hK=>?_|refine Step.by1 ?_|refine SBlock_exit_ne (by decide) ?_|refine cz rfl ?_|refine Fork.by2 (fun h=>?_) fun h=>?_
 |(refine AW_region_AO ?_;simp [vl, NetD.cells, AutoD.cells, hlt, hlt', ha])
 |(refine Split.by2 (fun h=>?_) (fun h=>?_)<;>(simp [h, vl, NetD.cells, AutoD.cells, hlt, hlt', ha]))
 |(apply hK;clear hK K)|refine AWh (by assumption) ?_)
    refine AW_range (r := ra) a.locs 27 [1, 2, 6, 8, 9, 17, 18, 19, 25, 26] (fun c : Nat => []) (fun _ => [.var n.cells, .var [.int .i64 0, .int .i64 0, .int .i64 0], .var a.cells]) (fun i c => c = i) (firstAt pl) 0
      hra rfl (by apply Weak.mk' <;> simp [vl, NetD.cells, AutoD.cells]) (fun _ _ _ => rfl) ?_ ?_
    · intro k q x _ hkt hx hJ hG
      subst hJ
      rw [firstAt_cons] at hG
      have hc := hl a hm x (hx ▸ List.getElem_mem hkt)
      have hkt' : (q : Int) < a.locs.length := by omega
      have w1 : IntKind.i64.wrap ((q : Int) + 1) = q + 1 := wrap_i64 (by omega) (by omega)
      simp only [LocD.cells, vl] at hc
      by_cases hz : pl x = 0
      · rw [if_neg (by simp [hz])] at hG
        rw [hz] at hc
        repeat' (first
 |refine AW_seq_k fun K hK=>?_|refine Step.by1 ?_|refine SBlock_exit_ne (by decide) ?_|refine cz rfl ?_|refine Fork.by2 (fun h=>?_) fun h=>?_
 |(refine AW_region_AO ?_;simp [vl, NetD.cells, AutoD.cells, LocD.cells, hkt, hkt', hx, w1])
 |(refine Split.by2 (fun h=>?_) (fun h=>?_)<;>(simp [h, vl, NetD.cells, AutoD.cells, LocD.cells, hkt, hkt', hx, w1]))
 |(refine AS_call1 (f := fl) rfl rfl hc rfl rfl rfl ?_; simp)
 |(apply hK;clear hK K)|refine AWh (by assumption) ?_)
        exact ⟨q + 1, hG, rfl, by apply Weak.mk' <;> simp [vl, NetD.cells, AutoD.cells]⟩
      · rw [if_pos hz] at hG
        subst hG
        simp only at hF
        repeat' (first
 |refine AW_seq_k fun K hK=>?_|refine Step.by1 ?_|refine SBlock_exit_ne (by decide) ?_|refine cz rfl ?_|refine Fork.by2 (fun h=>?_) fun h=>?_
 |(refine AW_region_AO ?_;simp [vl, NetD.cells, AutoD.cells, LocD.cells, hkt, hkt', hx, w1, hz])
 |(refine Split.by2 (fun h=>?_) (fun h=>?_)<;>(simp [h, vl, NetD.cells, AutoD.cells, LocD.cells, hkt, hkt', hx, w1, hz]))
 |(refine AS_call1 (f := fl) rfl rfl hc rfl rfl rfl ?_; simp [hz])
 |(apply hK;clear hK K)|refine AWh (by assumption) ?_)
        exact retq2ct rfl (by simp) (conv_eq (by rw [← hF]; simp [spotE, spotV]) (by simp))
    · intro q hJ hG
      rw [firstAt_nil] at hG
      subst hG
      simp only at hF
      repeat' (first
 |refine AW_seq_k fun K hK=>?_|refine Step.by1 ?_|refine SBlock_exit_ne (by decide) ?_|refine cz rfl ?_|refine Fork.by2 (fun h=>?_) fun h=>?_
 |(refine AW_region_AO ?_;simp [vl, NetD.cells, AutoD.cells])
 |(refine Split.by2 (fun h=>?_) (fun h=>?_)<;>(simp [h, vl, NetD.cells, AutoD.cells]))
 |(apply hK;clear hK K)|refine AWh (by assumption) ?_)
      refine AW_range (r := re) a.edges 45 [1, 2, 6, 8, 17, 18, 19, 43, 44] (fun c : Nat => []) (fun _ => [.var n.cells, .var [.int .i64 0, .int .i64 0, .int .i64 0], .var a.cells]) (fun i c => c = i) (firstAt pe) 0
        hre rfl (by apply Weak.mk' <;> simp [vl, NetD.cells, AutoD.cells]) (fun _ _ _ => rfl) ?_ ?_
      · intro k q2 y _ hkt hy hJ2 hG
        subst hJ2
        rw [firstAt_cons] at hG
        have hc := he a hm y (hy ▸ List.getElem_mem hkt)
        have hkt' : (q2 : Int) < a.edges.length := by omega
        have w1 : IntKind.i64.wrap ((q2 : Int) + 1) = q2 + 1 := wrap_i64 (by omega) (by omega)
        simp only [EdgeD.cells, vl] at hc
        by_cases hz : pe y = 0
        · rw [if_neg (by simp [hz])] at hG
          rw [hz] at hc
          repeat' (first
 |refine AW_seq_k fun K hK=>?_|refine Step.by1 ?_|refine SBlock_exit_ne (by decide) ?_|refine cz rfl ?_|refine Fork.by2 (fun h=>?_) fun h=>?_
 |(refine AW_region_AO ?_;simp [vl, NetD.cells, AutoD.cells, EdgeD.cells, hkt, hkt', hy, w1])
 |(refine Split.by2 (fun h=>?_) (fun h=>?_)<;>(simp [h, vl, NetD.cells, AutoD.cells, EdgeD.cells, hkt, hkt', hy, w1]))
 |(refine AS_call1 (f := fe) rfl rfl hc rfl rfl rfl ?_; simp)
 |(apply hK;clear hK K)|refine AWh (by assumption) ?_)
          exact ⟨q2 + 1, hG, rfl, by apply Weak.mk' <;> simp [vl, NetD.cells, AutoD.cells]⟩
        · rw [if_pos hz] at hG
          subst hG
          simp only at hF
          repeat' (first
 |refine AW_seq_k fun K hK=>?_|refine Step.by1 ?_|refine SBlock_exit_ne (by decide) ?_|refine cz rfl ?_|refine Fork.by2 (fun h=>?_) fun h=>?_
 |(refine AW_region_AO ?_;simp [vl, NetD.cells, AutoD.cells, EdgeD.cells, hkt, hkt', hy, w1, hz])
 |(refine Split.by2 (fun h=>?_) (fun h=>?_)<;>(simp [h, vl, NetD.cells, AutoD.cells, EdgeD.cells, hkt, hkt', hy, w1, hz]))
 |(refine AS_call1 (f := fe) rfl rfl hc rfl rfl rfl ?_; simp [hz])
 |(apply hK;clear hK K)|refine AWh (by assumption) ?_)
          exact retq2ct rfl (by simp) (conv_eq (by rw [← hF]; simp [spotE, spotV]) (by simp))
      · intro q2 hJ2 hG
        rw [firstAt_nil] at hG
        subst hG
        simp only at hF
        repeat' (first
 |refine AW_seq_k fun K hK=>?_|refine Step.by1 ?_|refine SBlock_exit_ne (by decide) ?_|refine cz rfl ?_|refine Fork.by2 (fun h=>?_) fun h=>?_
 |(refine AW_region_AO ?_;simp [vl, NetD.cells, AutoD.cells, w0])
 |(refine Split.by2 (fun h=>?_) (fun h=>?_)<;>(simp [h, vl, NetD.cells, AutoD.cells, w0]))
 |(apply hK;clear hK K)|refine AWh (by assumption) ?_)
        exact ⟨c + 1, hF, rfl, by apply Weak.mk' <;> simp [vl, NetD.cells]⟩
  · intro c hJ hF
    rw [searchE_nil] at hF
    repeat' (first
 |refine AW_seq_k fun K hK=>?_|refine Step.by1 ?_|refine SBlock_exit_ne (by decide) ?_|refine cz rfl ?_|refine Fork.by2 (fun h=>?_) fun h=>?_
 |(refine AW_region_AO ?_;simp [vl, NetD.cells])
 |(refine Split.by2 (fun h=>?_) (fun h=>?_)<;>(simp [h, vl, NetD.cells]))
 |(apply hK;clear hK K)|refine AWh (by assumption) ?_)
    exact retq2ct rfl (by simp) (conv_eq (by rw [← hF]; simp [spotE, spotV]) (by simp))
end Go.Proofs.YtgmlimipejcpgaaGreatDoor
end

section
set_option linter.unusedVariables false
set_option linter.unusedSimpArgs false
namespace Go.Proofs.YtgmlimipejcpgaaGreatDoor
open Go Go.AM Fx
def sizeSet (s : SetD) : Bool := decide (64 < s.expr.length)
def sizeLoc (x : LocD) : Bool := decide (16 < x.inv.length)
def sizeEdge (e : EdgeD) : Bool := decide (16 < e.guards.length ∨ 16 < e.sets.length ∨ 64 < e.test.length) || anyL sizeSet e.sets
def sizeAuto (a : AutoD) : Bool := decide (64 < a.locs.length ∨ 256 < a.edges.length) || (anyL sizeLoc a.locs || anyL sizeEdge a.edges)
def sizeNet (n : NetD) : Bool := decide (8 < n.clocks.length ∨ 16 < n.vars.length ∨ 16 < n.chans.length ∨ 8 < n.autos.length) || anyL sizeAuto n.autos
def sizesE (n : NetD) : Int := if sizeNet n = true then 6 else 0
set_option maxRecDepth 8000 in
set_option maxHeartbeats 8000000 in
theorem c_sizes (n : NetD) (hn : n.ok) : PC 129 [.agg n.cells] (.int .i64 (sizesE n)) := by
  obtain ⟨⟨h1, _⟩, ⟨h2, _⟩, ⟨h3, _⟩, h4, h5⟩ := hn
  refine PCall_body Tryz.func129 rfl (by decide) Tryz.ntmps129 (by simp) Tryz.results129 ?_
  by_cases h0 : 8 < n.clocks.length ∨ 16 < n.vars.length ∨ 16 < n.chans.length ∨ 8 < n.autos.length
  · have hs : sizesE n = 6 := by simp [sizesE, sizeNet, h0]
    repeat' (first
 |refine AW_seq_k fun K hK=>?_|refine Step.by1 ?_|refine SBlock_exit_ne (by decide) ?_|refine cz rfl ?_|refine Fork.by2 (fun h=>?_) fun h=>?_
 |(refine AW_region_AO ?_;simp [vl, NetD.cells])
 |(refine Split.by2 (fun h=>?_) (fun h=>?_)<;>(simp [h, vl, NetD.cells]))
 |(apply hK;clear hK K)|refine AWh (by assumption) ?_)
    all_goals first
      | exact retq1 (conv_eq (by simp [hs]) rfl)
      | (exfalso; omega)
      | trace_state
  · have hs : sizesE n = if anyL sizeAuto n.autos = true then 6 else 0 := by simp [sizesE, sizeNet, h0]
    have k1 : ¬ (8 : Int) < n.clocks.length := by omega
    have k2 : ¬ (16 : Int) < n.vars.length := by omega
    have k3 : ¬ (16 : Int) < n.chans.length := by omega
    have k4 : ¬ (8 : Int) < n.autos.length := by omega
    rw [hs]
    obtain ⟨E, hE⟩ : ∃ E : List AutoD → Int, E = fun l => if anyL sizeAuto l = true then 6 else 0 := ⟨_, rfl⟩
    have hEc : ∀ a l, E (a :: l) = if sizeAuto a = true then 6 else E l := fun a l => by subst hE; by_cases h : sizeAuto a = true <;> simp [anyL_cons, h]
    have hEn : (if anyL sizeAuto n.autos = true then (6 : Int) else 0) = E n.autos := by subst hE; rfl
    have hE0 : E [] = 0 := by subst hE; rfl
    rw [hEn]
    repeat' (first
 |refine AW_seq_k fun K hK=>?_|refine Step.by1 ?_|refine SBlock_exit_ne (by decide) ?_|refine cz rfl ?_|refine Fork.by2 (fun h=>?_) fun h=>?_
 |(refine AW_region_AO ?_;simp [vl, NetD.cells, k1, k2, k3, k4])
 |(refine Split.by2 (fun h=>?_) (fun h=>?_)<;>(simp [h, vl, NetD.cells, k1, k2, k3, k4]))
 |(apply hK;clear hK K)|refine AWh (by assumption) ?_)
    refine AW_scan (n.autos) 36 [34, 35] (E) rfl (by apply Weak.mk' <;> simp [vl]) ?_ ?_
    · intro i a _ hlt ha hF
      have hoa := h5 a (ha ▸ List.getElem_mem hlt)
      obtain ⟨_, ⟨hl1, hl2⟩, he1, he2⟩ := hoa
      rw [hEc] at hF
      by_cases hA : 64 < a.locs.length ∨ 256 < a.edges.length
      · have hA' : sizeAuto a = true := by simp [sizeAuto, hA]
        rw [if_pos hA'] at hF
        repeat' (first
 |refine AW_seq_k fun K hK=>?_|refine Step.by1 ?_|refine SBlock_exit_ne (by decide) ?_|refine cz rfl ?_|refine Fork.by2 (fun h=>?_) fun h=>?_
 |(refine AW_region_AO ?_;simp [vl, AutoD.cells, hlt, ha, wrap_i64];try (simp (disch:=omega) only [wrap_i64];try simp [vl, AutoD.cells, hlt, ha, wrap_i64]))
 |(refine Split.by2 (fun h=>?_) (fun h=>?_)<;>(simp [h, vl, AutoD.cells, hlt, ha, wrap_i64];try (simp (disch:=omega) only [wrap_i64];try simp [vl, AutoD.cells, hlt, ha, wrap_i64])))
 |(apply hK;clear hK K)|refine AWh (by assumption) ?_)
        all_goals first
          | exact retq1 (conv_eq (by simp [← hF]) rfl)
          | (exfalso; omega)
          | trace_state
      · have hA' : sizeAuto a = (anyL sizeLoc a.locs || anyL sizeEdge a.edges) := by simp [sizeAuto, hA]
        have j1 : ¬ (64 : Int) < a.locs.length := by omega
        have j2 : ¬ (256 : Int) < a.edges.length := by omega
        rw [hA'] at hF
        repeat' (first
 |refine AW_seq_k fun K hK=>?_|refine Step.by1 ?_|refine SBlock_exit_ne (by decide) ?_|refine cz rfl ?_|refine Fork.by2 (fun h=>?_) fun h=>?_
 |(refine AW_region_AO ?_;simp [vl, AutoD.cells, hlt, ha, j1, j2, wrap_i64];try (simp (disch:=omega) only [wrap_i64];try simp [vl, AutoD.cells, hlt, ha, j1, j2, wrap_i64]))
 |(refine Split.by2 (fun h=>?_) (fun h=>?_)<;>(simp [h, vl, AutoD.cells, hlt, ha, j1, j2, wrap_i64];try (simp (disch:=omega) only [wrap_i64];try simp [vl, AutoD.cells, hlt, ha, j1, j2, wrap_i64])))
 |(apply hK;clear hK K)|refine AWh (by assumption) ?_)
        refine AW_scan (a.locs) 53 [4, 34, 35, 36, 51, 52] (anyL sizeLoc) rfl (by apply Weak.mk' <;> simp [vl]) ?_ ?_
        · intro k x _ hkt hx hG
          rw [anyL_cons] at hG
          repeat' (first
 |refine AW_seq_k fun K hK=>?_|refine Step.by1 ?_|refine SBlock_exit_ne (by decide) ?_|refine cz rfl ?_|refine Fork.by2 (fun h=>?_) fun h=>?_
 |(refine AW_region_AO ?_;simp [vl, LocD.cells, hkt, hx, wrap_i64];try (simp (disch:=omega) only [wrap_i64];try simp [vl, LocD.cells, hkt, hx, wrap_i64]))
 |(refine Split.by2 (fun h=>?_) (fun h=>?_)<;>(simp [h, vl, LocD.cells, hkt, hx, wrap_i64];try (simp (disch:=omega) only [wrap_i64];try simp [vl, LocD.cells, hkt, hx, wrap_i64])))
 |(apply hK;clear hK K)|refine AWh (by assumption) ?_)
          all_goals first
            | exact retq1 (conv_eq (by rw [← hF, ← hG]; simp [sizeLoc]; omega) rfl)
            | (refine ⟨by rw [← hG]; simp [sizeLoc]; omega, ?_⟩; apply Weak.mk' <;> simp [vl])
            | trace_state
        · intro hG
          rw [← hG, anyL_nil, Bool.false_or] at hF
          repeat' (first
 |refine AW_seq_k fun K hK=>?_|refine Step.by1 ?_|refine SBlock_exit_ne (by decide) ?_|refine cz rfl ?_|refine Fork.by2 (fun h=>?_) fun h=>?_
 |(refine AW_region_AO ?_;simp [vl, wrap_i64];try (simp (disch:=omega) only [wrap_i64];try simp [vl, wrap_i64]))
 |(refine Split.by2 (fun h=>?_) (fun h=>?_)<;>(simp [h, vl, wrap_i64];try (simp (disch:=omega) only [wrap_i64];try simp [vl, wrap_i64])))
 |(apply hK;clear hK K)|refine AWh (by assumption) ?_)
          refine AW_scan (a.edges) 65 [34, 35, 36, 63, 64] (anyL sizeEdge) rfl (by apply Weak.mk' <;> simp [vl]) ?_ ?_
          · intro m y _ hmt hy hM
            have hoy := he2 y (hy ▸ List.getElem_mem hmt)
            have ok7 := hoy.2.2.2.2.2.2.1
            rw [anyL_cons] at hM
            by_cases hY : 16 < y.guards.length ∨ 16 < y.sets.length ∨ 64 < y.test.length
            · have hY' : sizeEdge y = true := by simp [sizeEdge, hY]
              rw [hY', Bool.true_or] at hM
              rw [← hM] at hF
              repeat' (first
 |refine AW_seq_k fun K hK=>?_|refine Step.by1 ?_|refine SBlock_exit_ne (by decide) ?_|refine cz rfl ?_|refine Fork.by2 (fun h=>?_) fun h=>?_
 |(refine AW_region_AO ?_;simp [vl, EdgeD.cells, hmt, hy, wrap_i64];try (simp (disch:=omega) only [wrap_i64];try simp [vl, EdgeD.cells, hmt, hy, wrap_i64]))
 |(refine Split.by2 (fun h=>?_) (fun h=>?_)<;>(simp [h, vl, EdgeD.cells, hmt, hy, wrap_i64];try (simp (disch:=omega) only [wrap_i64];try simp [vl, EdgeD.cells, hmt, hy, wrap_i64])))
 |(apply hK;clear hK K)|refine AWh (by assumption) ?_)
              all_goals first
                | exact retq1 (conv_eq (by simp [← hF]) rfl)
                | (exfalso; omega)
                | trace_state
            · have hY' : sizeEdge y = anyL sizeSet y.sets := by simp [sizeEdge, hY]
              have i1 : ¬ (16 : Int) < y.guards.length := by omega
              have i2 : ¬ (16 : Int) < y.sets.length := by omega
              have i3 : ¬ (64 : Int) < y.test.length := by omega
              rw [hY'] at hM
              repeat' (first
 |refine AW_seq_k fun K hK=>?_|refine Step.by1 ?_|refine SBlock_exit_ne (by decide) ?_|refine cz rfl ?_|refine Fork.by2 (fun h=>?_) fun h=>?_
 |(refine AW_region_AO ?_;simp [vl, EdgeD.cells, hmt, hy, i1, i2, i3, wrap_i64];try (simp (disch:=omega) only [wrap_i64];try simp [vl, EdgeD.cells, hmt, hy, i1, i2, i3, wrap_i64]))
 |(refine Split.by2 (fun h=>?_) (fun h=>?_)<;>(simp [h, vl, EdgeD.cells, hmt, hy, i1, i2, i3, wrap_i64];try (simp (disch:=omega) only [wrap_i64];try simp [vl, EdgeD.cells, hmt, hy, i1, i2, i3, wrap_i64])))
 |(apply hK;clear hK K)|refine AWh (by assumption) ?_)
              refine AW_scan (y.sets) 88 [34, 35, 36, 63, 64, 65, 86, 87] (anyL sizeSet) rfl (by apply Weak.mk' <;> simp [vl]) ?_ ?_
              · intro q z _ hqt hz hQ
                rw [anyL_cons] at hQ
                repeat' (first
 |refine AW_seq_k fun K hK=>?_|refine Step.by1 ?_|refine SBlock_exit_ne (by decide) ?_|refine cz rfl ?_|refine Fork.by2 (fun h=>?_) fun h=>?_
 |(refine AW_region_AO ?_;simp [vl, SetD.cells, hqt, hz, wrap_i64];try (simp (disch:=omega) only [wrap_i64];try simp [vl, SetD.cells, hqt, hz, wrap_i64]))
 |(refine Split.by2 (fun h=>?_) (fun h=>?_)<;>(simp [h, vl, SetD.cells, hqt, hz, wrap_i64];try (simp (disch:=omega) only [wrap_i64];try simp [vl, SetD.cells, hqt, hz, wrap_i64])))
 |(apply hK;clear hK K)|refine AWh (by assumption) ?_)
                all_goals first
                  | exact retq1 (conv_eq (by rw [← hF, ← hM, ← hQ]; simp [sizeSet]; omega) rfl)
                  | (refine ⟨by rw [← hQ]; simp [sizeSet]; omega, ?_⟩; apply Weak.mk' <;> simp [vl])
                  | trace_state
              · intro hQ
                rw [← hQ, anyL_nil, Bool.false_or] at hM
                repeat' (first
 |refine AW_seq_k fun K hK=>?_|refine Step.by1 ?_|refine SBlock_exit_ne (by decide) ?_|refine cz rfl ?_|refine Fork.by2 (fun h=>?_) fun h=>?_
 |(refine AW_region_AO ?_;simp [vl, wrap_i64];try (simp (disch:=omega) only [wrap_i64];try simp [vl, wrap_i64]))
 |(refine Split.by2 (fun h=>?_) (fun h=>?_)<;>(simp [h, vl, wrap_i64];try (simp (disch:=omega) only [wrap_i64];try simp [vl, wrap_i64])))
 |(apply hK;clear hK K)|refine AWh (by assumption) ?_)
                all_goals first
                  | (refine ⟨hM, ?_⟩; apply Weak.mk' <;> simp [vl])
                  | trace_state
          · intro hM
            rw [← hM, anyL_nil] at hF
            repeat' (first
 |refine AW_seq_k fun K hK=>?_|refine Step.by1 ?_|refine SBlock_exit_ne (by decide) ?_|refine cz rfl ?_|refine Fork.by2 (fun h=>?_) fun h=>?_
 |(refine AW_region_AO ?_;simp [vl, wrap_i64];try (simp (disch:=omega) only [wrap_i64];try simp [vl, wrap_i64]))
 |(refine Split.by2 (fun h=>?_) (fun h=>?_)<;>(simp [h, vl, wrap_i64];try (simp (disch:=omega) only [wrap_i64];try simp [vl, wrap_i64])))
 |(apply hK;clear hK K)|refine AWh (by assumption) ?_)
            all_goals first
              | (refine ⟨by simpa using hF, ?_⟩; apply Weak.mk' <;> simp [vl])
              | trace_state
    · intro hF
      repeat' (first
 |refine AW_seq_k fun K hK=>?_|refine Step.by1 ?_|refine SBlock_exit_ne (by decide) ?_|refine cz rfl ?_|refine Fork.by2 (fun h=>?_) fun h=>?_
 |(refine AW_region_AO ?_;simp [vl])
 |(refine Split.by2 (fun h=>?_) (fun h=>?_)<;>(simp [h, vl]))
 |(apply hK;clear hK K)|refine AWh (by assumption) ?_)
      exact retq1 (conv_eq (by rw [← hF, hE0]; simp) rfl)
end Go.Proofs.YtgmlimipejcpgaaGreatDoor
end

section
set_option linter.unusedVariables false
set_option linter.unusedSimpArgs false
namespace Go.Proofs.YtgmlimipejcpgaaGreatDoor
open Go Go.AM Fx
def catF {α β : Type} (f : α → List β) (l : List α) (acc : Nat × List β) : List β := acc.2 ++ l.flatMap f
theorem catF_nil {α β : Type} {f : α → List β} {acc : Nat × List β} : catF f [] acc = acc.2 := by simp [catF]
theorem catF_cons {α β : Type} {f : α → List β} {x : α} {l : List α} {acc : Nat × List β} (g : Nat) : catF f (x :: l) acc = catF f l (g, acc.2 ++ f x) := by simp [catF]
def guardsA (a : AutoD) : List GuardD := a.locs.flatMap (·.inv) ++ a.edges.flatMap (·.guards)
def guardsL (n : NetD) : List GuardD := n.autos.flatMap guardsA
def setsA (a : AutoD) : List SetD := a.edges.flatMap (·.sets)
def setsL (n : NetD) : List SetD := n.autos.flatMap setsA
/-- What a network that is not too great holds. -/
structure Small (n : NetD) : Prop where
  clocks : n.clocks.length ≤ 8
  vars : n.vars.length ≤ 16
  chans : n.chans.length ≤ 16
  autos : n.autos.length ≤ 8
  locs : ∀ a ∈ n.autos, a.locs.length ≤ 64
  edges : ∀ a ∈ n.autos, a.edges.length ≤ 256
  inv : ∀ a ∈ n.autos, ∀ x ∈ a.locs, x.inv.length ≤ 16
  guards : ∀ a ∈ n.autos, ∀ x ∈ a.edges, x.guards.length ≤ 16
  sets : ∀ a ∈ n.autos, ∀ x ∈ a.edges, x.sets.length ≤ 16
  test : ∀ a ∈ n.autos, ∀ x ∈ a.edges, x.test.length ≤ 64
  expr : ∀ a ∈ n.autos, ∀ x ∈ a.edges, ∀ s ∈ x.sets, s.expr.length ≤ 64
theorem anyL_false {α : Type} {p : α → Bool} {l : List α} (h : anyL p l = false) : ∀ x ∈ l, p x = false := by
  unfold anyL at h; rw [List.any_eq_false] at h; intro x hx; simpa using h x hx
theorem small_of {n : NetD} (h : sizeNet n = false) : Small n := by
  unfold sizeNet at h
  rw [Bool.or_eq_false_iff] at h
  obtain ⟨h1, h2⟩ := h
  simp only [decide_eq_false_iff_not] at h1
  have ha := fun a (m : a ∈ n.autos) => anyL_false h2 a m
  have hb : ∀ a ∈ n.autos, ¬ (64 < a.locs.length ∨ 256 < a.edges.length) ∧ anyL sizeLoc a.locs = false ∧ anyL sizeEdge a.edges = false := fun a m => by
    have := ha a m
    unfold sizeAuto at this
    rw [Bool.or_eq_false_iff, Bool.or_eq_false_iff] at this
    exact ⟨by simpa using this.1, this.2.1, this.2.2⟩
  have hc : ∀ a ∈ n.autos, ∀ x ∈ a.edges, ¬ (16 < x.guards.length ∨ 16 < x.sets.length ∨ 64 < x.test.length) ∧ anyL sizeSet x.sets = false := fun a m x mx => by
    have := anyL_false (hb a m).2.2 x mx
    unfold sizeEdge at this
    rw [Bool.or_eq_false_iff] at this
    exact ⟨by simpa using this.1, this.2⟩
  refine ⟨by omega, by omega, by omega, by omega, fun a m => ?_, fun a m => ?_, fun a m x mx => ?_, fun a m x mx => ?_, fun a m x mx => ?_, fun a m x mx => ?_, fun a m x mx s ms => ?_⟩
  · have := (hb a m).1; omega
  · have := (hb a m).1; omega
  · have := anyL_false (hb a m).2.1 x mx; simp [sizeLoc] at this; omega
  · have := (hc a m x mx).1; omega
  · have := (hc a m x mx).1; omega
  · have := (hc a m x mx).1; omega
  · have := anyL_false (hc a m x mx).2 s ms; simp [sizeSet] at this; omega
theorem conv1_own {h : List B} {b g : Nat} {T : TypeId} {xs : List (List V)} {n : Nat} (hb : h[b]? = some (.row T g 0 true xs)) (hn : n = xs.length) : Conv1 h (.ref b g 0 n) (.own T xs) := by subst hn; exact .inr ⟨b, g, T, xs, rfl, hb, rfl⟩
set_option maxRecDepth 8000 in
set_option maxHeartbeats 8000000 in
theorem c_guards (n : NetD) (hz : Small n) : PC 191 [.agg n.cells] (vl GuardD.cells (guardsL n)) := by
  have hgoal : PC 191 [.agg n.cells] (.own 127 ((guardsL n).map GuardD.cells)) := by
    refine PCall_body Tryz.func191 rfl (by decide) Tryz.ntmps191 (by simp) Tryz.results191 ?_
    repeat' (first
 |refine AW_nilrow 3 127 rfl (by simp) ?_
 |refine AW_seq_k fun K hK=>?_|refine Step.by1 ?_|refine SBlock_exit_ne (by decide) ?_|refine cz rfl ?_|refine Fork.by2 (fun h=>?_) fun h=>?_
 |(refine AW_region_AO ?_;simp [vl, NetD.cells])
 |(refine Split.by2 (fun h=>?_) (fun h=>?_)<;>(simp [h, vl, NetD.cells]))
 |(apply hK;clear hK K)|refine AWh (by assumption) ?_)
    refine AW_range n.autos 13 [11, 12] (fun c : Nat × List GuardD => [(3, .ref 1 c.1 0 c.2.length)]) (fun c => [.var n.cells, .row 127 c.1 0 true (c.2.map GuardD.cells)]) (fun i c => c.2.length ≤ i * 5120) (catF guardsA) (0, []) (r := guardsL n)
      (by simp [catF, guardsL]) (by simp) (by apply Weak.mk' <;> simp [vl, NetD.cells]) (fun _ _ _ => rfl) ?_ ?_
    · rintro i ⟨g, out⟩ a _ hlt ha hJ hF
      have hm : a ∈ n.autos := ha ▸ List.getElem_mem hlt
      have b1 := hz.autos
      have b2 := hz.locs a hm
      have b3 := hz.edges a hm
      simp only at hJ hF
      repeat' (first
 |refine AW_seq_k fun K hK=>?_|refine Step.by1 ?_|refine SBlock_exit_ne (by decide) ?_|refine cz rfl ?_|refine Fork.by2 (fun h=>?_) fun h=>?_
 |(refine AW_region_AO ?_;simp [vl, AutoD.cells, NetD.cells, hlt, ha, wrap_i64];try (simp (disch:=omega) only [wrap_i64];try simp [vl, AutoD.cells, NetD.cells, hlt, ha, wrap_i64]))
 |(refine Split.by2 (fun h=>?_) (fun h=>?_)<;>(simp [h, vl, AutoD.cells, NetD.cells, hlt, ha, wrap_i64];try (simp (disch:=omega) only [wrap_i64];try simp [vl, AutoD.cells, NetD.cells, hlt, ha, wrap_i64])))
 |(apply hK;clear hK K)|refine AWh (by assumption) ?_)
      obtain ⟨r1, hr1⟩ : ∃ r1, catF LocD.inv a.locs (g, out) = r1 := ⟨_, rfl⟩
      refine AW_range a.locs 20 [5, 11, 12, 13, 18, 19] (fun c : Nat × List GuardD => [(3, .ref 1 c.1 0 c.2.length)]) (fun c => [.var n.cells, .row 127 c.1 0 true (c.2.map GuardD.cells), .var a.cells]) (fun k c => c.2.length ≤ out.length + k * 16) (catF LocD.inv) (g, out) hr1
        (by simp) (by apply Weak.mk' <;> simp [vl, NetD.cells, AutoD.cells]) (fun _ _ _ => rfl) ?_ ?_
      · rintro k ⟨g1, o1⟩ x _ hkt hx hK hG
        have b4 := hz.inv a hm x (hx ▸ List.getElem_mem hkt)
        simp only at hK
        rw [catF_cons (g1 + 1)] at hG
        have htk : (x.inv.map GuardD.cells).take x.inv.length = x.inv.map GuardD.cells := List.take_of_length_le (by simp)
        have hby : (o1.length + x.inv.length) * 32 ≤ 140737488355328 := by omega
        have hlg : ∀ z : GuardD, z.cells.length = 4 := fun _ => rfl
        repeat' (first
 |refine AW_seq_k fun K hK=>?_|refine Step.by1 ?_|refine SBlock_exit_ne (by decide) ?_|refine cz rfl ?_|refine Fork.by2 (fun h=>?_) fun h=>?_
 |(refine AW_region_AO ?_;simp [vl, AutoD.cells, LocD.cells, NetD.cells, hkt, hx, htk, hby, wrap_i64];try (simp (disch:=omega) only [wrap_i64];try simp [vl, AutoD.cells, LocD.cells, NetD.cells, hkt, hx, htk, hby, wrap_i64]))
 |(refine Split.by2 (fun h=>?_) (fun h=>?_)<;>(simp [h, vl, AutoD.cells, LocD.cells, NetD.cells, hkt, hx, htk, hby, wrap_i64];try (simp (disch:=omega) only [wrap_i64];try simp [vl, AutoD.cells, LocD.cells, NetD.cells, hkt, hx, htk, hby, wrap_i64])))
 |(apply hK;clear hK K)|refine AWh (by assumption) ?_)
        exact ⟨g1 + 1, o1 ++ x.inv, hG, by simp; omega, by apply Weak.mk' <;> simp [vl, NetD.cells, AutoD.cells]⟩
      · rintro ⟨g1, o1⟩ hK hG
        rw [catF_nil] at hG
        simp only at hK hG
        subst hG
        simp only [catF] at hr1
        repeat' (first
 |refine AW_seq_k fun K hK=>?_|refine Step.by1 ?_|refine SBlock_exit_ne (by decide) ?_|refine cz rfl ?_|refine Fork.by2 (fun h=>?_) fun h=>?_
 |(refine AW_region_AO ?_;simp [vl, AutoD.cells, NetD.cells, wrap_i64];try (simp (disch:=omega) only [wrap_i64];try simp [vl, AutoD.cells, NetD.cells, wrap_i64]))
 |(refine Split.by2 (fun h=>?_) (fun h=>?_)<;>(simp [h, vl, AutoD.cells, NetD.cells, wrap_i64];try (simp (disch:=omega) only [wrap_i64];try simp [vl, AutoD.cells, NetD.cells, wrap_i64])))
 |(apply hK;clear hK K)|refine AWh (by assumption) ?_)
        obtain ⟨r2, hr2⟩ : ∃ r2, catF EdgeD.guards a.edges (g1, o1) = r2 := ⟨_, rfl⟩
        refine AW_range a.edges 32 [11, 12, 13, 30, 31] (fun c : Nat × List GuardD => [(3, .ref 1 c.1 0 c.2.length)]) (fun c => [.var n.cells, .row 127 c.1 0 true (c.2.map GuardD.cells), .var a.cells]) (fun k c => c.2.length ≤ o1.length + k * 16) (catF EdgeD.guards) (g1, o1) hr2
          (by simp) (by apply Weak.mk' <;> simp [vl, NetD.cells, AutoD.cells]) (fun _ _ _ => rfl) ?_ ?_
        · rintro k ⟨g2, o2⟩ x _ hkt hx hK2 hG
          have b4 := hz.guards a hm x (hx ▸ List.getElem_mem hkt)
          simp only at hK2
          rw [catF_cons (g2 + 1)] at hG
          have htk : (x.guards.map GuardD.cells).take x.guards.length = x.guards.map GuardD.cells := List.take_of_length_le (by simp)
          have hby : (o2.length + x.guards.length) * 32 ≤ 140737488355328 := by omega
          repeat' (first
 |refine AW_seq_k fun K hK=>?_|refine Step.by1 ?_|refine SBlock_exit_ne (by decide) ?_|refine cz rfl ?_|refine Fork.by2 (fun h=>?_) fun h=>?_
 |(refine AW_region_AO ?_;simp [vl, AutoD.cells, EdgeD.cells, NetD.cells, hkt, hx, htk, hby, wrap_i64];try (simp (disch:=omega) only [wrap_i64];try simp [vl, AutoD.cells, EdgeD.cells, NetD.cells, hkt, hx, htk, hby, wrap_i64]))
 |(refine Split.by2 (fun h=>?_) (fun h=>?_)<;>(simp [h, vl, AutoD.cells, EdgeD.cells, NetD.cells, hkt, hx, htk, hby, wrap_i64];try (simp (disch:=omega) only [wrap_i64];try simp [vl, AutoD.cells, EdgeD.cells, NetD.cells, hkt, hx, htk, hby, wrap_i64])))
 |(apply hK;clear hK K)|refine AWh (by assumption) ?_)
          exact ⟨g2 + 1, o2 ++ x.guards, hG, by simp; omega, by apply Weak.mk' <;> simp [vl, NetD.cells, AutoD.cells]⟩
        · rintro ⟨g2, o2⟩ hK2 hG
          rw [catF_nil] at hG
          simp only at hK2 hG
          subst hG
          simp only [catF] at hr2
          rw [catF_cons g2] at hF
          have ho : out ++ guardsA a = o2 := by rw [← hr2, ← hr1]; simp [guardsA]
          simp only at hF
          rw [ho] at hF
          repeat' (first
 |refine AW_seq_k fun K hK=>?_|refine Step.by1 ?_|refine SBlock_exit_ne (by decide) ?_|refine cz rfl ?_|refine Fork.by2 (fun h=>?_) fun h=>?_
 |(refine AW_region_AO ?_;simp [vl, AutoD.cells, NetD.cells, wrap_i64];try (simp (disch:=omega) only [wrap_i64];try simp [vl, AutoD.cells, NetD.cells, wrap_i64]))
 |(refine Split.by2 (fun h=>?_) (fun h=>?_)<;>(simp [h, vl, AutoD.cells, NetD.cells, wrap_i64];try (simp (disch:=omega) only [wrap_i64];try simp [vl, AutoD.cells, NetD.cells, wrap_i64])))
 |(apply hK;clear hK K)|refine AWh (by assumption) ?_)
          exact ⟨g2, o2, hF, by omega, by apply Weak.mk' <;> simp [vl, NetD.cells]⟩
    · rintro ⟨g, out⟩ hJ hF
      rw [catF_nil] at hF
      simp only at hF
      subst hF
      repeat' (first
 |refine AW_seq_k fun K hK=>?_|refine Step.by1 ?_|refine SBlock_exit_ne (by decide) ?_|refine cz rfl ?_|refine Fork.by2 (fun h=>?_) fun h=>?_
 |(refine AW_region_AO ?_;simp [vl, NetD.cells])
 |(refine Split.by2 (fun h=>?_) (fun h=>?_)<;>(simp [h, vl, NetD.cells]))
 |(apply hK;clear hK K)|refine AWh (by assumption) ?_)
      exact retq1 (.inr (.inl (conv1_own rfl (by simp))))
  have := hgoal.freeze
  simpa [vl] using this
end Go.Proofs.YtgmlimipejcpgaaGreatDoor
end
