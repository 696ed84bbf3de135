/-
  YtgmlimipejcpgaaDoorLo02: steps of the proof of a law of the program: what these texts prove holds under the hypotheses that their theorems name, and no others.
-/
import Derived.Test.YtgmlimipejcpgaaDoorLo01
section
set_option linter.unusedSimpArgs false
set_option linter.unusedVariables false
namespace Go.Proofs.YtgmlimipejcpgaaDoor
open Go Go.AM Fx
set_option maxRecDepth 20000 in
set_option maxHeartbeats 8000000 in
theorem c_luLook (n : NetD) (hn : n.ok) (gs : List (List PartD)) (hgl : gs.length ≤ 1048577) (hgs : ∀ g ∈ gs, okGoal g) : PC 96 [.agg n.cells, gsV gs] (.int .i64 (lookE n gs)) := by
  have hN := c_Net n hn
  obtain ⟨r, hr⟩ : ∃ r, lookE n gs = r := ⟨_, rfl⟩
  rw [hr]
  unfold lookE at hr
  simp only [vl, NetD.cells] at hN
  refine pB Tryd.func96 rfl (by decide) Tryd.ntmps96 (by simp) Tryd.results96 ?_
  by_cases hz : netE n = 0
  · rw [if_neg (by simp [hz])] at hr
    rw [hz] at hN
    repeat' (first
 |refine aK fun K hK=>?_|refine Step.by1 ?_|refine sE (by decide) ?_|refine cz rfl ?_|refine Fork.by2 (fun h=>?_) fun h=>?_
 |((first|refine aR ?_|refine aC (f:=10) rfl rfl (hN) rfl rfl rfl ?_);simp [gsV, vl, NetD.cells])
 |(refine Split.by2 (fun h=>?_) (fun h=>?_)<;>(simp [h, gsV, vl, NetD.cells]))
 |(apply hK;clear hK K)|refine AWh ‹_› ?_)
    refine aS1 (r := r) gs 16 [2, 14, 15] (lookF n) hr (by apply Weak.mk' <;> simp [gsV, vl, NetD.cells]) ?_ ?_
    · intro i g _ hlt hg hF
      rw [lookF_cons] at hF
      have hc := c_Goal n hn g (hgs g (hg ▸ List.getElem_mem hlt))
      have hlt' : (i : Int) < gs.length := by omega
      have w1 : IntKind.i64.wrap ((i : Int) + 1) = i + 1 := wI (by omega) (by omega)
      simp only [vl, NetD.cells] at hc
      generalize goalE n g = e at *
      by_cases he : e = 0
      · rw [if_neg (by simp [he])] at hF
        rw [he] at hc
        repeat' (first
 |refine aK fun K hK=>?_|refine Step.by1 ?_|refine sE (by decide) ?_|refine cz rfl ?_|refine Fork.by2 (fun h=>?_) fun h=>?_
 |((first|refine aR ?_|refine aC (f:=66) rfl rfl (hc) rfl rfl rfl ?_);simp [gsV, vl, NetD.cells, hlt, hlt', hg, w1])
 |(refine Split.by2 (fun h=>?_) (fun h=>?_)<;>(simp [h, gsV, vl, NetD.cells, hlt, hlt', hg, w1]))
 |(apply hK;clear hK K)|refine AWh ‹_› ?_)
        refine ⟨hF, ?_⟩; apply Weak.mk' <;> simp [gsV, vl, NetD.cells]
      · rw [if_pos he] at hF
        subst hF
        repeat' (first
 |refine aK fun K hK=>?_|refine Step.by1 ?_|refine sE (by decide) ?_|refine cz rfl ?_|refine Fork.by2 (fun h=>?_) fun h=>?_
 |((first|refine aR ?_|refine aC (f:=66) rfl rfl (hc) rfl rfl rfl ?_);simp [gsV, vl, NetD.cells, hlt, hlt', hg, he])
 |(refine Split.by2 (fun h=>?_) (fun h=>?_)<;>(simp [h, gsV, vl, NetD.cells, hlt, hlt', hg, he]))
 |(apply hK;clear hK K)|refine AWh ‹_› ?_)
        exact r1q (cE rfl rfl)
    · intro hF
      rw [lookF_nil] at hF
      repeat' (first
 |refine aK fun K hK=>?_|refine Step.by1 ?_|refine sE (by decide) ?_|refine cz rfl ?_|refine Fork.by2 (fun h=>?_) fun h=>?_
 |(refine aR ?_;simp [gsV, vl, NetD.cells])
 |(refine Split.by2 (fun h=>?_) (fun h=>?_)<;>(simp [h, gsV, vl, NetD.cells]))
 |(apply hK;clear hK K)|refine AWh ‹_› ?_)
      exact r1q (cE (by rw [← hF]; rfl) rfl)
  · rw [if_pos hz] at hr
    subst hr
    repeat' (first
 |refine aK fun K hK=>?_|refine Step.by1 ?_|refine sE (by decide) ?_|refine cz rfl ?_|refine Fork.by2 (fun h=>?_) fun h=>?_
 |((first|refine aR ?_|refine aC (f:=10) rfl rfl (hN) rfl rfl rfl ?_);simp [gsV, vl, NetD.cells, hz])
 |(refine Split.by2 (fun h=>?_) (fun h=>?_)<;>(simp [h, gsV, vl, NetD.cells, hz]))
 |(apply hK;clear hK K)|refine AWh ‹_› ?_)
    exact r1q (cE rfl rfl)
theorem c_isBelow (c : Int) : PC 98 [.int .u8 c] (.bool (lowB c)) := by
  refine pB Tryd.func98 rfl (by decide) Tryd.ntmps98 (by simp) Tryd.results98 ?_
  repeat' (first
 |refine aK fun K hK=>?_|refine Step.by1 ?_|refine sE (by decide) ?_|refine cz rfl ?_|refine Fork.by2 (fun h=>?_) fun h=>?_
 |(refine aR ?_;simp)
 |(refine Split.by2 (fun h=>?_) (fun h=>?_)<;>(simp [h]))
 |(apply hK;clear hK K)|refine AWh ‹_› ?_)
  all_goals exact r1q (cE (by simp [lowB, *]) rfl)
theorem c_isAbove (c : Int) : PC 99 [.int .u8 c] (.bool (upB c)) := by
  refine pB Tryd.func99 rfl (by decide) Tryd.ntmps99 (by simp) Tryd.results99 ?_
  repeat' (first
 |refine aK fun K hK=>?_|refine Step.by1 ?_|refine sE (by decide) ?_|refine cz rfl ?_|refine Fork.by2 (fun h=>?_) fun h=>?_
 |(refine aR ?_;simp)
 |(refine Split.by2 (fun h=>?_) (fun h=>?_)<;>(simp [h]))
 |(apply hK;clear hK K)|refine AWh ‹_› ?_)
  all_goals exact r1q (cE (by simp [upB, *]) rfl)
set_option maxRecDepth 20000 in
set_option maxHeartbeats 8000000 in
theorem c_luRaise {h : List B} {mr gm N : Nat} {fl : Bool} {ids : List (Nat × Nat)} {m : List (List Int)} (p0 : MR 30 3 ivs h mr gm fl ids N m h) (hN : N ≤ 1048576) (fso : Nat) (so : Int → Bool) (hso : ∀ c, PC fso [.int .u8 c] (.bool (so c))) {p : Nat} {x : Nat × Nat} {r : List Int} (hx : ids[p]? = some x) (hr : m[p]? = some r)
    (l : List GuardD) (hl : l.length ≤ 1048576) (hg : ∀ g ∈ l, okG N g) :
    GCall Tryd.prog GV 111 [.ref mr gm 0 ids.length, .int .i64 p, vl GuardD.cells l, .fn (.func fso) [] []] h (fun v h' => v = .tup [] ∧ h' = h.set x.1 (.row 3 x.2 0 true (ivs (raiseL so l r)))) := by
  obtain ⟨r0, hr0, hrl, hrow⟩ := p0.rows p x hx
  have e0 : r0 = r := by rw [hr] at hr0; cases hr0; rfl
  rw [e0] at hrl hrow
  have hmr := (List.getElem?_eq_some_iff.1 p0.mr).1
  have hxl := (List.getElem?_eq_some_iff.1 hrow).1
  have hpl := (List.getElem?_eq_some_iff.1 hx).1
  have hne : x.1 ≠ mr := fun e => by have := p0.mr; rw [← e, hrow] at this; cases this
  have hml : (mrefs ids N).length = ids.length := by simp [mrefs]
  obtain ⟨x', hx', hmp⟩ := p0.at hpl
  obtain rfl : x' = x := by rw [hx] at hx'; cases hx'; rfl
  have hpl' : (p : Int) < ids.length := by omega
  refine gB1 Tryd.func111 rfl (by decide) Tryd.ntmps111 (by simp) Tryd.results111 ?_
  repeat' (first
 |refine aK fun K hK=>?_|refine Step.by1 ?_|refine sE (by decide) ?_|refine cz rfl ?_|refine Fork.by2 (fun h=>?_) fun h=>?_
 |(refine aR ?_;simp [vl])
 |(refine Split.by2 (fun h=>?_) (fun h=>?_)<;>(simp [h, vl]))
 |(apply hK;clear hK K)|refine AWh ‹_› ?_)
  refine AW_range (r := raiseL so l r) l 12 [0, 1, 3, 10, 11] (fun c : List Int => []) (fun c => h.set x'.1 (.row 3 x'.2 0 true (ivs c))) (fun i c => c.length = N) (raiseL so) r
    rfl hrl (Weak.sym (x := []) (by simp [set_same hrow]) (p0.hl.set rowF_lt) (by simp [vl, hmr])) (fun _ c _ => by simp) ?_ ?_
  · intro i c g _ hlt hge hJ hF
    rw [raiseL_cons] at hF
    obtain ⟨g1, g2⟩ := hg g (hge ▸ List.getElem_mem hlt)
    have hlt' : (i : Int) < l.length := by omega
    have w1 : IntKind.i64.wrap ((i : Int) + 1) = i + 1 := wI (by omega) (by omega)
    have w2 : IntKind.i64.wrap (g.clock - 1) = g.clock - 1 := wI (by omega) (by omega)
    obtain ⟨q, hq⟩ := Int.eq_ofNat_of_zero_le (show 0 ≤ g.clock - 1 by omega)
    have hql : q < c.length := by omega
    have hqN : q < N := by omega
    have hqN' : (q : Int) < N := by omega
    have hc := hso g.cmp
    have h1 : raise1 so c g = if so g.cmp = true then c.set q (if g.n > c[q] then g.n else c[q]) else c := by
      unfold raise1; rw [hq]; simp [hql]
    rw [h1] at hF
    obtain ⟨y, hy⟩ : ∃ y, c[q] = y := ⟨_, rfl⟩
    rw [hy] at hF
    rw [hq] at w2
    have hHl := p0.hl.set (i := x'.1) (y := .row 3 x'.2 0 true (ivs c)) rowF_lt
    have hlen : (h.set x'.1 (B.row 3 x'.2 0 true (ivs c))).length = h.length := by simp
    have f0 := fun y : List B => ga0 (x := y) hlen
    have f1 := fun y : List B => (get_app (x := y) (by rw [hlen]; exact hxl)).trans (get_set_eq (y := B.row 3 x'.2 0 true (ivs c)) hrow)
    have f2 := fun y : List B => (get_app (x := y) (by rw [hlen]; exact hmr)).trans ((gN (y := B.row 3 x'.2 0 true (ivs c)) hne).trans p0.mr)
    have f3 := fun (y : List B) (z : B) => set_app (x := y) (y := z) (h := h.set x'.1 (B.row 3 x'.2 0 true (ivs c))) (i := x'.1) (by rw [hlen]; exact hxl)
    have f4 : ∀ z, (h.set x'.1 (B.row 3 x'.2 0 true (ivs c))).set x'.1 z = h.set x'.1 z := fun z => by rw [List.set_set]
    have hcl : (ivs c).length = N := by simp [ivs, hJ]
    have hcq : (ivs c)[q]'(by omega) = [V.int .i64 y] := by simp [ivs, hy]
    have hcs : ∀ v, (ivs c).set q [V.int .i64 v] = ivs (c.set q v) := fun v => by simp [ivs, List.map_set]
    generalize hH : h.set x'.1 (B.row 3 x'.2 0 true (ivs c)) = H at *
    cases hs : so g.cmp
    · rw [hs] at hc hF
      rw [if_neg (by simp)] at hF
      repeat' (first
 |refine aK fun K hK=>?_|refine Step.by1 ?_|refine sE (by decide) ?_|refine cz rfl ?_|refine Fork.by2 (fun h=>?_) fun h=>?_
 |(refine aR ?_;simp [vl, GuardD.cells, hlt, hlt', hge, w1, f0, hlen])
 |(refine Split.by2 (fun h=>?_) (fun h=>?_)<;>(simp [h, vl, GuardD.cells, hlt, hlt', hge, w1, f0, hlen]))
 |(refine aC (f := fso) rfl rfl hc rfl rfl rfl ?_; simp [vl, GuardD.cells, f0, hlen])
 |(apply hK;clear hK K)|refine AWh ‹_› ?_)
      exact ⟨c, hF, hJ, Weak.sym (x := [B.var g.cells]) (by simp [GuardD.cells, hH]) (by rw [hH]; exact hHl) (by simp [vl, hmr])⟩
    · rw [hs] at hc hF
      rw [if_pos rfl] at hF
      repeat' (first
 |refine aK fun K hK=>?_|refine Step.by1 ?_|refine sE (by decide) ?_|refine cz rfl ?_|refine Fork.by2 (fun h=>?_) fun h=>?_
 |((first|refine aR ?_|refine aX (id:=4) 20 mixed (by decide) ?_);simp [vl, GuardD.cells, hlt, hlt', hge, w1, f0, f1, f2, f3, f4, hlen, hq, w2, hpl, hpl', hml, hmp, hqN, hqN', hcl, hcq, hcs])
 |(refine Split.by2 (fun h=>?_) (fun h=>?_)<;>(simp [h, vl, GuardD.cells, hlt, hlt', hge, w1, f0, f1, f2, f3, f4, hlen, hq, w2, hpl, hpl', hml, hmp, hqN, hqN', hcl, hcq, hcs]))
 |(refine aC (f := fso) rfl rfl hc rfl rfl rfl ?_; simp [vl, GuardD.cells, f0, hlen])
 |(apply hK;clear hK K)|refine AWh ‹_› ?_)
      exact ⟨_, hF, by simp [hJ], Weak.sym (x := [B.var g.cells]) (by simp [GuardD.cells, hq]) (p0.hl.set rowF_lt) (by simp [vl, hmr])⟩
  · intro c hJ hF
    rw [raiseL_nil] at hF
    subst hF
    repeat' (first
 |refine aK fun K hK=>?_|refine Step.by1 ?_|refine sE (by decide) ?_|refine cz rfl ?_|refine Fork.by2 (fun h=>?_) fun h=>?_
 |(refine aR ?_;simp [vl])
 |(refine Split.by2 (fun h=>?_) (fun h=>?_)<;>(simp [h, vl]))
 |(apply hK;clear hK K)|refine AWh ‹_› ?_)
    exact ⟨.inl rfl, _, _, ⟨[], rfl, trivial⟩, ⟨rfl, rfl⟩, rfl, Go.AM.Leaves.sym (by simp) (p0.hl.set rowF_lt)⟩
end Go.Proofs.YtgmlimipejcpgaaDoor
end
section
set_option linter.unusedVariables false
set_option linter.unusedSimpArgs false
namespace Go.Proofs.YtgmlimipejcpgaaDoor
open Go Go.AM Fx
/-- A place whose numbers of a clock count at another one. -/
inductive Rch (a : AutoD) (c : Int) : Nat → Nat → Prop
  | refl {i : Nat} (hi : i < a.locs.length) : Rch a c i i
  | edge {e : EdgeD} {j : Nat} (he : e ∈ a.edges) (hs : setsB c e.sets = false) (h : Rch a c e.to.toNat j) : Rch a c e.frm.toNat j
theorem Rch.lt {a : AutoD} {c : Int} {i j : Nat} (h : Rch a c i j) : j < a.locs.length := by
  induction h with
  | refl hi => exact hi
  | edge _ _ _ ih => exact ih
def nget (m : List (List Int)) (i c : Nat) : Option Int := (m[i]?).bind fun r => r[c]?
theorem nget_some {m : List (List Int)} {i c : Nat} {v : Int} (h : nget m i c = some v) : ∃ r, m[i]? = some r ∧ r[c]? = some v := by
  unfold nget at h
  cases hr : m[i]? with
  | none => rw [hr] at h; cases h
  | some r => rw [hr] at h; exact ⟨r, rfl, h⟩
theorem nget_of {m : List (List Int)} {i c : Nat} {v : Int} {r : List Int} (h : m[i]? = some r) (h2 : r[c]? = some v) : nget m i c = some v := by unfold nget; rw [h]; exact h2
theorem nget_set {m : List (List Int)} {i c : Nat} {r : List Int} {u : Int} (h : m[i]? = some r) (hc : c < r.length) (i2 c2 : Nat) : nget (m.set i (r.set c u)) i2 c2 = if i = i2 ∧ c = c2 then some u else nget m i2 c2 := by
  have hi := (List.getElem?_eq_some_iff.1 h).1
  unfold nget
  rw [List.getElem?_set]
  by_cases e : i = i2
  · subst e
    rw [if_pos rfl, if_pos hi, h]
    simp only [Option.bind_some, true_and]
    rw [List.getElem?_set]
    by_cases e2 : c = c2
    · subst e2; rw [if_pos rfl, if_pos hc, if_pos rfl]
    · rw [if_neg e2, if_neg e2]
  · rw [if_neg e, if_neg (fun h => e h.1)]
/-- What stands there so far is of a place that counts, and no less than the place's own. -/
structure LS (a : AutoD) (N : Nat) (b : Nat → Nat → Int) (m : List (List Int)) : Prop where
  len : m.length = a.locs.length
  row : ∀ (i : Nat) (r : List Int), m[i]? = some r → r.length = N
  snd : ∀ i c v, nget m i c = some v → ∃ j, Rch a ((c : Int) + 1) i j ∧ v = b j c
  ge : ∀ i c v, nget m i c = some v → b i c ≤ v
def nclos (m : List (List Int)) (e : EdgeD) (c : Nat) : Prop := ∀ u v, nget m e.to.toNat c = some u → setsB ((c : Int) + 1) e.sets = false → nget m e.frm.toNat c = some v → u ≤ v
section
variable {a : AutoD} {N : Nat} {b : Nat → Nat → Int} {m m0 : List (List Int)}
theorem LS.step (s : LS a N b m) {e : EdgeD} (he : e ∈ a.edges) {c : Nat} {r : List Int} {u v : Int} (hr : m[e.frm.toNat]? = some r) (hu : nget m e.to.toNat c = some u) (hs : setsB ((c : Int) + 1) e.sets = false) (hv : r[c]? = some v) (huv : v < u) :
    LS a N b (m.set e.frm.toNat (r.set c u)) := by
  have hrl := s.row _ r hr
  have hc := (List.getElem?_eq_some_iff.1 hv).1
  have hg := nget_set (u := u) hr hc
  refine ⟨by rw [List.length_set]; exact s.len, fun i q hq => ?_, fun i c2 w h => ?_, fun i c2 w h => ?_⟩
  · rw [List.getElem?_set] at hq
    by_cases e2 : e.frm.toNat = i
    · rw [if_pos e2, if_pos (List.getElem?_eq_some_iff.1 hr).1] at hq; cases hq; rw [List.length_set]; exact hrl
    · rw [if_neg e2] at hq; exact s.row i q hq
  · rw [hg] at h
    by_cases e2 : e.frm.toNat = i ∧ c = c2
    · rw [if_pos e2] at h; cases h
      obtain ⟨rfl, rfl⟩ := e2
      obtain ⟨j, h1, h2⟩ := s.snd _ _ _ hu
      exact ⟨j, .edge he hs h1, h2⟩
    · rw [if_neg e2] at h; exact s.snd i c2 w h
  · rw [hg] at h
    by_cases e2 : e.frm.toNat = i ∧ c = c2
    · rw [if_pos e2] at h; cases h
      obtain ⟨rfl, rfl⟩ := e2
      have := s.ge _ _ _ (nget_of hr hv); omega
    · rw [if_neg e2] at h; exact s.ge i c2 w h
/-- How far there is to go. -/
def rk (a : AutoD) (b : Nat → Nat → Int) (c : Nat) (v : Int) : Nat := ((List.range a.locs.length).filter fun j => decide (v < b j c)).length
def rkR (a : AutoD) (b : Nat → Nat → Int) (r : List Int) : Nat := ((List.range r.length).map fun c => rk a b c (r.getD c 0)).sum
def nM (a : AutoD) (b : Nat → Nat → Int) (m : List (List Int)) : Nat := (m.map (rkR a b)).sum
theorem rk_lt {c j : Nat} {u v : Int} (hj : j < a.locs.length) (hu : u = b j c) (h : v < u) : rk a b c u < rk a b c v := by
  unfold rk
  refine Go.AM.filter_lt (i := j) (by simp; omega) (by simp; omega) _ (fun x _ hx => ?_) (List.mem_range.2 hj)
  simp only [decide_eq_true_eq] at hx ⊢; omega
theorem sum_set_lt : ∀ {l : List Nat} {i x y : Nat}, l[i]? = some x → y < x → (l.set i y).sum < l.sum
  | [], i, x, y, h, _ => by simp at h
  | a :: l, 0, x, y, h, e => by simp at h; subst h; simp; omega
  | a :: l, i + 1, x, y, h, e => by
    have := sum_set_lt (l := l) (i := i) (x := x) (y := y) (by simpa using h) e
    simp only [List.set_cons_succ, List.sum_cons]; omega
theorem rkR_set {r : List Int} {c : Nat} {u v : Int} (hv : r[c]? = some v) (h : rk a b c u < rk a b c v) : rkR a b (r.set c u) < rkR a b r := by
  have hc := (List.getElem?_eq_some_iff.1 hv).1
  unfold rkR
  have e : ((List.range (r.set c u).length).map fun q => rk a b q ((r.set c u).getD q 0)) = ((List.range r.length).map fun q => rk a b q (r.getD q 0)).set c (rk a b c u) := by
    apply List.ext_getElem?
    intro q
    rw [List.getElem?_set]
    by_cases hq : q < r.length
    · by_cases e : c = q
      · subst e; simp [hq, List.getD]
      · simp [hq, List.getD, e]
    · rw [List.getElem?_eq_none (by simp; omega)]
      by_cases e : c = q
      · omega
      · rw [if_neg e, List.getElem?_eq_none (by simp; omega)]
  rw [e]
  have e3 : r[c] = v := by rw [List.getElem?_eq_getElem hc] at hv; exact Option.some.inj hv
  exact sum_set_lt (x := rk a b c v) (by simp [hc, List.getD, e3]) h
theorem nM_set {p : Nat} {r r' : List Int} (hr : m[p]? = some r) (h : rkR a b r' < rkR a b r) : nM a b (m.set p r') < nM a b m := by
  unfold nM
  rw [List.map_set]
  exact sum_set_lt (x := rkR a b r) (by rw [List.getElem?_map, hr]; rfl) h
/-- Within a pass: ahead of edge k's clock j. -/
structure NPass (a : AutoD) (N : Nat) (b : Nat → Nat → Int) (m0 : List (List Int)) (k j : Nat) (more : Bool) (m : List (List Int)) : Prop where
  s : LS a N b m
  lt : more = true → nM a b m < nM a b m0
  eq : more = false → m = m0 ∧ (∀ q e, q < k → a.edges[q]? = some e → ∀ c, c < N → nclos m e c) ∧ ∀ e, a.edges[k]? = some e → ∀ c, c < j → nclos m e c
variable {k j : Nat} {more : Bool}
theorem NPass.init (s : LS a N b m) : NPass a N b m 0 0 false m := ⟨s, fun h => (by cases h), fun _ => ⟨rfl, fun q e hq => (by omega), fun e _ c hc => (by omega)⟩⟩
theorem NPass.keep (p : NPass a N b m0 k j more m) {e : EdgeD} (he : a.edges[k]? = some e) (h : nclos m e j) : NPass a N b m0 k (j + 1) more m :=
  ⟨p.s, p.lt, fun hm => ⟨(p.eq hm).1, (p.eq hm).2.1, fun x hx c hc => by
    rw [he] at hx; cases hx
    by_cases e2 : c = j
    · subst e2; exact h
    · exact (p.eq hm).2.2 e he c (by omega)⟩⟩
theorem NPass.step (p : NPass a N b m0 k j more m) {e : EdgeD} (he : a.edges[k]? = some e) {r : List Int} {u v : Int} (hr : m[e.frm.toNat]? = some r) (hu : nget m e.to.toNat j = some u) (hs : setsB ((j : Int) + 1) e.sets = false) (hv : r[j]? = some v) (huv : v < u) :
    NPass a N b m0 k (j + 1) true (m.set e.frm.toNat (r.set j u)) := by
  obtain ⟨i, h1, h2⟩ := p.s.snd _ _ _ hu
  have h4 := nM_set (a := a) (b := b) hr (rkR_set (a := a) (b := b) hv (rk_lt h1.lt h2 huv))
  refine ⟨p.s.step (List.mem_of_getElem? he) hr hu hs hv huv, fun _ => ?_, fun h => (by cases h)⟩
  cases hm : more
  · rw [← (p.eq hm).1]; exact h4
  · have := p.lt hm; omega
theorem NPass.next (p : NPass a N b m0 k N more m) : NPass a N b m0 (k + 1) 0 more m :=
  ⟨p.s, p.lt, fun hm => ⟨(p.eq hm).1, fun q e hq he => by
    by_cases e2 : q = k
    · subst e2; exact (p.eq hm).2.2 e he
    · exact (p.eq hm).2.1 q e (by omega) he, fun e _ c hc => (by omega)⟩⟩
theorem NPass.done (p : NPass a N b m0 a.edges.length j false m) : ∀ e ∈ a.edges, ∀ c, c < N → nclos m e c := fun e he => by
  obtain ⟨q, hq⟩ := List.getElem?_of_mem he
  exact (p.eq rfl).2.1 q e (List.getElem?_eq_some_iff.1 hq).1 hq
/-- The numbers where nothing spreads any more. -/
structure IsLu (a : AutoD) (N : Nat) (b : Nat → Nat → Int) (m : List (List Int)) : Prop where
  s : LS a N b m
  c : ∀ e ∈ a.edges, ∀ c, c < N → nclos m e c
theorem LS.get (s : LS a N b m) {i c : Nat} (hi : i < a.locs.length) (hc : c < N) : ∃ v, nget m i c = some v := by
  have hil : i < m.length := by rw [s.len]; exact hi
  have h1 : m[i]? = some m[i] := List.getElem?_eq_getElem hil
  have h2 := s.row i _ h1
  exact ⟨_, nget_of h1 (List.getElem?_eq_getElem (by omega))⟩
theorem IsLu.le {m' : List (List Int)} (hE : okE a) (p : IsLu a N b m) (q : IsLu a N b m') {i c : Nat} {v w : Int} (hc : c < N) (hv : nget m i c = some v) (hw : nget m' i c = some w) : v ≤ w := by
  obtain ⟨j, h1, h2⟩ := p.s.snd _ _ _ hv
  have key : ∀ i, Rch a ((c : Int) + 1) i j → ∀ w, nget m' i c = some w → b j c ≤ w := by
    intro i h
    clear h1
    induction h with
    | refl hi => exact fun w hw => q.s.ge _ _ _ hw
    | @edge e j he hs _ ih =>
      intro w hw
      obtain ⟨_, t1, t2⟩ := hE e he
      obtain ⟨u, hu⟩ := q.s.get (i := e.to.toNat) (c := c) (by omega) hc
      have h3 := ih h2 u hu
      have h4 := q.c e he c hc u w hu hs hw
      omega
  rw [h2]; exact key i h1 w hw
theorem IsLu.eq {m' : List (List Int)} (hE : okE a) (p : IsLu a N b m) (q : IsLu a N b m') : m = m' := by
  apply List.ext_getElem?
  intro i
  rcases Nat.lt_or_ge i a.locs.length with hi | hi
  · have hil : i < m.length := by rw [p.s.len]; exact hi
    have hil' : i < m'.length := by rw [q.s.len]; exact hi
    have h1 : m[i]? = some m[i] := List.getElem?_eq_getElem hil
    have h2 : m'[i]? = some m'[i] := List.getElem?_eq_getElem hil'
    rw [h1, h2]
    congr 1
    apply List.ext_getElem?
    intro c
    rcases Nat.lt_or_ge c N with hc | hc
    · obtain ⟨v, hv⟩ := p.s.get hi hc
      obtain ⟨w, hw⟩ := q.s.get hi hc
      have e : v = w := Int.le_antisymm (p.le hE q hc hv hw) (q.le hE p hc hw hv)
      subst e
      have e1 : nget m i c = (m[i])[c]? := by unfold nget; rw [h1]; rfl
      have e2 : nget m' i c = (m'[i])[c]? := by unfold nget; rw [h2]; rfl
      rw [← e1, ← e2, hv, hw]
    · rw [List.getElem?_eq_none (by rw [p.s.row i _ h1]; exact hc), List.getElem?_eq_none (by rw [q.s.row i _ h2]; exact hc)]
  · rw [List.getElem?_eq_none (by rw [p.s.len]; exact hi), List.getElem?_eq_none (by rw [q.s.len]; exact hi)]
open Classical in
noncomputable def luM (a : AutoD) (N : Nat) (b : Nat → Nat → Int) : List (List Int) := if h : ∃ m, IsLu a N b m then h.choose else []
theorem IsLu.luM (hE : okE a) (p : IsLu a N b m) : m = Go.Proofs.YtgmlimipejcpgaaDoor.luM a N b := by
  have h : ∃ m, IsLu a N b m := ⟨m, p⟩
  unfold Go.Proofs.YtgmlimipejcpgaaDoor.luM
  rw [dif_pos h]
  exact p.eq hE h.choose_spec
end
end Go.Proofs.YtgmlimipejcpgaaDoor
end
section
set_option linter.unusedSimpArgs false
set_option linter.unusedVariables false
namespace Go.Proofs.YtgmlimipejcpgaaDoor
open Go Go.AM Fx
def idxE (P : SetD → Bool) : List SetD → Nat → Int
  | [], _ => -1
  | s :: r, i => if P s = true then i else idxE P r (i + 1)
theorem idxE_any {P : SetD → Bool} : ∀ {l : List SetD} {i : Nat}, 0 ≤ idxE P l i ↔ anyL P l = true
  | [], i => by simp [idxE, anyL_nil]
  | s :: r, i => by
    rw [idxE, anC, Bool.or_eq_true]
    by_cases h : P s = true
    · rw [if_pos h]; simp [h]
    · rw [if_neg h, idxE_any]; simp [h]
set_option maxHeartbeats 4000000 in
theorem c_idxSet {h : List B} (hl : HL h) (f : Nat) (C : List V) (hC : V.lts h.length C = true) (P : SetD → Bool) (hf : ∀ s : SetD, GCall Tryd.prog GV f (.agg s.cells :: C) h (fun v h' => v = .bool (P s) ∧ h' = h)) (l : List SetD) (hll : l.length ≤ 1048576) :
    GCall Tryd.prog GV 135 [vl SetD.cells l, .fn (.func f) [] C] h (fun v h' => v = .int .i64 (idxE P l 0) ∧ h' = h) := by
  refine gB1 Tryd.func135 rfl (by decide) Tryd.ntmps135 (by simp) Tryd.results135 ?_
  repeat' (first
 |refine aK fun K hK=>?_|refine Step.by1 ?_|refine sE (by decide) ?_|refine cz rfl ?_|refine Fork.by2 (fun h=>?_) fun h=>?_
 |(refine aR ?_;simp [vl])
 |(refine Split.by2 (fun h=>?_) (fun h=>?_)<;>(simp [h, vl]))
 |(apply hK;clear hK K)|refine AWh ‹_› ?_)
  refine aL [0, 1, 7] (fun i : Nat => [(8, .int .i64 i)]) (fun _ => h) (fun i => i ≤ l.length ∧ idxE P (l.drop i) i = idxE P l 0) (fun i => l.length - i) 0 ⟨Nat.zero_le _, rfl⟩ (Weak.sym (x := []) (by simp) hl (by simp [vl, hC])) (fun _ _ => rfl) ?_
  rintro i ⟨hi, hk⟩
  by_cases hlt : i < l.length
  · obtain ⟨s, hs⟩ : ∃ s, l[i] = s := ⟨_, rfl⟩
    rw [List.drop_eq_getElem_cons hlt, hs, idxE] at hk
    have hlt' : (i : Int) < l.length := by omega
    have w1 : IntKind.i64.wrap ((i : Int) + 1) = i + 1 := wI (by omega) (by omega)
    have hc := hf s
    simp only [SetD.cells, vl] at hc
    generalize P s = b at *
    cases b
    · rw [if_neg (by simp)] at hk
      repeat' (first
 |refine aK fun K hK=>?_|refine Step.by1 ?_|refine sE (by decide) ?_|refine cz rfl ?_|refine Fork.by2 (fun h=>?_) fun h=>?_
 |(refine aR ?_;simp [vl, SetD.cells, hlt, hlt', hs, w1])
 |(refine Split.by2 (fun h=>?_) (fun h=>?_)<;>(simp [h, vl, SetD.cells, hlt, hlt', hs, w1]))
 |(refine aG (f := f) rfl rfl hc rfl (fun v h' hq => ?_); obtain ⟨rfl, rfl⟩ := hq; simp)
 |(apply hK;clear hK K)|refine AWh ‹_› ?_)
      exact ⟨i + 1, ⟨by omega, hk⟩, by omega, Weak.sym (x := []) (by simp) hl (by simp [vl, hC])⟩
    · rw [if_pos rfl] at hk
      repeat' (first
 |refine aK fun K hK=>?_|refine Step.by1 ?_|refine sE (by decide) ?_|refine cz rfl ?_|refine Fork.by2 (fun h=>?_) fun h=>?_
 |(refine aR ?_;simp [vl, SetD.cells, hlt, hlt', hs, w1])
 |(refine Split.by2 (fun h=>?_) (fun h=>?_)<;>(simp [h, vl, SetD.cells, hlt, hlt', hs, w1]))
 |(refine aG (f := f) rfl rfl hc rfl (fun v h' hq => ?_); obtain ⟨rfl, rfl⟩ := hq; simp)
 |(apply hK;clear hK K)|refine AWh ‹_› ?_)
      exact retg1 ⟨by rw [← hk]; rfl, rfl⟩ rfl (Go.AM.Leaves.sym (Nat.le_refl _) hl)
  · obtain rfl : i = l.length := by omega
    rw [List.drop_length, idxE] at hk
    repeat' (first
 |refine aK fun K hK=>?_|refine Step.by1 ?_|refine sE (by decide) ?_|refine cz rfl ?_|refine Fork.by2 (fun h=>?_) fun h=>?_
 |(refine aR ?_;simp [vl])
 |(refine Split.by2 (fun h=>?_) (fun h=>?_)<;>(simp [h, vl]))
 |(apply hK;clear hK K)|refine AWh ‹_› ?_)
    exact retg1 ⟨by rw [← hk]; rfl, rfl⟩ rfl (Go.AM.Leaves.sym (Nat.le_refl _) hl)
set_option maxHeartbeats 4000000 in
theorem c_hasSet {h : List B} (hl : HL h) (f : Nat) (C : List V) (hC : V.lts h.length C = true) (P : SetD → Bool) (hf : ∀ s : SetD, GCall Tryd.prog GV f (.agg s.cells :: C) h (fun v h' => v = .bool (P s) ∧ h' = h)) (l : List SetD) (hll : l.length ≤ 1048576) :
    GCall Tryd.prog GV 129 [vl SetD.cells l, .fn (.func f) [] C] h (fun v h' => v = .bool (anyL P l) ∧ h' = h) := by
  have hc := c_idxSet hl f C hC P hf l hll
  have ha := idxE_any (P := P) (l := l) (i := 0)
  generalize idxE P l 0 = k at *
  simp only [vl] at hc
  refine gB1 Tryd.func129 rfl (by decide) Tryd.ntmps129 (by simp) Tryd.results129 ?_
  by_cases hk : 0 ≤ k
  · rw [ha.1 hk]
    repeat' (first
 |refine aK fun K hK=>?_|refine Step.by1 ?_|refine sE (by decide) ?_|refine cz rfl ?_|refine Fork.by2 (fun h=>?_) fun h=>?_
 |(refine aR ?_;simp [vl, hk])
 |(refine Split.by2 (fun h=>?_) (fun h=>?_)<;>(simp [h, vl, hk]))
 |(refine aG (f := 135) rfl rfl hc rfl (fun v h' hq => ?_); obtain ⟨rfl, rfl⟩ := hq; simp [hk])
 |(apply hK;clear hK K)|refine AWh ‹_› ?_)
    exact retg1 ⟨rfl, rfl⟩ rfl (Go.AM.Leaves.sym (Nat.le_refl _) hl)
  · have hb : anyL P l = false := by
      cases h : anyL P l
      · rfl
      · exact absurd (ha.2 h) hk
    rw [hb]
    repeat' (first
 |refine aK fun K hK=>?_|refine Step.by1 ?_|refine sE (by decide) ?_|refine cz rfl ?_|refine Fork.by2 (fun h=>?_) fun h=>?_
 |(refine aR ?_;simp [vl, hk])
 |(refine Split.by2 (fun h=>?_) (fun h=>?_)<;>(simp [h, vl, hk]))
 |(refine aG (f := 135) rfl rfl hc rfl (fun v h' hq => ?_); obtain ⟨rfl, rfl⟩ := hq; simp [hk])
 |(apply hK;clear hK K)|refine AWh ‹_› ?_)
    exact retg1 ⟨rfl, rfl⟩ rfl (Go.AM.Leaves.sym (Nat.le_refl _) hl)
set_option maxHeartbeats 4000000 in
theorem c_spread1 {h : List B} (hl : HL h) {b c : Nat} (hb : h[b]? = some (.var [.int .i64 c])) (hc : c ≤ 1048576) (s : SetD) : GCall Tryd.prog GV 130 [.agg s.cells, .ptr b 0] h (fun v h' => v = .bool (decide (s.clock = (c : Int) + 1)) ∧ h' = h) := by
  have hbl := (List.getElem?_eq_some_iff.1 hb).1
  have w1 : IntKind.i64.wrap ((c : Int) + 1) = c + 1 := wI (by omega) (by omega)
  have f0 := fun x : List B => ga0 (h := h) (x := x) rfl
  have f1 := fun x : List B => (get_app (x := x) hbl).trans hb
  refine gB1 Tryd.func130 rfl (by decide) Tryd.ntmps130 (by simp) Tryd.results130 ?_
  repeat' (first
 |refine aK fun K hK=>?_|refine Step.by1 ?_|refine sE (by decide) ?_|refine cz rfl ?_|refine Fork.by2 (fun h=>?_) fun h=>?_
 |(refine aR ?_;simp [vl, SetD.cells, f0, f1, w1])
 |(refine Split.by2 (fun h=>?_) (fun h=>?_)<;>(simp [h, vl, SetD.cells, f0, f1, w1]))
 |(apply hK;clear hK K)|refine AWh ‹_› ?_)
  exact retg1 ⟨rfl, rfl⟩ rfl (Leaves.symx (Nat.le_refl _) hl)
end Go.Proofs.YtgmlimipejcpgaaDoor
end
