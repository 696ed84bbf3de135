/-
  YtgmlimipejcpgaaGreatDoorCo29: steps of the proof of a law of the program: what these texts prove holds under the hypotheses that their theorems name, and no others.
-/
import Derived.Test.YtgmlimipejcpgaaGreatDoorCo28
section
set_option linter.unusedSimpArgs false
set_option linter.unusedVariables false
namespace Go.Proofs.YtgmlimipejcpgaaGreatDoor
open Go Go.AM Fx
inductive Act (a : AutoD) (gs : List (List PartD)) (c : Int) : Nat → Prop
  | use {i : Nat} (hi : i < a.locs.length) (h : usedB a gs i c = true) : Act a gs c i
  | edge {e : EdgeD} (he : e ∈ a.edges) (hto : Act a gs c e.to.toNat) (hs : setsB c e.sets = false) : Act a gs c e.frm.toNat
open Classical in
noncomputable def actB (a : AutoD) (gs : List (List PartD)) (c : Int) (i : Nat) : Bool := decide (Act a gs c i)
/-- Edges that lead from and to places of the automaton. -/
def okE (a : AutoD) : Prop := ∀ e ∈ a.edges, (0 ≤ e.frm ∧ e.frm < a.locs.length) ∧ (0 ≤ e.to ∧ e.to < a.locs.length)
def badF (n : NetD) : List (List PartD) → Int → Int
  | [], e => e
  | g :: r, e => if e = 0 then badF n r (goalE n g) else e
theorem badF_nil {n : NetD} {e : Int} : badF n [] e = e := rfl
theorem badF_cons {n : NetD} {g : List PartD} {r : List (List PartD)} {e : Int} : badF n (g :: r) e = if e = 0 then badF n r (goalE n g) else e := rfl
theorem badF_not {n : NetD} {e : Int} (h : e ≠ 0) : ∀ {l : List (List PartD)}, badF n l e = e
  | [] => rfl
  | g :: r => by rw [badF_cons, if_neg h]
theorem badF_look {n : NetD} : ∀ {l : List (List PartD)}, badF n l 0 = lookF n l
  | [] => rfl
  | g :: r => by
    rw [badF_cons, if_pos rfl, lookF_cons]
    by_cases h : goalE n g = 0
    · rw [if_neg (by simp [h]), h, badF_look]
    · rw [if_pos h, badF_not h]
theorem badF_eq {n : NetD} {gs : List (List PartD)} : badF n gs (netE n) = lookE n gs := by
  unfold lookE
  by_cases h : netE n = 0
  · rw [if_neg (by simp [h]), h, badF_look]
  · rw [if_pos h, badF_not h]
set_option maxRecDepth 20000 in
set_option maxHeartbeats 8000000 in
theorem r_Bad (n : NetD) (hn : n.ok) (gs : List (List PartD)) (hgl : gs.length ≤ 1048576) (hgs : ∀ g ∈ gs, okGoal g) : PC 100 [.agg n.cells, gsV gs] (.int .i64 (lookE n gs)) := by
  have hN := r_Net n hn
  obtain ⟨r, hr⟩ : ∃ r, lookE n gs = r := ⟨_, rfl⟩
  rw [hr]
  rw [← badF_eq] at hr
  generalize netE n = e0 at *
  simp only [vl, NetD.cells] at hN
  refine pB Tryz.func100 rfl (by decide) Tryz.ntmps100 (by simp) Tryz.results100 ?_
  repeat' (first
 |refine aK fun K hK=>?_|refine Step.by1 ?_|refine sE (by decide) ?_|refine cz rfl ?_|refine Fork.by2 (fun h=>?_) fun h=>?_
 |((first|refine aR ?_|refine aC (f:=16) rfl rfl (hN) rfl rfl rfl ?_);simp [gsV, vl, NetD.cells])
 |(refine Split.by2 (fun h=>?_) (fun h=>?_)<;>(simp [h, gsV, vl, NetD.cells]))
 |(apply hK;clear hK K)|refine AWh ‹_› ?_)
  refine AW_range (r := r) gs 6 [1, 2] (fun e : Int => [(5, .int .i64 e)]) (fun _ => [.var n.cells]) (fun _ _ => True) (badF n) e0 hr trivial (by apply Weak.mk' <;> simp [gsV, vl, NetD.cells]) (fun _ _ _ => rfl) ?_ ?_
  · intro i e g _ hlt hg _ hF
    rw [badF_cons] at hF
    have hc := r_Goal n hn g (hgs g (hg ▸ List.getElem_mem hlt))
    have hlt' : (i : Int) < gs.length := by omega
    have w1 : IntKind.i64.wrap ((i : Int) + 1) = i + 1 := wI (by omega) (by omega)
    simp only [vl, NetD.cells] at hc
    generalize goalE n g = e1 at *
    by_cases he : e = 0
    · rw [if_pos he] at hF
      repeat' (first
 |refine aK fun K hK=>?_|refine Step.by1 ?_|refine sE (by decide) ?_|refine cz rfl ?_|refine Fork.by2 (fun h=>?_) fun h=>?_
 |((first|refine aR ?_|refine aX (id:=5) 7 mixed (by decide) ?_|refine aP1 (f:=20) rfl rfl (hc) rfl rfl rfl ?_);simp [gsV, vl, NetD.cells, hlt, hlt', hg, w1, he])
 |(refine Split.by2 (fun h=>?_) (fun h=>?_)<;>(simp [h, gsV, vl, NetD.cells, hlt, hlt', hg, w1, he]))
 |(apply hK;clear hK K)|refine AWh ‹_› ?_)
      refine ⟨e1, hF, ?_⟩; apply Weak.mk' <;> simp [gsV, vl, NetD.cells]
    · rw [if_neg he] at hF
      subst hF
      repeat' (first
 |refine aK fun K hK=>?_|refine Step.by1 ?_|refine sE (by decide) ?_|refine cz rfl ?_|refine Fork.by2 (fun h=>?_) fun h=>?_
 |(refine aR ?_;simp [gsV, vl, NetD.cells, hlt, hlt', hg, w1, he])
 |(refine Split.by2 (fun h=>?_) (fun h=>?_)<;>(simp [h, gsV, vl, NetD.cells, hlt, hlt', hg, w1, he]))
 |(apply hK;clear hK K)|refine AWh ‹_› ?_)
      exact r1q (cE rfl rfl)
  · intro e _ hF
    rw [badF_nil] at hF
    subst hF
    repeat' (first
 |refine aK fun K hK=>?_|refine Step.by1 ?_|refine sE (by decide) ?_|refine cz rfl ?_|refine Fork.by2 (fun h=>?_) fun h=>?_
 |(refine aR ?_;simp [gsV, vl, NetD.cells])
 |(refine Split.by2 (fun h=>?_) (fun h=>?_)<;>(simp [h, gsV, vl, NetD.cells]))
 |(apply hK;clear hK K)|refine AWh ‹_› ?_)
    all_goals exact r1q (cE rfl rfl)
theorem edges_ok {n : NetD} (h : wholeE n = 0) : ∀ a ∈ n.autos, okE a := by
  unfold wholeE at h
  have h1 := (fZ (fZ (fZ (fZ (fZ (fZ h).2).2).2).2).2).1
  intro a ha e he
  unfold edgesE at h1
  by_cases hb : anyL (fun a => anyL (edgeB n a) a.edges) n.autos = true
  · rw [if_pos hb] at h1; cases h1
  · have h2 : edgeB n a e = false := by
      cases hc : edgeB n a e
      · rfl
      · exact absurd (List.any_eq_true.2 ⟨a, ha, List.any_eq_true.2 ⟨e, he, hc⟩⟩) hb
    simp only [edgeB, isLoc, Bool.or_eq_false_iff, Bool.not_eq_false', decide_eq_true_eq] at h2
    exact ⟨by omega, by omega⟩
/-- The clocks, counted from 1, that are active. -/
noncomputable def actL (a : AutoD) (gs : List (List PartD)) (loc k : Nat) : List Int := ((List.range k).filter fun c : Nat => actB a gs ((c : Int) + 1) loc).map fun c : Nat => (c : Int) + 1
theorem actL_succ {a : AutoD} {gs : List (List PartD)} {loc k : Nat} : actL a gs loc (k + 1) = if actB a gs ((k : Int) + 1) loc = true then actL a gs loc k ++ [(k : Int) + 1] else actL a gs loc k := by
  unfold actL
  rw [List.range_succ, List.filter_append, List.map_append]
  by_cases h : actB a gs ((k : Int) + 1) loc = true <;> simp [h]
def badLoc (n : NetD) (au lo : Int) : Prop := au < 0 ∨ (n.autos.length : Int) ≤ au ∨ lo < 0 ∨ ((n.autos.getD au.toNat default).locs.length : Int) ≤ lo
instance {n : NetD} {au lo : Int} : Decidable (badLoc n au lo) := by unfold badLoc; infer_instance
/-- The clocks and the error: what both tell. -/
noncomputable def clksL (n : NetD) (au lo : Int) (gs : List (List PartD)) : List Int :=
  if lookE n gs ≠ 0 then [] else if badLoc n au lo then [] else actL (n.autos.getD au.toNat default) gs lo.toNat n.clocks.length
def clksE (n : NetD) (au lo : Int) (gs : List (List PartD)) : Int :=
  if lookE n gs ≠ 0 then lookE n gs else if badLoc n au lo then 122 else 0
end Go.Proofs.YtgmlimipejcpgaaGreatDoor
end
section
set_option linter.unusedVariables false
set_option linter.unusedSimpArgs false
namespace Go.AM
section
variable {P : Program} {ge : GEnv} {st : St} {Q : Exit → St → Prop}
theorem AW_loopG {σ : Type} (S : σ → St) (I : σ → Prop) (μ : σ → Nat) {c : Code} {x0 : σ} (h0 : I x0) (hst : Weak st (S x0)) (hlen : ∀ x, I x → st.h.length ≤ (S x).h.length)
    (round : ∀ x, I x → AW P ge c (SThen (fun s => ∃ x', I x' ∧ μ x' < μ x ∧ Weak s (S x')) Q) (S x)) : AW P ge (.loop c) Q st := by
  intro G0 a0 w0 hr0 b k cs
  have key : ∀ (n : Nat) (x : σ) (G : Gh) (a : Act) (w : World), μ x = n → I x → Rep P ge G (S x) a w → Ext G0 st.h w0 G (S x).h w →
      ∃ e a' w', CPost P ge Q G0 st.h w0 e a' w' ∧ Arrives P (lone (b.at a (.code c :: .inLoop c :: k)) cs w) b k cs e a' w' := by
    intro n
    induction n using Nat.strongRecOn with
    | _ n ih =>
      intro x G a w hn hI hr hx
      obtain ⟨e, a1, w1, hq, harr⟩ := round x hI G a w hr b (.inLoop c :: k) cs
      obtain ⟨G', s, q, r, ex⟩ := hq
      cases e with
      | normal =>
        obtain ⟨x', hI', hlt, hw⟩ := q
        have hl := hlen x' hI'
        obtain ⟨e2, a2, w2, hq2, harr2⟩ := ih (μ x') (hn ▸ hlt) x' _ a1 w1 rfl hI' (hw.rep r) (Ext.cut hw (hx.trans ex) (by rw [← hr0.rh.n]; exact hl))
        exact ⟨e2, a2, w2, hq2, .of_steps (Steps.trans harr (.one step_inLoop)) harr2⟩
      | exit id => exact ⟨_, a1, w1, ⟨G', s, q, r, hx.trans ex⟩, .pass (x := .inLoop c) rfl (fun _ _ => .inl (by simp)) harr⟩
      | goto l => exact ⟨_, a1, w1, ⟨G', s, q, r, hx.trans ex⟩, .pass (x := .inLoop c) rfl (fun _ _ => .inl (by simp)) harr⟩
      | ret => exact ⟨_, a1, w1, ⟨G', s, q, r, hx.trans ex⟩, .pass (x := .inLoop c) rfl (fun _ _ => .inl (by simp)) harr⟩
      | panic ch => exact ⟨_, a1, w1, ⟨G', s, q, r, hx.trans ex⟩, .pass (x := .inLoop c) rfl (fun _ _ => .inl (by simp)) harr⟩
      | outgrown => exact ⟨_, a1, w1, ⟨G', s, q, r, hx.trans ex⟩, .pass (x := .inLoop c) rfl (fun _ _ => .inl (by simp)) harr⟩
  obtain ⟨e, a', w', hq, harr⟩ := key _ x0 _ a0 w0 rfl h0 (hst.rep hr0) (Ext.cut hst (.refl _ _ _) (by rw [← hr0.rh.n]; exact hlen x0 h0))
  exact ⟨e, a', w', hq, .of_steps (.one step_loop) harr⟩
theorem AW_loopGL {σ : Type} (L : List Nat) (vs : σ → List (Nat × V)) (H : σ → List B) (I : σ → Prop) (μ : σ → Nat) {c : Code} (x0 : σ) (h0 : I x0)
    (hst : Weak st (headSt st L (vs x0) (H x0))) (hlen : ∀ x, I x → st.h.length ≤ (H x).length)
    (round : ∀ x, I x → AW P ge c (SThen (fun s => ∃ x', I x' ∧ μ x' < μ x ∧ Weak s (headSt st L (vs x') (H x'))) Q) (headSt st L (vs x) (H x))) : AW P ge (.loop c) Q st :=
  AW_loopG (fun x => headSt st L (vs x) (H x)) I μ h0 hst hlen round
end
end Go.AM
end
section
set_option linter.unusedSimpArgs false
set_option linter.unusedVariables false
namespace Go.Proofs.YtgmlimipejcpgaaGreatDoor
open Go Go.AM Fx
/-- Marks: rows of rows. -/
abbrev Marks := List (List Bool)
end Go.Proofs.YtgmlimipejcpgaaGreatDoor
end
section
set_option linter.unusedVariables false
set_option linter.unusedSimpArgs false
namespace Go.Proofs.YtgmlimipejcpgaaGreatDoor
open Go Go.AM Fx
/-- Symbolic heaps: what stands behind. -/
theorem ga1 {h x : List B} {n k : Nat} (e : h.length = n) : (h ++ x)[n + k]? = x[k]? := by subst e; rw [List.getElem?_append_right (by omega)]; simp
theorem ga0 {h x : List B} {n : Nat} (e : h.length = n) : (h ++ x)[n]? = x[0]? := ga1 (k := 0) e
theorem sa1 {h x : List B} {n k : Nat} {y : B} (e : h.length = n) : (h ++ x).set (n + k) y = h ++ x.set k y := by subst e; rw [List.set_append, if_neg (by omega)]; simp
theorem sa0 {h x : List B} {n : Nat} {y : B} (e : h.length = n) : (h ++ x).set n y = h ++ x.set 0 y := sa1 (k := 0) e
theorem HL.app {h x : List B} (hl : HL h) (hx : ∀ y ∈ x, y.lt (h.length + x.length)) : HL (h ++ x) := fun y hy => by
  rw [List.length_append]
  rcases List.mem_append.1 hy with h | h
  · exact B.lt_mono (by omega) (hl y h)
  · exact hx y h
/-- Marks on the heap: a row of rows. -/
def mrefs (ids : List (Nat × Nat)) (N : Nat) : List (List V) := ids.map fun x => [V.ref x.1 x.2 0 N]
structure MR {α : Type} (T0 T : TypeId) (en : List α → List (List V)) (h : List B) (mr gm : Nat) (fl : Bool) (ids : List (Nat × Nat)) (N : Nat) (m : List (List α)) (hc : List B) : Prop where
  ne : T0 ≠ T
  len : hc.length = h.length
  hl : HL hc
  mr : hc[mr]? = some (.row T0 gm 0 fl (mrefs ids N))
  ml : m.length = ids.length
  rows : ∀ (i : Nat) (x : Nat × Nat), ids[i]? = some x → ∃ r, m[i]? = some r ∧ r.length = N ∧ hc[x.1]? = some (.row T x.2 0 true (en r))
  inj : ∀ (i j : Nat) (x y : Nat × Nat), ids[i]? = some x → ids[j]? = some y → x.1 = y.1 → i = j
  rest : ∀ b, (∀ x ∈ ids, x.1 ≠ b) → hc[b]? = h[b]?
section
variable {α : Type} {T0 T : TypeId} {en : List α → List (List V)} {h hc : List B} {mr gm N : Nat} {fl : Bool} {ids : List (Nat × Nat)} {m : List (List α)}
theorem MR.upd (p : MR T0 T en h mr gm fl ids N m hc) {i : Nat} {x : Nat × Nat} (hx : ids[i]? = some x) {r : List α} (hr : r.length = N) : MR T0 T en h mr gm fl ids N (m.set i r) (hc.set x.1 (.row T x.2 0 true (en r))) := by
  obtain ⟨r0, h1, h2, h3⟩ := p.rows i x hx
  have hi := (List.getElem?_eq_some_iff.1 h1).1
  have hne : x.1 ≠ mr := fun e => by
    rw [e, p.mr] at h3
    simp only [Option.some.injEq, B.row.injEq] at h3
    exact p.ne h3.1
  refine ⟨p.ne, by rw [List.length_set]; exact p.len, p.hl.set rowF_lt, by rw [gN hne]; exact p.mr, by rw [List.length_set]; exact p.ml, fun j y hy => ?_, p.inj, fun b hb => by rw [gN (hb x (List.mem_of_getElem? hx))]; exact p.rest b hb⟩
  by_cases e : i = j
  · subst e
    obtain rfl : x = y := by rw [hx] at hy; cases hy; rfl
    exact ⟨r, by rw [List.getElem?_set, if_pos rfl, if_pos hi], hr, get_set_eq h3⟩
  · obtain ⟨r1, k1, k2, k3⟩ := p.rows j y hy
    exact ⟨r1, by rw [List.getElem?_set, if_neg e]; exact k1, k2, by rw [gN (fun e2 => e (p.inj i j x y hx hy e2))]; exact k3⟩
theorem MR.at (p : MR T0 T en h mr gm fl ids N m hc) {i : Nat} (hi : i < ids.length) : ∃ x : Nat × Nat, ids[i]? = some x ∧ (mrefs ids N)[i]'(by simp [mrefs, hi]) = [V.ref x.1 x.2 0 N] :=
  ⟨ids[i], List.getElem?_eq_getElem hi, by simp [mrefs]⟩
end
end Go.Proofs.YtgmlimipejcpgaaGreatDoor
end
section
set_option linter.unusedSimpArgs false
set_option linter.unusedVariables false
namespace Go.Proofs.YtgmlimipejcpgaaGreatDoor
open Go Go.AM Fx
theorem look_ok {n : NetD} {gs : List (List PartD)} (h : lookE n gs = 0) : netE n = 0 ∧ ∀ g ∈ gs, goalE n g = 0 := by
  unfold lookE at h
  by_cases hz : netE n = 0
  · rw [if_neg (by simp [hz])] at h
    refine ⟨hz, ?_⟩
    clear hz
    induction gs with
    | nil => intro g hg; cases hg
    | cons x r ih =>
      rw [lookF_cons] at h
      by_cases hx : goalE n x = 0
      · rw [if_neg (by simp [hx])] at h
        intro g hg
        rcases List.mem_cons.1 hg with rfl | hg
        · exact hx
        · exact ih h g hg
      · rw [if_pos hx] at h; exact absurd h hx
  · rw [if_pos hz] at h; exact absurd h hz
/-- The marks as a value that nobody writes any more. -/
theorem MR.conv {h hc : List B} {mr gm N : Nat} {fl : Bool} {ids : List (Nat × Nat)} {m : Marks} {vs : List (List V)} (p : MR 144 4 bvs h mr gm fl ids N m hc) (hfl : fl = true → ids = []) (hv : vs.length = ids.length) (hm : ∀ (i : Nat) (r : List Bool), m[i]? = some r → vs[i]? = some [V.vec (bvs r) N]) :
    Conv hc (.ref mr gm 0 ids.length) (.vec vs ids.length) := by
  refine .inl ⟨2, ?_, rfl⟩
  have e : vs = if fl = true then (mrefs ids N).drop 0 else ((mrefs ids N).drop 0).map fun x => x.map (frz hc 1) := by
    by_cases hf : fl = true
    · rw [if_pos hf, hfl hf]
      rw [hfl hf] at hv
      simpa [mrefs] using hv
    · rw [if_neg hf]
      apply List.ext_getElem?
      intro i
      rcases Nat.lt_or_ge i ids.length with hi | hi
      · obtain ⟨r, h1, h2, h3⟩ := p.rows i _ (List.getElem?_eq_getElem hi)
        rw [hm i r h1]
        simp [mrefs, hi, frz, h3, bvs, h2]
      · rw [List.getElem?_eq_none (by omega), List.getElem?_eq_none (by simp [mrefs, hi])]
  rw [e]
  simp [frz, p.mr, mrefs]
end Go.Proofs.YtgmlimipejcpgaaGreatDoor
end
section
set_option linter.unusedVariables false
set_option linter.unusedSimpArgs false
namespace Go.Proofs.YtgmlimipejcpgaaGreatDoor
open Go Go.AM Fx
/-- A row of rows of ints. -/
structure N2 (o : Nat) (h : List B) (b g : Nat) (fl : Bool) (ids : List (Nat × Nat × Nat)) (P : List (List Int)) : Prop where
  at0 : h[b]? = some (.row 47 g 0 fl (ids.map fun x => [rv x]))
  flat : fl = true → ids = []
  len : P.length = ids.length
  rows : ∀ (j : Nat) (x : Nat × Nat × Nat), ids[j]? = some x → ∃ ns, P[j]? = some ns ∧ ns.length = x.2.2 ∧ h[x.1]? = some (.row 3 x.2.1 0 true (ivs ns))
  low : o ≤ b ∧ ∀ x ∈ ids, o ≤ x.1
  nodup : (ids.map (·.1)).Nodup
structure N3 (o : Nat) (h : List B) (b g : Nat) (fl : Bool) (T : List (Nat × Nat × Bool × List (Nat × Nat × Nat))) (P : List (List (List Int))) : Prop where
  at0 : h[b]? = some (.row 54 g 0 fl (T.map fun y => [V.ref y.1 y.2.1 0 y.2.2.2.length]))
  flat : fl = true → T = []
  len : P.length = T.length
  rows : ∀ (i : Nat) (y : Nat × Nat × Bool × List (Nat × Nat × Nat)), T[i]? = some y → ∃ Q, P[i]? = some Q ∧ N2 o h y.1 y.2.1 y.2.2.1 y.2.2.2 Q
  low : o ≤ b
  nodup : ((T.flatMap (·.2.2.2)).map (·.1)).Nodup
section
variable {o b g : Nat} {h h' : List B} {fl : Bool} {ids : List (Nat × Nat × Nat)} {P : List (List Int)} {T : List (Nat × Nat × Bool × List (Nat × Nat × Nat))} {PP : List (List (List Int))}
theorem N2.ids_lt (p : N2 o h b g fl ids P) : ∀ x ∈ ids, x.1 < h.length := fun x hx => by
  obtain ⟨j, hj⟩ := List.getElem?_of_mem hx
  obtain ⟨_, _, _, h3⟩ := p.rows j x hj
  exact (List.getElem?_eq_some_iff.1 h3).1
theorem N2.b_lt (p : N2 o h b g fl ids P) : b < h.length := (List.getElem?_eq_some_iff.1 p.at0).1
theorem N2.mono (p : N2 o h b g fl ids P) (hh : ∀ k, k < h.length → h'[k]? = h[k]?) : N2 o h' b g fl ids P :=
  ⟨by rw [hh _ p.b_lt]; exact p.at0, p.flat, p.len, fun j x hx => by
    obtain ⟨ns, h1, h2, h3⟩ := p.rows j x hx
    exact ⟨ns, h1, h2, by rw [hh _ (List.getElem?_eq_some_iff.1 h3).1]; exact h3⟩, p.low, p.nodup⟩
theorem N3.b_lt (p : N3 o h b g fl T PP) : b < h.length := (List.getElem?_eq_some_iff.1 p.at0).1
theorem N3.mono (p : N3 o h b g fl T PP) (hh : ∀ k, k < h.length → h'[k]? = h[k]?) : N3 o h' b g fl T PP :=
  ⟨by rw [hh _ p.b_lt]; exact p.at0, p.flat, p.len, fun i y hy => by
    obtain ⟨Q, h1, h2⟩ := p.rows i y hy
    exact ⟨Q, h1, h2.mono hh⟩, p.low, p.nodup⟩
/-- A row more. -/
theorem N2.snoc (p : N2 o h b g fl ids P) {ns : List Int} (ho : o ≤ h.length) : N2 o (h.set b (.row 47 (g + 1) 0 false (ids.map (fun x => [rv x]) ++ [[rv (h.length, 0, ns.length)]])) ++ [B.row 3 0 0 true (ivs ns)]) b (g + 1) false (ids ++ [(h.length, 0, ns.length)]) (P ++ [ns]) := by
  have hb := p.b_lt
  refine ⟨?_, fun h => (by cases h), by simp [p.len], fun j x hx => ?_, ⟨p.low.1, fun x hx => ?_⟩, ?_⟩
  · rw [get_app (by simpa using hb), List.getElem?_set, if_pos rfl, if_pos hb]; simp
  · by_cases hj : j < ids.length
    · rw [List.getElem?_append_left hj] at hx
      obtain ⟨ms, h1, h2, h3⟩ := p.rows j x hx
      have hx1 := (List.getElem?_eq_some_iff.1 h3).1
      have hne : b ≠ x.1 := fun e => by
        have := p.at0
        rw [e, h3] at this
        simp at this
      exact ⟨ms, by rw [List.getElem?_append_left (by rw [p.len]; exact hj)]; exact h1, h2, by rw [get_app (by simpa using hx1), gN hne]; exact h3⟩
    · have hj2 : j = ids.length := by have := (List.getElem?_eq_some_iff.1 hx).1; simp at this; omega
      subst hj2
      simp at hx; subst hx
      refine ⟨ns, by rw [← p.len]; simp, rfl, ?_⟩
      rw [ga0 (by simp)]; rfl
  · rcases List.mem_append.1 hx with hx | hx
    · exact p.low.2 x hx
    · simp at hx; subst hx; exact ho
  · rw [List.map_append]
    refine List.nodup_append.2 ⟨p.nodup, by simp, fun u hu w hw e => ?_⟩
    obtain ⟨x, hx, rfl⟩ := List.mem_map.1 hu
    simp at hw
    have := p.ids_lt x hx
    omega
/-- Rows of rows more, all of them behind what there was. -/
theorem N3.snoc {hc : List B} (p : N3 o h b g fl T PP) (ho : o ≤ h.length) (hh : ∀ k, k < h.length → hc[k]? = h[k]?) {b2 g2 : Nat} {fl2 : Bool} {ids : List (Nat × Nat × Nat)} {Q : List (List Int)} (q : N2 h.length hc b2 g2 fl2 ids Q) :
    N3 o (hc.set b (.row 54 (g + 1) 0 false (T.map (fun y => [V.ref y.1 y.2.1 0 y.2.2.2.length]) ++ [[V.ref b2 g2 0 ids.length]]))) b (g + 1) false (T ++ [(b2, g2, fl2, ids)]) (PP ++ [Q]) := by
  have p2 := p.mono hh
  have hb := p2.b_lt
  have hb0 := p.b_lt
  have key : ∀ {y1 y2 : Nat} {f : Bool} {l : List (Nat × Nat × Nat)} {R : List (List Int)} {o' : Nat}, N2 o' hc y1 y2 f l R → o ≤ o' → N2 o (hc.set b (.row 54 (g + 1) 0 false (T.map (fun y => [V.ref y.1 y.2.1 0 y.2.2.2.length]) ++ [[V.ref b2 g2 0 ids.length]]))) y1 y2 f l R := fun {y1 y2 f l R o'} r hoo => by
    have hat := p2.at0
    refine ⟨?_, r.flat, r.len, fun j x hx => ?_, ⟨Nat.le_trans hoo r.low.1, fun x hx => Nat.le_trans hoo (r.low.2 x hx)⟩, r.nodup⟩
    · rw [gN (fun e => by have := r.at0; rw [← e, hat] at this; simp at this)]; exact r.at0
    · obtain ⟨ns, h1, h2, h3⟩ := r.rows j x hx
      exact ⟨ns, h1, h2, by rw [gN (fun e => by rw [← e, hat] at h3; simp at h3)]; exact h3⟩
  refine ⟨?_, fun h => (by cases h), by simp [p.len], fun i y hy => ?_, p.low, ?_⟩
  · rw [List.getElem?_set, if_pos rfl, if_pos hb]; simp
  · by_cases hi : i < T.length
    · rw [List.getElem?_append_left hi] at hy
      obtain ⟨R, h1, h2⟩ := p2.rows i y hy
      exact ⟨R, by rw [List.getElem?_append_left (by rw [p.len]; exact hi)]; exact h1, key h2 (Nat.le_refl _)⟩
    · have hi2 : i = T.length := by have := (List.getElem?_eq_some_iff.1 hy).1; simp at this; omega
      subst hi2
      simp at hy; subst hy
      exact ⟨Q, by rw [← p.len]; simp, key q ho⟩
  · rw [List.flatMap_append, List.map_append]
    refine List.nodup_append.2 ⟨p.nodup, by simpa using q.nodup, fun u hu w hw e => ?_⟩
    obtain ⟨x, hx, rfl⟩ := List.mem_map.1 hu
    obtain ⟨y, hy, hxy⟩ := List.mem_flatMap.1 hx
    obtain ⟨i, hi⟩ := List.getElem?_of_mem hy
    obtain ⟨R, _, h2⟩ := p.rows i y hi
    have h3 := h2.ids_lt x hxy
    obtain ⟨z, hz, rfl⟩ := List.mem_map.1 hw
    have h4 := q.low.2 z (by simpa using hz)
    omega
def rows2V (P : List (List Int)) : List (List V) := P.map fun r => [V.vec (ivs r) r.length]
def rows3V (P : List (List (List Int))) : List (List V) := P.map fun Q => [V.vec (rows2V Q) Q.length]
theorem N2.frz (p : N2 o h b g fl ids P) : Go.AM.frz h 2 (.ref b g 0 ids.length) = .vec (rows2V P) P.length := by
  have e : (if fl = true then ids.map fun x => [rv x] else (ids.map fun x => [rv x]).map fun x => x.map (Go.AM.frz h 1)) = rows2V P := by
    by_cases hf : fl = true
    · rw [if_pos hf, p.flat hf]
      have := p.len
      rw [p.flat hf] at this
      rw [List.eq_nil_of_length_eq_zero this]; rfl
    · rw [if_neg hf]
      apply List.ext_getElem?
      intro j
      rcases Nat.lt_or_ge j ids.length with hj | hj
      · obtain ⟨ns, h1, h2, h3⟩ := p.rows j _ (List.getElem?_eq_getElem hj)
        simp [rows2V, h1, hj, rv, Go.AM.frz, h3, ← h2, ivs]
      · rw [List.getElem?_eq_none (by simpa using hj), List.getElem?_eq_none (by simp [rows2V, p.len]; exact hj)]
  rw [Go.AM.frz]
  simp only [p.at0]
  rw [if_pos ⟨trivial, by simp⟩]
  simp only [List.drop_zero, e, p.len]
theorem N3.frz (p : N3 o h b g fl T PP) : Go.AM.frz h 3 (.ref b g 0 T.length) = .vec (rows3V PP) PP.length := by
  have e : (if fl = true then T.map fun y => [V.ref y.1 y.2.1 0 y.2.2.2.length] else (T.map fun y => [V.ref y.1 y.2.1 0 y.2.2.2.length]).map fun x => x.map (Go.AM.frz h 2)) = rows3V PP := by
    by_cases hf : fl = true
    · rw [if_pos hf, p.flat hf]
      have := p.len
      rw [p.flat hf] at this
      rw [List.eq_nil_of_length_eq_zero this]; rfl
    · rw [if_neg hf]
      apply List.ext_getElem?
      intro j
      rcases Nat.lt_or_ge j T.length with hj | hj
      · obtain ⟨Q, h1, h2⟩ := p.rows j _ (List.getElem?_eq_getElem hj)
        have h3 := h2.frz
        simp only [rows3V, List.getElem?_map, h1, List.getElem?_eq_getElem hj, Option.map_some, List.map_cons, List.map_nil, h3]
      · rw [List.getElem?_eq_none (by simpa using hj), List.getElem?_eq_none (by simp [rows3V, p.len]; exact hj)]
  rw [Go.AM.frz]
  simp only [p.at0]
  rw [if_pos ⟨trivial, by simp⟩]
  simp only [List.drop_zero, e, p.len]
end
end Go.Proofs.YtgmlimipejcpgaaGreatDoor
end
