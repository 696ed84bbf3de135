/-
  YtgmlimipejcpgaaDoorLo01: steps of the proof of a law of the program: what these texts prove holds under the hypotheses that their theorems name, and no others.
-/
import Derived.Test.YtgmlimipejcpgaaDoorLo00
import Derived.Test.YtgmlimipejcpgaaDoorCd20
section
set_option linter.unusedSimpArgs false
set_option linter.unusedVariables false
namespace Go.Proofs.YtgmlimipejcpgaaDoor
open Go Go.AM Fx
theorem edges_ok {n : NetD} (h : wholeE n = 0) : ∀ a ∈ n.autos, okE a := by
  unfold wholeE at h
  have h1 := (fZ (fZ (fZ (fZ (fZ (fZ h).2).2).2).2).2).1
  intro a ha e he
  unfold edgesE at h1
  by_cases hb : anyL (fun a => anyL (edgeB n a) a.edges) n.autos = true
  · rw [if_pos hb] at h1; cases h1
  · have h2 : edgeB n a e = false := by
      cases hc : edgeB n a e
      · rfl
      · exact absurd (List.any_eq_true.2 ⟨a, ha, List.any_eq_true.2 ⟨e, he, hc⟩⟩) hb
    simp only [edgeB, isLoc, Bool.or_eq_false_iff, Bool.not_eq_false', decide_eq_true_eq] at h2
    exact ⟨by omega, by omega⟩
/-- The clocks, counted from 1, that are active. -/
noncomputable def actL (a : AutoD) (gs : List (List PartD)) (loc k : Nat) : List Int := ((List.range k).filter fun c : Nat => actB a gs ((c : Int) + 1) loc).map fun c : Nat => (c : Int) + 1
theorem actL_succ {a : AutoD} {gs : List (List PartD)} {loc k : Nat} : actL a gs loc (k + 1) = if actB a gs ((k : Int) + 1) loc = true then actL a gs loc k ++ [(k : Int) + 1] else actL a gs loc k := by
  unfold actL
  rw [List.range_succ, List.filter_append, List.map_append]
  by_cases h : actB a gs ((k : Int) + 1) loc = true <;> simp [h]
/-- The clocks and the error: what both tell. -/
noncomputable def clksL (n : NetD) (au lo : Int) (gs : List (List PartD)) : List Int :=
  if lookE n gs ≠ 0 then [] else if badLoc n au lo then [] else actL (n.autos.getD au.toNat default) gs lo.toNat n.clocks.length
def clksE (n : NetD) (au lo : Int) (gs : List (List PartD)) : Int :=
  if lookE n gs ≠ 0 then lookE n gs else if badLoc n au lo then 122 else 0
end Go.Proofs.YtgmlimipejcpgaaDoor
end
section
set_option linter.unusedVariables false
set_option linter.unusedSimpArgs false
namespace Go.Proofs.YtgmlimipejcpgaaDoor
open Go Go.AM Fx
/-- Marks on the heap: a row of rows. -/
def mrefs (ids : List (Nat × Nat)) (N : Nat) : List (List V) := ids.map fun x => [V.ref x.1 x.2 0 N]
structure MR {α : Type} (T0 T : TypeId) (en : List α → List (List V)) (h : List B) (mr gm : Nat) (fl : Bool) (ids : List (Nat × Nat)) (N : Nat) (m : List (List α)) (hc : List B) : Prop where
  ne : T0 ≠ T
  len : hc.length = h.length
  hl : HL hc
  mr : hc[mr]? = some (.row T0 gm 0 fl (mrefs ids N))
  ml : m.length = ids.length
  rows : ∀ (i : Nat) (x : Nat × Nat), ids[i]? = some x → ∃ r, m[i]? = some r ∧ r.length = N ∧ hc[x.1]? = some (.row T x.2 0 true (en r))
  inj : ∀ (i j : Nat) (x y : Nat × Nat), ids[i]? = some x → ids[j]? = some y → x.1 = y.1 → i = j
  rest : ∀ b, (∀ x ∈ ids, x.1 ≠ b) → hc[b]? = h[b]?
section
variable {α : Type} {T0 T : TypeId} {en : List α → List (List V)} {h hc : List B} {mr gm N : Nat} {fl : Bool} {ids : List (Nat × Nat)} {m : List (List α)}
theorem MR.upd (p : MR T0 T en h mr gm fl ids N m hc) {i : Nat} {x : Nat × Nat} (hx : ids[i]? = some x) {r : List α} (hr : r.length = N) : MR T0 T en h mr gm fl ids N (m.set i r) (hc.set x.1 (.row T x.2 0 true (en r))) := by
  obtain ⟨r0, h1, h2, h3⟩ := p.rows i x hx
  have hi := (List.getElem?_eq_some_iff.1 h1).1
  have hne : x.1 ≠ mr := fun e => by
    rw [e, p.mr] at h3
    simp only [Option.some.injEq, B.row.injEq] at h3
    exact p.ne h3.1
  refine ⟨p.ne, by rw [List.length_set]; exact p.len, p.hl.set rowF_lt, by rw [gN hne]; exact p.mr, by rw [List.length_set]; exact p.ml, fun j y hy => ?_, p.inj, fun b hb => by rw [gN (hb x (List.mem_of_getElem? hx))]; exact p.rest b hb⟩
  by_cases e : i = j
  · subst e
    obtain rfl : x = y := by rw [hx] at hy; cases hy; rfl
    exact ⟨r, by rw [List.getElem?_set, if_pos rfl, if_pos hi], hr, get_set_eq h3⟩
  · obtain ⟨r1, k1, k2, k3⟩ := p.rows j y hy
    exact ⟨r1, by rw [List.getElem?_set, if_neg e]; exact k1, k2, by rw [gN (fun e2 => e (p.inj i j x y hx hy e2))]; exact k3⟩
theorem MR.at (p : MR T0 T en h mr gm fl ids N m hc) {i : Nat} (hi : i < ids.length) : ∃ x : Nat × Nat, ids[i]? = some x ∧ (mrefs ids N)[i]'(by simp [mrefs, hi]) = [V.ref x.1 x.2 0 N] :=
  ⟨ids[i], List.getElem?_eq_getElem hi, by simp [mrefs]⟩
end
end Go.Proofs.YtgmlimipejcpgaaDoor
end
section
set_option linter.unusedSimpArgs false
set_option linter.unusedVariables false
namespace Go.Proofs.YtgmlimipejcpgaaDoor
open Go Go.AM Fx
theorem look_ok {n : NetD} {gs : List (List PartD)} (h : lookE n gs = 0) : netE n = 0 ∧ ∀ g ∈ gs, goalE n g = 0 := by
  unfold lookE at h
  by_cases hz : netE n = 0
  · rw [if_neg (by simp [hz])] at h
    refine ⟨hz, ?_⟩
    clear hz
    induction gs with
    | nil => intro g hg; cases hg
    | cons x r ih =>
      rw [lookF_cons] at h
      by_cases hx : goalE n x = 0
      · rw [if_neg (by simp [hx])] at h
        intro g hg
        rcases List.mem_cons.1 hg with rfl | hg
        · exact hx
        · exact ih h g hg
      · rw [if_pos hx] at h; exact absurd h hx
  · rw [if_pos hz] at h; exact absurd h hz
theorem MR.base {h hc : List B} {mr gm N : Nat} {fl : Bool} {ids : List (Nat × Nat)} {m : Marks} (p : MR 99 4 bvs h mr gm fl ids N m hc) : MR 99 4 bvs hc mr gm fl ids N m hc := ⟨p.ne, rfl, p.hl, p.mr, p.ml, p.rows, p.inj, fun _ _ => rfl⟩
/-- The marks as a value that nobody writes any more. -/
theorem MR.conv {h hc : List B} {mr gm N : Nat} {fl : Bool} {ids : List (Nat × Nat)} {m : Marks} {vs : List (List V)} (p : MR 99 4 bvs h mr gm fl ids N m hc) (hfl : fl = true → ids = []) (hv : vs.length = ids.length) (hm : ∀ (i : Nat) (r : List Bool), m[i]? = some r → vs[i]? = some [V.vec (bvs r) N]) :
    Conv hc (.ref mr gm 0 ids.length) (.vec vs ids.length) := by
  refine .inl ⟨2, ?_, rfl⟩
  have e : vs = if fl = true then (mrefs ids N).drop 0 else ((mrefs ids N).drop 0).map fun x => x.map (frz hc 1) := by
    by_cases hf : fl = true
    · rw [if_pos hf, hfl hf]
      rw [hfl hf] at hv
      simpa [mrefs] using hv
    · rw [if_neg hf]
      apply List.ext_getElem?
      intro i
      rcases Nat.lt_or_ge i ids.length with hi | hi
      · obtain ⟨r, h1, h2, h3⟩ := p.rows i _ (List.getElem?_eq_getElem hi)
        rw [hm i r h1]
        simp [mrefs, hi, frz, h3, bvs, h2]
      · rw [List.getElem?_eq_none (by omega), List.getElem?_eq_none (by simp [mrefs, hi])]
  rw [e]
  simp [frz, p.mr, mrefs]
end Go.Proofs.YtgmlimipejcpgaaDoor
end
section
set_option linter.unusedVariables false
set_option linter.unusedSimpArgs false
namespace Go.Proofs.YtgmlimipejcpgaaDoor
open Go Go.AM Fx
/-- A row of rows of ints. -/
structure N2 (o : Nat) (h : List B) (b g : Nat) (fl : Bool) (ids : List (Nat × Nat × Nat)) (P : List (List Int)) : Prop where
  at0 : h[b]? = some (.row 30 g 0 fl (ids.map fun x => [rv x]))
  flat : fl = true → ids = []
  len : P.length = ids.length
  rows : ∀ (j : Nat) (x : Nat × Nat × Nat), ids[j]? = some x → ∃ ns, P[j]? = some ns ∧ ns.length = x.2.2 ∧ h[x.1]? = some (.row 3 x.2.1 0 true (ivs ns))
  low : o ≤ b ∧ ∀ x ∈ ids, o ≤ x.1
  nodup : (ids.map (·.1)).Nodup
structure N3 (o : Nat) (h : List B) (b g : Nat) (fl : Bool) (T : List (Nat × Nat × Bool × List (Nat × Nat × Nat))) (P : List (List (List Int))) : Prop where
  at0 : h[b]? = some (.row 57 g 0 fl (T.map fun y => [V.ref y.1 y.2.1 0 y.2.2.2.length]))
  flat : fl = true → T = []
  len : P.length = T.length
  rows : ∀ (i : Nat) (y : Nat × Nat × Bool × List (Nat × Nat × Nat)), T[i]? = some y → ∃ Q, P[i]? = some Q ∧ N2 o h y.1 y.2.1 y.2.2.1 y.2.2.2 Q
  low : o ≤ b
  nodup : ((T.flatMap (·.2.2.2)).map (·.1)).Nodup
section
variable {o b g : Nat} {h h' : List B} {fl : Bool} {ids : List (Nat × Nat × Nat)} {P : List (List Int)} {T : List (Nat × Nat × Bool × List (Nat × Nat × Nat))} {PP : List (List (List Int))}
theorem N2.ids_lt (p : N2 o h b g fl ids P) : ∀ x ∈ ids, x.1 < h.length := fun x hx => by
  obtain ⟨j, hj⟩ := List.getElem?_of_mem hx
  obtain ⟨_, _, _, h3⟩ := p.rows j x hj
  exact (List.getElem?_eq_some_iff.1 h3).1
theorem N2.b_lt (p : N2 o h b g fl ids P) : b < h.length := (List.getElem?_eq_some_iff.1 p.at0).1
theorem N2.mono (p : N2 o h b g fl ids P) (hh : ∀ k, k < h.length → h'[k]? = h[k]?) : N2 o h' b g fl ids P :=
  ⟨by rw [hh _ p.b_lt]; exact p.at0, p.flat, p.len, fun j x hx => by
    obtain ⟨ns, h1, h2, h3⟩ := p.rows j x hx
    exact ⟨ns, h1, h2, by rw [hh _ (List.getElem?_eq_some_iff.1 h3).1]; exact h3⟩, p.low, p.nodup⟩
theorem N3.b_lt (p : N3 o h b g fl T PP) : b < h.length := (List.getElem?_eq_some_iff.1 p.at0).1
theorem N3.mono (p : N3 o h b g fl T PP) (hh : ∀ k, k < h.length → h'[k]? = h[k]?) : N3 o h' b g fl T PP :=
  ⟨by rw [hh _ p.b_lt]; exact p.at0, p.flat, p.len, fun i y hy => by
    obtain ⟨Q, h1, h2⟩ := p.rows i y hy
    exact ⟨Q, h1, h2.mono hh⟩, p.low, p.nodup⟩
/-- A row more. -/
theorem N2.snoc (p : N2 o h b g fl ids P) {ns : List Int} (ho : o ≤ h.length) : N2 o (h.set b (.row 30 (g + 1) 0 false (ids.map (fun x => [rv x]) ++ [[rv (h.length, 0, ns.length)]])) ++ [B.row 3 0 0 true (ivs ns)]) b (g + 1) false (ids ++ [(h.length, 0, ns.length)]) (P ++ [ns]) := by
  have hb := p.b_lt
  refine ⟨?_, fun h => (by cases h), by simp [p.len], fun j x hx => ?_, ⟨p.low.1, fun x hx => ?_⟩, ?_⟩
  · rw [get_app (by simpa using hb), List.getElem?_set, if_pos rfl, if_pos hb]; simp
  · by_cases hj : j < ids.length
    · rw [List.getElem?_append_left hj] at hx
      obtain ⟨ms, h1, h2, h3⟩ := p.rows j x hx
      have hx1 := (List.getElem?_eq_some_iff.1 h3).1
      have hne : b ≠ x.1 := fun e => by
        have := p.at0
        rw [e, h3] at this
        simp at this
      exact ⟨ms, by rw [List.getElem?_append_left (by rw [p.len]; exact hj)]; exact h1, h2, by rw [get_app (by simpa using hx1), gN hne]; exact h3⟩
    · have hj2 : j = ids.length := by have := (List.getElem?_eq_some_iff.1 hx).1; simp at this; omega
      subst hj2
      simp at hx; subst hx
      refine ⟨ns, by rw [← p.len]; simp, rfl, ?_⟩
      rw [ga0 (by simp)]; rfl
  · rcases List.mem_append.1 hx with hx | hx
    · exact p.low.2 x hx
    · simp at hx; subst hx; exact ho
  · rw [List.map_append]
    refine List.nodup_append.2 ⟨p.nodup, by simp, fun u hu w hw e => ?_⟩
    obtain ⟨x, hx, rfl⟩ := List.mem_map.1 hu
    simp at hw
    have := p.ids_lt x hx
    omega
/-- Rows of rows more, all of them behind what there was. -/
theorem N3.snoc {hc : List B} (p : N3 o h b g fl T PP) (ho : o ≤ h.length) (hh : ∀ k, k < h.length → hc[k]? = h[k]?) {b2 g2 : Nat} {fl2 : Bool} {ids : List (Nat × Nat × Nat)} {Q : List (List Int)} (q : N2 h.length hc b2 g2 fl2 ids Q) :
    N3 o (hc.set b (.row 57 (g + 1) 0 false (T.map (fun y => [V.ref y.1 y.2.1 0 y.2.2.2.length]) ++ [[V.ref b2 g2 0 ids.length]]))) b (g + 1) false (T ++ [(b2, g2, fl2, ids)]) (PP ++ [Q]) := by
  have p2 := p.mono hh
  have hb := p2.b_lt
  have hb0 := p.b_lt
  have key : ∀ {y1 y2 : Nat} {f : Bool} {l : List (Nat × Nat × Nat)} {R : List (List Int)} {o' : Nat}, N2 o' hc y1 y2 f l R → o ≤ o' → N2 o (hc.set b (.row 57 (g + 1) 0 false (T.map (fun y => [V.ref y.1 y.2.1 0 y.2.2.2.length]) ++ [[V.ref b2 g2 0 ids.length]]))) y1 y2 f l R := fun {y1 y2 f l R o'} r hoo => by
    have hat := p2.at0
    refine ⟨?_, r.flat, r.len, fun j x hx => ?_, ⟨Nat.le_trans hoo r.low.1, fun x hx => Nat.le_trans hoo (r.low.2 x hx)⟩, r.nodup⟩
    · rw [gN (fun e => by have := r.at0; rw [← e, hat] at this; simp at this)]; exact r.at0
    · obtain ⟨ns, h1, h2, h3⟩ := r.rows j x hx
      exact ⟨ns, h1, h2, by rw [gN (fun e => by rw [← e, hat] at h3; simp at h3)]; exact h3⟩
  refine ⟨?_, fun h => (by cases h), by simp [p.len], fun i y hy => ?_, p.low, ?_⟩
  · rw [List.getElem?_set, if_pos rfl, if_pos hb]; simp
  · by_cases hi : i < T.length
    · rw [List.getElem?_append_left hi] at hy
      obtain ⟨R, h1, h2⟩ := p2.rows i y hy
      exact ⟨R, by rw [List.getElem?_append_left (by rw [p.len]; exact hi)]; exact h1, key h2 (Nat.le_refl _)⟩
    · have hi2 : i = T.length := by have := (List.getElem?_eq_some_iff.1 hy).1; simp at this; omega
      subst hi2
      simp at hy; subst hy
      exact ⟨Q, by rw [← p.len]; simp, key q ho⟩
  · rw [List.flatMap_append, List.map_append]
    refine List.nodup_append.2 ⟨p.nodup, by simpa using q.nodup, fun u hu w hw e => ?_⟩
    obtain ⟨x, hx, rfl⟩ := List.mem_map.1 hu
    obtain ⟨y, hy, hxy⟩ := List.mem_flatMap.1 hx
    obtain ⟨i, hi⟩ := List.getElem?_of_mem hy
    obtain ⟨R, _, h2⟩ := p.rows i y hi
    have h3 := h2.ids_lt x hxy
    obtain ⟨z, hz, rfl⟩ := List.mem_map.1 hw
    have h4 := q.low.2 z (by simpa using hz)
    omega
def rows2V (P : List (List Int)) : List (List V) := P.map fun r => [V.vec (ivs r) r.length]
def rows3V (P : List (List (List Int))) : List (List V) := P.map fun Q => [V.vec (rows2V Q) Q.length]
theorem N2.frz (p : N2 o h b g fl ids P) : Go.AM.frz h 2 (.ref b g 0 ids.length) = .vec (rows2V P) P.length := by
  have e : (if fl = true then ids.map fun x => [rv x] else (ids.map fun x => [rv x]).map fun x => x.map (Go.AM.frz h 1)) = rows2V P := by
    by_cases hf : fl = true
    · rw [if_pos hf, p.flat hf]
      have := p.len
      rw [p.flat hf] at this
      rw [List.eq_nil_of_length_eq_zero this]; rfl
    · rw [if_neg hf]
      apply List.ext_getElem?
      intro j
      rcases Nat.lt_or_ge j ids.length with hj | hj
      · obtain ⟨ns, h1, h2, h3⟩ := p.rows j _ (List.getElem?_eq_getElem hj)
        simp [rows2V, h1, hj, rv, Go.AM.frz, h3, ← h2, ivs]
      · rw [List.getElem?_eq_none (by simpa using hj), List.getElem?_eq_none (by simp [rows2V, p.len]; exact hj)]
  rw [Go.AM.frz]
  simp only [p.at0]
  rw [if_pos ⟨trivial, by simp⟩]
  simp only [List.drop_zero, e, p.len]
theorem N3.frz (p : N3 o h b g fl T PP) : Go.AM.frz h 3 (.ref b g 0 T.length) = .vec (rows3V PP) PP.length := by
  have e : (if fl = true then T.map fun y => [V.ref y.1 y.2.1 0 y.2.2.2.length] else (T.map fun y => [V.ref y.1 y.2.1 0 y.2.2.2.length]).map fun x => x.map (Go.AM.frz h 2)) = rows3V PP := by
    by_cases hf : fl = true
    · rw [if_pos hf, p.flat hf]
      have := p.len
      rw [p.flat hf] at this
      rw [List.eq_nil_of_length_eq_zero this]; rfl
    · rw [if_neg hf]
      apply List.ext_getElem?
      intro j
      rcases Nat.lt_or_ge j T.length with hj | hj
      · obtain ⟨Q, h1, h2⟩ := p.rows j _ (List.getElem?_eq_getElem hj)
        have h3 := h2.frz
        simp only [rows3V, List.getElem?_map, h1, List.getElem?_eq_getElem hj, Option.map_some, List.map_cons, List.map_nil, h3]
      · rw [List.getElem?_eq_none (by simpa using hj), List.getElem?_eq_none (by simp [rows3V, p.len]; exact hj)]
  rw [Go.AM.frz]
  simp only [p.at0]
  rw [if_pos ⟨trivial, by simp⟩]
  simp only [List.drop_zero, e, p.len]
end
end Go.Proofs.YtgmlimipejcpgaaDoor
end
section
set_option linter.unusedSimpArgs false
set_option linter.unusedVariables false
namespace Go.Proofs.YtgmlimipejcpgaaDoor
open Go Go.AM Fx
structure HA where
  i : Nat
  hc : List B
  fl : Bool
  T : List (Nat × Nat × Bool × List (Nat × Nat × Nat))
structure HB where
  j : Nat
  hc : List B
  fl : Bool
  ids : List (Nat × Nat × Nat)
theorem refs_lt {ids : List (Nat × Nat × Nat)} {n : Nat} (h : ∀ x ∈ ids, x.1 < n) : ∀ y ∈ ids.map (fun x => [rv x]), V.lts n y = true := fun y hy => by
  obtain ⟨x, hx, rfl⟩ := List.mem_map.1 hy
  simp [rv, h x hx]
end Go.Proofs.YtgmlimipejcpgaaDoor
end
section
set_option linter.unusedVariables false
set_option linter.unusedSimpArgs false
namespace Go.AM
section
variable {P : Program} {ge : GEnv}
theorem RO_fin {G G' : Gh} {w w' : World} {h : List B} {v r : V} {c : Value} (rh : RH P ge G' h w') (hvc : R G' w' false v c) (grow : WGrow w w') (hsz : w.heap.size ≤ w'.heap.size) (hfzold : ∀ k, k < w.heap.size → G'.fz k = G.fz k)
    (hbase : ∀ (b : Nat) (x : B) (k : Nat), h[b]? = some x → G'.at b x = some k → w.heap.size ≤ k) (hconv : Conv h v r) : ∃ c1 G2, Ending.returned c = .returned c1 ∧ Kept G w G2 w' ∧ RO P G2 w' w.heap.size r c1 := by
  rcases hconv with ⟨n, hrr, hp⟩ | h1 | ⟨vs, rs, rfl, rfl, hl, hall, hdis⟩
  · let fz2 : Nat → Nat := fun k => if k < w.heap.size then G'.fz k else match w'.heap[k]? with
      | some (.cells arr _ _) => max (G'.fz k) arr.size
      | _ => G'.fz k
    have hle : ∀ k, G'.fz k ≤ fz2 k := fun k => by
      show G'.fz k ≤ if k < w.heap.size then G'.fz k else match w'.heap[k]? with | some (.cells arr _ _) => max (G'.fz k) arr.size | _ => G'.fz k
      split
      · exact Nat.le_refl _
      · split
        · exact Nat.le_max_left _ _
        · exact Nat.le_refl _
    have hfr := frz_spec rh (fz2 := fz2) hle (fun b x k arr T fr hx hk hh => by
      have hb := hbase b x k hx hk
      show arr.size ≤ if k < w.heap.size then G'.fz k else match w'.heap[k]? with | some (.cells arr _ _) => max (G'.fz k) arr.size | _ => G'.fz k
      rw [if_neg (by omega), hh]
      exact Nat.le_max_right _ _) n hvc
    refine ⟨c, G'.withFz fz2, rfl, ⟨grow, fun k hk => ?_, fun k hk => ?_⟩, ?_⟩
    · show (if k < w.heap.size then G'.fz k else _) = G.fz k
      rw [if_pos hk]; exact hfzold k hk
    · have hk2 : ¬ k < w.heap.size := by have := hsz; omega
      show (if k < w.heap.size then G'.fz k else match w'.heap[k]? with | some (.cells arr _ _) => max (G'.fz k) arr.size | _ => G'.fz k) = 0
      rw [if_neg hk2, Array.getElem?_eq_none hk]
      exact rh.fzlt k hk
    · rw [← hrr] at hfr
      refine RO_of_one ?_
      cases r <;> first | exact hfr | (simp [V.plain] at hp)
  · exact ⟨c, G', rfl, ⟨grow, hfzold, rh.fzlt⟩, RO_of_one (RO1_of_conv rh hbase hvc h1)⟩
  · refine ⟨c, G', rfl, ⟨grow, hfzold, rh.fzlt⟩, ?_⟩
    cases hvc with
    | @tup _ _ arr hs hr' =>
      refine ⟨arr, rfl, by rw [hs]; exact hl, fun i v hv => ?_, fun i j u v k hu hv ou ov b1 b2 => ?_⟩
      · have hi : i < vs.length := by rw [hl]; exact (List.getElem?_eq_some_iff.1 hv).1
        exact RO1_of_conv rh hbase (hr' i _ (List.getElem?_eq_getElem hi)) (hall i _ v (List.getElem?_eq_getElem hi) hv)
      · have hi : i < vs.length := by rw [hl]; exact (List.getElem?_eq_some_iff.1 hu).1
        have hj : j < vs.length := by rw [hl]; exact (List.getElem?_eq_some_iff.1 hv).1
        have key : ∀ (i : Nat) (hi : i < vs.length) (u : V), rs[i]? = some u → u.isOwn = true → blkOf (arr.getD i undef) = some k → ∃ b x, vs[i].refBlk = some b ∧ h[b]? = some x ∧ G'.at b x = some k := by
          intro i hi u hu ou hb1
          have hR := hr' i _ (List.getElem?_eq_getElem hi)
          rcases hall i _ u (List.getElem?_eq_getElem hi) hu with ⟨hf, rfl⟩ | ⟨b, g, T, xs, hvi, hbx, rfl⟩
          · generalize hvv : vs[i] = vv at *
            cases vv <;> simp [V.isOwn] at ou
            simp [V.isF] at hf
          · rw [hvi] at hR
            refine ⟨b, _, by rw [hvi]; rfl, hbx, ?_⟩
            generalize arr.getD i undef = cc at *
            generalize hnl : xs.length = nl at hR
            cases hR with
            | ref hb' hg' hm' hle' => simp only [blkOf, Option.some.injEq] at hb1; subst hb1; exact hm'
            | refn => simp [blkOf] at hb1
        obtain ⟨bi, xi, e1, e2, e3⟩ := key i hi u hu ou b1
        obtain ⟨bj, xj, f1, f2, f3⟩ := key j hj v hv ov b2
        have hbb := rh.inj bi bj xi xj k e2 f2 e3 f3
        subst hbb
        exact hdis i j _ _ bi (List.getElem?_eq_getElem hi) (List.getElem?_eq_getElem hj) e1 f1
/-- A contract on the empty heap whose results may be told as frozen values or rows of one's own. -/
theorem PCall_of_GCall {f : Nat} {args : List V} {r : V} {Q : V → List B → Prop} (hc : GCall P ge f args [] Q) (hq : ∀ v h', Q v h' → Conv h' v r) : PCall P ge f args r := by
  refine ⟨hc.1, fun G w cargs ha gee => ?_⟩
  let G0 : Gh := { fz := G.fz, n := 0, gm := fun _ => 0, m := fun _ _ => none, sz := fun _ => 0, cap := fun _ _ => 0 }
  have ha0 : ArgsR G0 w false args cargs := ⟨ha.1, fun i v hv => ((ha.2 i v hv).monoT (G' := G0) (fun k => Nat.le_refl (G.fz k)) (fun _ _ _ => rfl) rfl).weak rfl⟩
  have rh0 : RH P ge G0 [] w := ⟨rfl, fun b x hx => by simp at hx, fun b b' x x' k hx => by simp at hx, gee.fzlt, fun g cs hg => (gee.ge g cs hg).monoT (G' := G0) (fun k => Nat.le_refl (G.fz k)) (fun _ _ _ => rfl) rfl⟩
  refine (hc.2 G0 w cargs ha0 rh0).mono fun e w' ⟨c, G', v, h', he, hQ, rh, hv, ext⟩ => ?_
  obtain ⟨c1, G2, e1, k1, k2⟩ := RO_fin (G := G) rh hv ⟨ext.size, fun k hk => (ext.frame k hk fun b x hx => by simp at hx).1, ext.os, ext.out⟩ ext.size (fun k hk => (ext.frame k hk fun b x hx => by simp at hx).2) (fun b x k hx hk => by
    rcases ext.fresh b x k hx hk with h | ⟨b0, x0, h, _⟩
    · exact h
    · simp at h) (hq v h' hQ)
  exact ⟨c1, G2, by rw [he]; exact e1, k1, k2⟩
end
end Go.AM
end
section
set_option linter.unusedSimpArgs false
set_option linter.unusedVariables false
namespace Go.Proofs.YtgmlimipejcpgaaDoor
open Go Go.AM Fx
theorem N2.setne {o b g : Nat} {h : List B} {fl : Bool} {ids : List (Nat × Nat × Nat)} {P : List (List Int)} (p : N2 o h b g fl ids P) {k : Nat} {cs : List V} {y : B} (hk : h[k]? = some (.var cs)) : N2 o (h.set k y) b g fl ids P :=
  ⟨by rw [gN (fun e => by have := p.at0; rw [← e, hk] at this; cases this)]; exact p.at0, p.flat, p.len, fun j x hx => by
    obtain ⟨ns, h1, h2, h3⟩ := p.rows j x hx
    exact ⟨ns, h1, h2, by rw [gN (fun e => by rw [← e, hk] at h3; cases h3)]; exact h3⟩, p.low, p.nodup⟩
theorem N3.setne {o b g : Nat} {h : List B} {fl : Bool} {T : List (Nat × Nat × Bool × List (Nat × Nat × Nat))} {P : List (List (List Int))} (p : N3 o h b g fl T P) {k : Nat} {cs : List V} {y : B} (hk : h[k]? = some (.var cs)) : N3 o (h.set k y) b g fl T P :=
  ⟨by rw [gN (fun e => by have := p.at0; rw [← e, hk] at this; cases this)]; exact p.at0, p.flat, p.len, fun i x hx => by
    obtain ⟨Q, h1, h2⟩ := p.rows i x hx
    exact ⟨Q, h1, h2.setne hk⟩, p.low, p.nodup⟩
theorem N3.low' {o o' b g : Nat} {h : List B} {fl : Bool} {T : List (Nat × Nat × Bool × List (Nat × Nat × Nat))} {P : List (List (List Int))} (p : N3 o h b g fl T P) (ho : o' ≤ o) : N3 o' h b g fl T P :=
  ⟨p.at0, p.flat, p.len, fun i x hx => by
    obtain ⟨Q, h1, h2⟩ := p.rows i x hx
    exact ⟨Q, h1, ⟨h2.at0, h2.flat, h2.len, h2.rows, ⟨Nat.le_trans ho h2.low.1, fun x hx => Nat.le_trans ho (h2.low.2 x hx)⟩, h2.nodup⟩⟩, Nat.le_trans ho p.low, p.nodup⟩
theorem N3.ids_lt {o b g : Nat} {h : List B} {fl : Bool} {T : List (Nat × Nat × Bool × List (Nat × Nat × Nat))} {P : List (List (List Int))} (p : N3 o h b g fl T P) : ∀ y ∈ T, ∀ x ∈ y.2.2.2, x.1 < h.length := fun y hy x hx => by
  obtain ⟨i, hi⟩ := List.getElem?_of_mem hy
  obtain ⟨Q, _, h2⟩ := p.rows i y hi
  exact h2.ids_lt x hx
def halfV (P : List (List (List Int))) : V := .vec (rows3V P) P.length
def smallA : AutoD := smallN.autos.getD 0 default
theorem look_small : lookE smallN [] = 0 := by simp [lookE, net_small, lookF]
theorem act_small0 : actB smallA [] 1 0 = true := by
  simp only [actB, decide_eq_true_eq]
  exact .use (by decide) (by kernel_rfl)
theorem act_small1 : actB smallA [] 1 1 = false := by
  simp only [actB, decide_eq_false_iff_not]
  intro h
  generalize hi : 1 = i at h
  cases h with
  | use hi2 h => subst hi; revert h; decide
  | @edge e he _ _ =>
    simp [smallA, smallN] at he
    subst he
    simp at hi
theorem clks_small0 : clksL smallN 0 0 [] = [1] ∧ clksE smallN 0 0 [] = 0 := by
  have h : ¬ badLoc smallN 0 0 := by unfold badLoc; decide
  have ha := act_small0
  refine ⟨?_, by simp [clksE, look_small, h]⟩
  simp only [clksL, look_small, h, if_false, ne_eq, not_true_eq_false]
  show actL smallA [] 0 (0 + 1) = [1]
  rw [actL_succ, if_pos (by simpa using ha)]; rfl
theorem clks_small1 : clksL smallN 0 1 [] = [] ∧ clksE smallN 0 1 [] = 0 := by
  have h : ¬ badLoc smallN 0 1 := by unfold badLoc; decide
  have ha := act_small1
  refine ⟨?_, by simp [clksE, look_small, h]⟩
  simp only [clksL, look_small, h, if_false, ne_eq, not_true_eq_false]
  show actL smallA [] 1 (0 + 1) = []
  rw [actL_succ, if_neg (by simpa using ha)]; rfl
end Go.Proofs.YtgmlimipejcpgaaDoor
end
