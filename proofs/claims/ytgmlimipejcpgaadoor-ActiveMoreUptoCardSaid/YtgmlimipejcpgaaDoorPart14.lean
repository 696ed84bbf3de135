/-
  YtgmlimipejcpgaaDoorPart14: steps of the proof of a law of the program: what these texts prove holds under the hypotheses that their theorems name, and no others.
-/
import Derived.Test.YtgmlimipejcpgaaDoorPart13
import Derived.Test.YtgmlimipejcpgaaDoorPart06
import Derived.Test.YtgmlimipejcpgaaDoorPart12
import Derived.Test.YtgmlimipejcpgaaDoorPart10
import Derived.Test.YtgmlimipejcpgaaDoorPart07
import Derived.Test.YtgmlimipejcpgaaDoorPart08
section
set_option linter.unusedVariables false
set_option linter.unusedSimpArgs false
namespace Go.Proofs.YtgmlimipejcpgaaDoor
open Go Go.AM Fx
/-- A row of rows of ints. -/
structure N2 (o : Nat) (h : List B) (b g : Nat) (fl : Bool) (ids : List (Nat × Nat × Nat)) (P : List (List Int)) : Prop where
  at0 : h[b]? = some (.row 30 g 0 fl (ids.map fun x => [rv x]))
  flat : fl = true → ids = []
  len : P.length = ids.length
  rows : ∀ (j : Nat) (x : Nat × Nat × Nat), ids[j]? = some x → ∃ ns, P[j]? = some ns ∧ ns.length = x.2.2 ∧ h[x.1]? = some (.row 3 x.2.1 0 true (ivs ns))
  low : o ≤ b ∧ ∀ x ∈ ids, o ≤ x.1
  nodup : (ids.map (·.1)).Nodup
structure N3 (o : Nat) (h : List B) (b g : Nat) (fl : Bool) (T : List (Nat × Nat × Bool × List (Nat × Nat × Nat))) (P : List (List (List Int))) : Prop where
  at0 : h[b]? = some (.row 57 g 0 fl (T.map fun y => [V.ref y.1 y.2.1 0 y.2.2.2.length]))
  flat : fl = true → T = []
  len : P.length = T.length
  rows : ∀ (i : Nat) (y : Nat × Nat × Bool × List (Nat × Nat × Nat)), T[i]? = some y → ∃ Q, P[i]? = some Q ∧ N2 o h y.1 y.2.1 y.2.2.1 y.2.2.2 Q
  low : o ≤ b
  nodup : ((T.flatMap (·.2.2.2)).map (·.1)).Nodup
section
variable {o b g : Nat} {h h' : List B} {fl : Bool} {ids : List (Nat × Nat × Nat)} {P : List (List Int)} {T : List (Nat × Nat × Bool × List (Nat × Nat × Nat))} {PP : List (List (List Int))}
theorem N2.ids_lt (p : N2 o h b g fl ids P) : ∀ x ∈ ids, x.1 < h.length := fun x hx => by
  obtain ⟨j, hj⟩ := List.getElem?_of_mem hx
  obtain ⟨_, _, _, h3⟩ := p.rows j x hj
  exact (List.getElem?_eq_some_iff.1 h3).1
theorem N2.b_lt (p : N2 o h b g fl ids P) : b < h.length := (List.getElem?_eq_some_iff.1 p.at0).1
theorem N2.mono (p : N2 o h b g fl ids P) (hh : ∀ k, k < h.length → h'[k]? = h[k]?) : N2 o h' b g fl ids P :=
  ⟨by rw [hh _ p.b_lt]; exact p.at0, p.flat, p.len, fun j x hx => by
    obtain ⟨ns, h1, h2, h3⟩ := p.rows j x hx
    exact ⟨ns, h1, h2, by rw [hh _ (List.getElem?_eq_some_iff.1 h3).1]; exact h3⟩, p.low, p.nodup⟩
theorem N3.b_lt (p : N3 o h b g fl T PP) : b < h.length := (List.getElem?_eq_some_iff.1 p.at0).1
theorem N3.mono (p : N3 o h b g fl T PP) (hh : ∀ k, k < h.length → h'[k]? = h[k]?) : N3 o h' b g fl T PP :=
  ⟨by rw [hh _ p.b_lt]; exact p.at0, p.flat, p.len, fun i y hy => by
    obtain ⟨Q, h1, h2⟩ := p.rows i y hy
    exact ⟨Q, h1, h2.mono hh⟩, p.low, p.nodup⟩
/-- A row more. -/
theorem N2.snoc (p : N2 o h b g fl ids P) {ns : List Int} (ho : o ≤ h.length) : N2 o (h.set b (.row 30 (g + 1) 0 false (ids.map (fun x => [rv x]) ++ [[rv (h.length, 0, ns.length)]])) ++ [B.row 3 0 0 true (ivs ns)]) b (g + 1) false (ids ++ [(h.length, 0, ns.length)]) (P ++ [ns]) := by
  have hb := p.b_lt
  refine ⟨?_, fun h => (by cases h), by simp [p.len], fun j x hx => ?_, ⟨p.low.1, fun x hx => ?_⟩, ?_⟩
  · rw [get_app (by simpa using hb), List.getElem?_set, if_pos rfl, if_pos hb]; simp
  · by_cases hj : j < ids.length
    · rw [List.getElem?_append_left hj] at hx
      obtain ⟨ms, h1, h2, h3⟩ := p.rows j x hx
      have hx1 := (List.getElem?_eq_some_iff.1 h3).1
      have hne : b ≠ x.1 := fun e => by
        have := p.at0
        rw [e, h3] at this
        simp at this
      exact ⟨ms, by rw [List.getElem?_append_left (by rw [p.len]; exact hj)]; exact h1, h2, by rw [get_app (by simpa using hx1), get_set_ne hne]; exact h3⟩
    · have hj2 : j = ids.length := by have := (List.getElem?_eq_some_iff.1 hx).1; simp at this; omega
      subst hj2
      simp at hx; subst hx
      refine ⟨ns, by rw [← p.len]; simp, rfl, ?_⟩
      rw [ga0 (by simp)]; rfl
  · rcases List.mem_append.1 hx with hx | hx
    · exact p.low.2 x hx
    · simp at hx; subst hx; exact ho
  · rw [List.map_append]
    refine List.nodup_append.2 ⟨p.nodup, by simp, fun u hu w hw e => ?_⟩
    obtain ⟨x, hx, rfl⟩ := List.mem_map.1 hu
    simp at hw
    have := p.ids_lt x hx
    omega
/-- Rows of rows more, all of them behind what there was. -/
theorem N3.snoc {hc : List B} (p : N3 o h b g fl T PP) (ho : o ≤ h.length) (hh : ∀ k, k < h.length → hc[k]? = h[k]?) {b2 g2 : Nat} {fl2 : Bool} {ids : List (Nat × Nat × Nat)} {Q : List (List Int)} (q : N2 h.length hc b2 g2 fl2 ids Q) :
    N3 o (hc.set b (.row 57 (g + 1) 0 false (T.map (fun y => [V.ref y.1 y.2.1 0 y.2.2.2.length]) ++ [[V.ref b2 g2 0 ids.length]]))) b (g + 1) false (T ++ [(b2, g2, fl2, ids)]) (PP ++ [Q]) := by
  have p2 := p.mono hh
  have hb := p2.b_lt
  have hb0 := p.b_lt
  have key : ∀ {y1 y2 : Nat} {f : Bool} {l : List (Nat × Nat × Nat)} {R : List (List Int)} {o' : Nat}, N2 o' hc y1 y2 f l R → o ≤ o' → N2 o (hc.set b (.row 57 (g + 1) 0 false (T.map (fun y => [V.ref y.1 y.2.1 0 y.2.2.2.length]) ++ [[V.ref b2 g2 0 ids.length]]))) y1 y2 f l R := fun {y1 y2 f l R o'} r hoo => by
    have hat := p2.at0
    refine ⟨?_, r.flat, r.len, fun j x hx => ?_, ⟨Nat.le_trans hoo r.low.1, fun x hx => Nat.le_trans hoo (r.low.2 x hx)⟩, r.nodup⟩
    · rw [get_set_ne (fun e => by have := r.at0; rw [← e, hat] at this; simp at this)]; exact r.at0
    · obtain ⟨ns, h1, h2, h3⟩ := r.rows j x hx
      exact ⟨ns, h1, h2, by rw [get_set_ne (fun e => by rw [← e, hat] at h3; simp at h3)]; exact h3⟩
  refine ⟨?_, fun h => (by cases h), by simp [p.len], fun i y hy => ?_, p.low, ?_⟩
  · rw [List.getElem?_set, if_pos rfl, if_pos hb]; simp
  · by_cases hi : i < T.length
    · rw [List.getElem?_append_left hi] at hy
      obtain ⟨R, h1, h2⟩ := p2.rows i y hy
      exact ⟨R, by rw [List.getElem?_append_left (by rw [p.len]; exact hi)]; exact h1, key h2 (Nat.le_refl _)⟩
    · have hi2 : i = T.length := by have := (List.getElem?_eq_some_iff.1 hy).1; simp at this; omega
      subst hi2
      simp at hy; subst hy
      exact ⟨Q, by rw [← p.len]; simp, key q ho⟩
  · rw [List.flatMap_append, List.map_append]
    refine List.nodup_append.2 ⟨p.nodup, by simpa using q.nodup, fun u hu w hw e => ?_⟩
    obtain ⟨x, hx, rfl⟩ := List.mem_map.1 hu
    obtain ⟨y, hy, hxy⟩ := List.mem_flatMap.1 hx
    obtain ⟨i, hi⟩ := List.getElem?_of_mem hy
    obtain ⟨R, _, h2⟩ := p.rows i y hi
    have h3 := h2.ids_lt x hxy
    obtain ⟨z, hz, rfl⟩ := List.mem_map.1 hw
    have h4 := q.low.2 z (by simpa using hz)
    omega
def rows2V (P : List (List Int)) : List (List V) := P.map fun r => [V.vec (ivs r) r.length]
def rows3V (P : List (List (List Int))) : List (List V) := P.map fun Q => [V.vec (rows2V Q) Q.length]
theorem N2.frz (p : N2 o h b g fl ids P) : Go.AM.frz h 2 (.ref b g 0 ids.length) = .vec (rows2V P) P.length := by
  have e : (if fl = true then ids.map fun x => [rv x] else (ids.map fun x => [rv x]).map fun x => x.map (Go.AM.frz h 1)) = rows2V P := by
    by_cases hf : fl = true
    · rw [if_pos hf, p.flat hf]
      have := p.len
      rw [p.flat hf] at this
      rw [List.eq_nil_of_length_eq_zero this]; rfl
    · rw [if_neg hf]
      apply List.ext_getElem?
      intro j
      rcases Nat.lt_or_ge j ids.length with hj | hj
      · obtain ⟨ns, h1, h2, h3⟩ := p.rows j _ (List.getElem?_eq_getElem hj)
        simp [rows2V, h1, hj, rv, Go.AM.frz, h3, ← h2, ivs]
      · rw [List.getElem?_eq_none (by simpa using hj), List.getElem?_eq_none (by simp [rows2V, p.len]; exact hj)]
  rw [Go.AM.frz]
  simp only [p.at0]
  rw [if_pos ⟨trivial, by simp⟩]
  simp only [List.drop_zero, e, p.len]
theorem N3.frz (p : N3 o h b g fl T PP) : Go.AM.frz h 3 (.ref b g 0 T.length) = .vec (rows3V PP) PP.length := by
  have e : (if fl = true then T.map fun y => [V.ref y.1 y.2.1 0 y.2.2.2.length] else (T.map fun y => [V.ref y.1 y.2.1 0 y.2.2.2.length]).map fun x => x.map (Go.AM.frz h 2)) = rows3V PP := by
    by_cases hf : fl = true
    · rw [if_pos hf, p.flat hf]
      have := p.len
      rw [p.flat hf] at this
      rw [List.eq_nil_of_length_eq_zero this]; rfl
    · rw [if_neg hf]
      apply List.ext_getElem?
      intro j
      rcases Nat.lt_or_ge j T.length with hj | hj
      · obtain ⟨Q, h1, h2⟩ := p.rows j _ (List.getElem?_eq_getElem hj)
        have h3 := h2.frz
        simp only [rows3V, List.getElem?_map, h1, List.getElem?_eq_getElem hj, Option.map_some, List.map_cons, List.map_nil, h3]
      · rw [List.getElem?_eq_none (by simpa using hj), List.getElem?_eq_none (by simp [rows3V, p.len]; exact hj)]
  rw [Go.AM.frz]
  simp only [p.at0]
  rw [if_pos ⟨trivial, by simp⟩]
  simp only [List.drop_zero, e, p.len]
end
/-- What a plan says: where a clock is active its number, elsewhere none. -/
noncomputable def planRow (a : AutoD) (gs : List (List PartD)) (M : List Int) (i : Nat) : List Int := (List.range M.length).map fun c : Nat => if actB a gs ((c : Int) + 1) i = true then M.getD c 0 else -1
noncomputable def planA (gs : List (List PartD)) (M : List Int) (a : AutoD) : List (List Int) := (List.range a.locs.length).map (planRow a gs M)
noncomputable def planP (n : NetD) (gs : List (List PartD)) (M : List Int) : List (List (List Int)) := n.autos.map (planA gs M)
end Go.Proofs.YtgmlimipejcpgaaDoor
end

section
set_option linter.unusedVariables false
set_option linter.unusedSimpArgs false
namespace Go.Proofs.YtgmlimipejcpgaaDoor
open Go Go.AM Fx
/-- A heap that leaves another one as it was, with more behind it. -/
structure Old (h hc : List B) : Prop where
  hl : HL hc
  len : h.length ≤ hc.length
  old : ∀ k, k < h.length → hc[k]? = h[k]?
section
variable {h hc hd : List B}
theorem Old.rfl (hl : HL h) : Old h h := ⟨hl, Nat.le_refl _, fun _ _ => Eq.refl _⟩
theorem Old.trans (p : Old h hc) (q : Old hc hd) : Old h hd := ⟨q.hl, Nat.le_trans p.len q.len, fun k hk => (q.old k (Nat.lt_of_lt_of_le hk p.len)).trans (p.old k hk)⟩
theorem Old.app (p : Old h hc) {x : List B} (hx : HL (hc ++ x)) : Old h (hc ++ x) := ⟨hx, by have := p.len; simp; omega, fun k hk => by rw [get_app (Nat.lt_of_lt_of_le hk p.len)]; exact p.old k hk⟩
theorem Old.set (p : Old h hc) {b : Nat} {y : B} (hb : h.length ≤ b) (hx : HL (hc.set b y)) : Old h (hc.set b y) := ⟨hx, by rw [List.length_set]; exact p.len, fun k hk => by rw [get_set_ne (by omega)]; exact p.old k hk⟩
theorem HL.setapp {x : List B} {b : Nat} {y : B} (hl : HL h) (hy : y.lt (h.length + x.length)) (hx : ∀ z ∈ x, z.lt (h.length + x.length)) : HL (h.set b y ++ x) := fun z hz => by
  rw [List.length_append, List.length_set]
  rcases List.mem_append.1 hz with hz | hz
  · rcases List.mem_or_eq_of_mem_set hz with hz | hz
    · exact B.lt_mono (by omega) (hl z hz)
    · subst hz; exact hy
  · exact hx z hz
theorem Old.setapp (p : Old h hc) {x : List B} {b : Nat} {y : B} (hb : h.length ≤ b) (hx : HL (hc.set b y ++ x)) : Old h (hc.set b y ++ x) :=
  ⟨hx, by have := p.len; simp; omega, fun k hk => by rw [get_app (by rw [List.length_set]; exact Nat.lt_of_lt_of_le hk p.len), get_set_ne (by omega)]; exact p.old k hk⟩
theorem Old.get (p : Old h hc) {k : Nat} {y : B} (hy : h[k]? = some y) : hc[k]? = some y := by rw [p.old k (List.getElem?_eq_some_iff.1 hy).1]; exact hy
end
structure HA where
  i : Nat
  hc : List B
  fl : Bool
  T : List (Nat × Nat × Bool × List (Nat × Nat × Nat))
structure HB where
  j : Nat
  hc : List B
  fl : Bool
  ids : List (Nat × Nat × Nat)
theorem ivs_rep0 {N : Nat} : List.replicate N [V.int .i64 0] = ivs (List.replicate N 0) := by simp [ivs]
theorem refs_lt {ids : List (Nat × Nat × Nat)} {n : Nat} (h : ∀ x ∈ ids, x.1 < n) : ∀ y ∈ ids.map (fun x => [rv x]), V.lts n y = true := fun y hy => by
  obtain ⟨x, hx, rfl⟩ := List.mem_map.1 hy
  simp [rv, h x hx]
theorem planA_len {gs : List (List PartD)} {M : List Int} {a : AutoD} : (planA gs M a).length = a.locs.length := by simp [planA]
theorem planA_at {gs : List (List PartD)} {M : List Int} {a : AutoD} {j : Nat} (hj : j < a.locs.length) : (planA gs M a).take (j + 1) = (planA gs M a).take j ++ [planRow a gs M j] := by
  rw [List.take_add_one, List.getElem?_eq_getElem (by rw [planA_len]; exact hj)]; simp [planA]
theorem planP_at {n : NetD} {gs : List (List PartD)} {M : List Int} {i : Nat} (hi : i < n.autos.length) : (planP n gs M).take (i + 1) = (planP n gs M).take i ++ [planA gs M n.autos[i]] := by
  rw [List.take_add_one, List.getElem?_eq_getElem (by simp [planP]; exact hi)]; simp [planP]
set_option maxRecDepth 20000 in
set_option maxHeartbeats 16000000 in
theorem c_half (n : NetD) (hn : n.ok) (gs : List (List PartD)) (hgl : gs.length ≤ 1048577) (hgs : ∀ g ∈ gs, okGoal g) (he : lookE n gs = 0) (M : List Int) (hM : M.length = n.clocks.length) {h : List B} {bn bg bm : Nat} (hl : HL h)
    (h1 : h[bn]? = some (.var n.cells)) (h2 : h[bg]? = some (.var [gsV gs])) (h3 : h[bm]? = some (.var [.vec (ivs M) n.clocks.length])) :
    GCall Tryd.prog GV 49 [.ptr bn 0, .ptr bg 0, .ptr bm 0] h (fun v h' => ∃ b g fl T, v = .ref b g 0 T.length ∧ Old h h' ∧ N3 h.length h' b g fl T (planP n gs M)) := by
  have hN := hn.1.1
  have hal := hn.2.2.2.1
  have l1 := (List.getElem?_eq_some_iff.1 h1).1
  have l2 := (List.getElem?_eq_some_iff.1 h2).1
  have l3 := (List.getElem?_eq_some_iff.1 h3).1
  have hiM : (ivs M).length = n.clocks.length := by simp [ivs, hM]
  have hgM : ∀ q (hq : q < n.clocks.length), (ivs M)[q]'(by omega) = [V.int .i64 (M.getD q 0)] := fun q hq => by simp [ivs, List.getD, List.getElem?_eq_getElem (show q < M.length by omega)]
  simp only [NetD.cells, vl, gsV] at h1 h2
  refine GCall_body Tryd.func49 rfl (by decide) Tryd.ntmps49 (by simp) Tryd.results49 ?_
  repeat' (first
 |refine AW_seq_k fun K hK=>?_|refine Step.by1 ?_|refine SBlock_exit_ne (by decide) ?_|refine cz rfl ?_|refine Fork.by2 (fun h=>?_) fun h=>?_
 |(refine AW_region_AO ?_;simp [h1])
 |(refine Split.by2 (fun h=>?_) (fun h=>?_)<;>(simp [h, h1]))
 |(apply hK;clear hK K)|refine AWh (by assumption) ?_)
  refine AW_nilrow 4 57 rfl (by simp) ?_
  refine AW_loopGL [0, 1, 2, 14, 15] (fun s : HA => [(4, .ref h.length s.i 0 s.i), (16, .int .i64 s.i)]) (fun s => s.hc) (fun s => s.i ≤ n.autos.length ∧ Old h s.hc ∧ s.T.length = s.i ∧ N3 h.length s.hc h.length s.i s.fl s.T ((planP n gs M).take s.i)) (fun s => n.autos.length - s.i) ⟨0, h ++ [B.row 57 0 0 true []], true, []⟩
    ⟨Nat.zero_le _, (Old.rfl hl).app (hl.app (by simp)), rfl, ⟨by rw [ga0 rfl]; rfl, fun _ => rfl, by simp, fun i y hy => by simp at hy, Nat.le_refl _, by simp⟩⟩
    (Weak.sym (x := []) (by simp) (hl.app (by simp)) (by simp [vl]; omega)) (fun s hs => by have := hs.2.2.2.b_lt; simp; omega) ?_
  rintro ⟨i, hc, fl, T⟩ ⟨hi, ho, hT, hp⟩
  simp only at hi ho hT hp
  by_cases hlt : i < n.autos.length
  · obtain ⟨a, haa⟩ : ∃ a, n.autos[i] = a := ⟨_, rfl⟩
    have ham : a ∈ n.autos := haa ▸ List.getElem_mem hlt
    have hcA := c_ofA n hn a ham gs hgl hgs he
    have hpi := planP_at (gs := gs) (M := M) hlt
    have hll := (hn.2.2.2.2 a ham).2.1.1
    have hlt' : (i : Int) < n.autos.length := by omega
    have w1 : IntKind.i64.wrap ((i : Int) + 1) = i + 1 := wrap_i64 (by omega) (by omega)
    have hby : (i + 1) * 24 ≤ 140737488355328 := by omega
    obtain ⟨mv, hmv, hml, hmg⟩ : ∃ mv, markV a gs n.clocks.length = mv ∧ mv.length = a.locs.length ∧ ∀ j, j < a.locs.length → mv[j]? = some [V.vec (bvs (actR a gs n.clocks.length j)) n.clocks.length] := ⟨_, rfl, by simp [markV], fun j hj => by simp [markV, hj]⟩
    rw [hmv] at hcA
    rw [haa] at hpi
    simp only [NetD.cells, AutoD.cells, vl, gsV] at hcA
    have k1 := fun x : List B => (get_app (x := x) (Nat.lt_of_lt_of_le l1 ho.len)).trans (ho.get h1)
    have k2 := fun x : List B => (get_app (x := x) (Nat.lt_of_lt_of_le l2 ho.len)).trans (ho.get h2)
    have g0 := fun x : List B => ga0 (h := hc) (x := x) rfl
    repeat' (first
 |refine AW_seq_k fun K hK=>?_|refine Step.by1 ?_|refine SBlock_exit_ne (by decide) ?_|refine cz rfl ?_|refine Fork.by2 (fun h=>?_) fun h=>?_
 |((first|refine AW_region_AO ?_|refine AS_call1 (f:=50) rfl rfl (hcA) rfl rfl rfl ?_);simp [vl, AutoD.cells, hlt, hlt', haa, k1, k2, g0])
 |(refine Split.by2 (fun h=>?_) (fun h=>?_)<;>(simp [h, vl, AutoD.cells, hlt, hlt', haa, k1, k2, g0]))
 |(apply hK;clear hK K)|refine AWh (by assumption) ?_)
    refine AW_nilrow 7 30 rfl (by simp) ?_
    clear g0
    have hA0 : HL (hc ++ [B.var a.cells, B.row 30 0 0 true []]) := ho.hl.app (by simp [AutoD.cells, vl])
    refine AW_loopGL [0, 1, 2, 4, 14, 15, 16, 23, 24] (fun s : HB => [(7, .ref (hc.length + 1) s.j 0 s.j), (25, .int .i64 s.j)]) (fun s => s.hc) (fun s => s.j ≤ a.locs.length ∧ Old hc s.hc ∧ s.ids.length = s.j ∧ N2 hc.length s.hc (hc.length + 1) s.j s.fl s.ids ((planA gs M a).take s.j)) (fun s => a.locs.length - s.j) ⟨0, hc ++ [B.var a.cells, B.row 30 0 0 true []], true, []⟩
      ⟨Nat.zero_le _, (Old.rfl ho.hl).app hA0, rfl, ⟨by rw [ga1 rfl]; rfl, fun _ => rfl, by simp, fun i y hy => by simp at hy, ⟨Nat.le_succ _, by simp⟩, by simp⟩⟩
      (Weak.sym (x := []) (by simp [AutoD.cells, vl]) hA0 (by have := ho.len; have := hp.b_lt; simp [vl]; omega)) (fun s hs => by have := hs.2.2.2.b_lt; simp; omega) ?_
    rintro ⟨j, hd, fl2, ids⟩ ⟨hj, ho2, hil, hq⟩
    simp only at hj ho2 hil hq
    have hb2 := hq.b_lt
    by_cases hjl : j < a.locs.length
    · have hpa := planA_at (gs := gs) (M := M) hjl
      have hjl' : (j : Int) < a.locs.length := by omega
      have w2 : IntKind.i64.wrap ((j : Int) + 1) = j + 1 := wrap_i64 (by omega) (by omega)
      have hby2 : (j + 1) * 24 ≤ 140737488355328 := by omega
      have hNb : (n.clocks.length : Int) * 8 ≤ 281474976710656 := by omega
      have hNc : n.clocks.length * 8 ≤ 140737488355328 := by omega
      have hmj : mv[j]'(by omega) = [V.vec (bvs (actR a gs n.clocks.length j)) n.clocks.length] := by have := hmg j hjl; rw [List.getElem?_eq_getElem (by omega)] at this; exact Option.some.inj this
      obtain ⟨rr, hrr, hrl, hrg⟩ : ∃ rr, bvs (actR a gs n.clocks.length j) = rr ∧ rr.length = n.clocks.length ∧ ∀ c, c < n.clocks.length → rr[c]? = some [V.bool (actB a gs ((c : Int) + 1) j)] := ⟨_, rfl, by simp [bvs, actR], fun c hc => by simp [bvs, actR, hc]⟩
      rw [hrr] at hmj
      have g0 := fun x : List B => ga0 (h := hd) (x := x) rfl
      have kb := fun x : List B => (get_app (x := x) hb2).trans hq.at0
      have sb := fun (x : List B) (y : B) => set_app (x := x) (y := y) hb2
      have hml2 : (ids.map fun x => [rv x]).length = j := by simp [hil]
      have k3 := fun x : List B => (get_app (x := x) (Nat.lt_of_lt_of_le l3 (ho.trans ho2).len)).trans ((ho.trans ho2).get h3)
      repeat' (first
 |refine AW_seq_k fun K hK=>?_|refine Step.by1 ?_|refine SBlock_exit_ne (by decide) ?_|refine cz rfl ?_|refine Fork.by2 (fun h=>?_) fun h=>?_
 |(refine AW_region_AO ?_;simp [hml, hmj, hjl, hjl', hNb, hNc, g0, ivs_rep0])
 |(refine Split.by2 (fun h=>?_) (fun h=>?_)<;>(simp [h, hml, hmj, hjl, hjl', hNb, hNc, g0, ivs_rep0]))
 |(apply hK;clear hK K)|refine AWh (by assumption) ?_)
      refine AW_loopL [0, 1, 2, 4, 7, 10, 14, 15, 16, 23, 24, 25, 32, 33] (fun s : Nat × List Int => [(34, .int .i64 s.1)]) (fun s => hd ++ [B.row 3 0 0 true (ivs s.2)]) (fun s => s.1 ≤ n.clocks.length ∧ s.2.length = n.clocks.length ∧ ∀ q, q < s.1 → s.2[q]? = some (if actB a gs ((q : Int) + 1) j = true then M.getD q 0 else -1)) (fun s => n.clocks.length - s.1) (0, List.replicate n.clocks.length 0)
        ⟨Nat.zero_le _, by simp, fun q hq => by omega⟩ (Weak.sym (x := []) (by simp) (ho2.hl.app (by simp)) (by have := ho2.len; have := ho.len; have := hp.b_lt; simp [vl]; omega)) (fun s hs => by simp) ?_
      rintro ⟨k, c⟩ ⟨hk, hcl, hcv⟩
      simp only at hk hcl hcv
      have hcl2 : (ivs c).length = n.clocks.length := by simp [ivs, hcl]
      by_cases hkl : k < n.clocks.length
      · have hkl' : (k : Int) < n.clocks.length := by omega
        have w3 : IntKind.i64.wrap ((k : Int) + 1) = k + 1 := wrap_i64 (by omega) (by omega)
        have hrk : rr[k]'(by omega) = [V.bool (actB a gs ((k : Int) + 1) j)] := by have := hrg k hkl; rw [List.getElem?_eq_getElem (by omega)] at this; exact Option.some.inj this
        have hMk := hgM k hkl
        have s0 := fun (x : List B) (y : B) => sa0 (h := hd) (x := x) (y := y) rfl
        have hck : (ivs c)[k]'(by omega) = [V.int .i64 (c[k]'(by omega))] := by simp [ivs]
        have hcl3 : (ivs (c.set k (-1))).length = n.clocks.length := by simp [ivs, hcl]
        have hck3 : (ivs (c.set k (-1)))[k]'(by omega) = [V.int .i64 (-1)] := by simp [ivs]
        have hs3 : ∀ v, (ivs (c.set k (-1))).set k [V.int .i64 v] = ivs (c.set k v) := fun v => by simp [ivs, ← List.map_set]
        have hs1 : ∀ v, (ivs c).set k [V.int .i64 v] = ivs (c.set k v) := fun v => by simp [ivs, List.map_set]
        have hnext : ∀ v, (if actB a gs ((k : Int) + 1) j = true then M.getD k 0 else -1) = v → ∀ q, q < k + 1 → (c.set k v)[q]? = some (if actB a gs ((q : Int) + 1) j = true then M.getD q 0 else -1) := fun v hv q hq => by
          rw [List.getElem?_set]
          by_cases e : k = q
          · subst e; rw [if_pos rfl, if_pos (by omega), hv]
          · rw [if_neg e]; exact hcv q (by omega)
        generalize actB a gs ((k : Int) + 1) j = b at *
        generalize M.getD k 0 = mk at *
        cases b
        · have hn2 := hnext (-1) (by simp)
          repeat' (first
 |refine AW_seq_k fun K hK=>?_|refine Step.by1 ?_|refine SBlock_exit_ne (by decide) ?_|refine cz rfl ?_|refine Fork.by2 (fun h=>?_) fun h=>?_
 |(refine AW_region_AO ?_;simp [hrl, hrk, hkl, hkl', w3, g0, s0, hcl2, hck, hs1])
 |(refine Split.by2 (fun h=>?_) (fun h=>?_)<;>(simp [h, hrl, hrk, hkl, hkl', w3, g0, s0, hcl2, hck, hs1]))
 |(apply hK;clear hK K)|refine AWh (by assumption) ?_)
          exact ⟨k + 1, c.set k (-1), ⟨by show k + 1 ≤ _; omega, by simp [hcl], hn2⟩, by show _ - (k + 1) < _ - k; omega, Weak.sym (x := []) (by simp) (ho2.hl.app (by simp)) (by have := ho2.len; have := ho.len; have := hp.b_lt; simp [vl]; omega)⟩
        · have hn2 := hnext mk (by simp)
          repeat' (first
 |refine AW_seq_k fun K hK=>?_|refine Step.by1 ?_|refine SBlock_exit_ne (by decide) ?_|refine cz rfl ?_|refine Fork.by2 (fun h=>?_) fun h=>?_
 |(refine AW_region_AO ?_;simp [hrl, hrk, hkl, hkl', w3, g0, s0, hcl2, hck, hs1, hcl3, hck3, hs3, k3, hiM, hMk])
 |(refine Split.by2 (fun h=>?_) (fun h=>?_)<;>(simp [h, hrl, hrk, hkl, hkl', w3, g0, s0, hcl2, hck, hs1, hcl3, hck3, hs3, k3, hiM, hMk]))
 |(apply hK;clear hK K)|refine AWh (by assumption) ?_)
          exact ⟨k + 1, c.set k mk, ⟨by show k + 1 ≤ _; omega, by simp [hcl], hn2⟩, by show _ - (k + 1) < _ - k; omega, Weak.sym (x := []) (by simp) (ho2.hl.app (by simp)) (by have := ho2.len; have := ho.len; have := hp.b_lt; simp [vl]; omega)⟩
      · obtain rfl : k = n.clocks.length := by omega
        have hce : c = planRow a gs M j := by
          apply List.ext_getElem?
          intro q
          by_cases hq : q < n.clocks.length
          · rw [hcv q hq]; simp [planRow, hM, hq]
          · rw [List.getElem?_eq_none (by omega), List.getElem?_eq_none (by simp [planRow, hM]; omega)]
        have hsn := hq.snoc (ns := c) ho2.len
        rw [hcl] at hsn
        rw [← hce] at hpa
        repeat' (first
 |refine AW_seq_k fun K hK=>?_|refine Step.by1 ?_|refine SBlock_exit_ne (by decide) ?_|refine cz rfl ?_|refine Fork.by2 (fun h=>?_) fun h=>?_
 |(refine AW_region_AO ?_;simp [kb, sb, hml2, hby2, w2, g0])
 |(refine Split.by2 (fun h=>?_) (fun h=>?_)<;>(simp [h, kb, sb, hml2, hby2, w2, g0]))
 |(apply hK;clear hK K)|refine AWh (by assumption) ?_)
        have hold := ho2.setapp (b := hc.length + 1) (y := B.row 30 (j + 1) 0 false (ids.map (fun x => [rv x]) ++ [[rv (hd.length, 0, n.clocks.length)]])) (x := [B.row 3 0 0 true (ivs c)]) (by omega) (ho2.hl.setapp (rowR_lt fun y hy => by
          rcases List.mem_append.1 hy with hy | hy
          · exact refs_lt (fun x hx => by have := hq.ids_lt x hx; simp; omega) y hy
          · simp at hy; subst hy; simp [rv]) (by simp))
        exact ⟨⟨j + 1, _, false, ids ++ [(hd.length, 0, n.clocks.length)]⟩, ⟨by show j + 1 ≤ _; omega, hold, by simp [hil], by rw [hpa]; exact hsn⟩, by show _ - (j + 1) < _ - j; omega,
          Weak.sym (x := [B.row 30 0 0 false [[V.ref hd.length 0 0 n.clocks.length]]]) (by simp [rv]) hold.hl (by have := ho2.len; have := ho.len; have := hp.b_lt; simp [vl]; omega)⟩
    · obtain rfl : j = a.locs.length := by omega
      have kb := fun x : List B => (get_app (x := x) (Nat.lt_of_lt_of_le hp.b_lt ho2.len)).trans (ho2.get hp.at0)
      have sb := fun (x : List B) (y : B) => set_app (x := x) (y := y) (Nat.lt_of_lt_of_le hp.b_lt ho2.len)
      have hml2 : (T.map fun y => [V.ref y.1 y.2.1 0 y.2.2.2.length]).length = i := by simp [hT]
      have hqe : (planA gs M a).take a.locs.length = planA gs M a := List.take_of_length_le (by simp [planA])
      rw [hqe] at hq
      have hsn := hp.snoc ho.len ho2.old hq
      rw [hil] at hsn
      repeat' (first
 |refine AW_seq_k fun K hK=>?_|refine Step.by1 ?_|refine SBlock_exit_ne (by decide) ?_|refine cz rfl ?_|refine Fork.by2 (fun h=>?_) fun h=>?_
 |(refine AW_region_AO ?_;simp [kb, sb, hml2, hby, w1])
 |(refine Split.by2 (fun h=>?_) (fun h=>?_)<;>(simp [h, kb, sb, hml2, hby, w1]))
 |(apply hK;clear hK K)|refine AWh (by assumption) ?_)
      have hold := (ho.trans ho2).set (b := h.length) (y := B.row 57 (i + 1) 0 false (T.map (fun y => [V.ref y.1 y.2.1 0 y.2.2.2.length]) ++ [[V.ref (hc.length + 1) a.locs.length 0 a.locs.length]])) (Nat.le_refl _) (ho2.hl.set (rowR_lt fun y hy => by
        rcases List.mem_append.1 hy with hy | hy
        · obtain ⟨x, hx, rfl⟩ := List.mem_map.1 hy
          obtain ⟨q, hq2⟩ := List.getElem?_of_mem hx
          obtain ⟨_, _, h5⟩ := hp.rows q x hq2
          have := h5.b_lt
          have := ho2.len
          simp; omega
        · simp at hy; subst hy; simp; omega))
      exact ⟨⟨i + 1, _, false, T ++ [(hc.length + 1, a.locs.length, fl2, ids)]⟩, ⟨by show i + 1 ≤ _; omega, hold, by simp [hT], by rw [hpi]; exact hsn⟩, by show _ - (i + 1) < _ - i; omega,
        Weak.sym (x := [B.row 57 0 0 false [[V.ref (hc.length + 1) a.locs.length 0 a.locs.length]]]) (by simp) hold.hl (by have := ho2.len; have := ho.len; have := hp.b_lt; simp [vl]; omega)⟩
  · obtain rfl : i = n.autos.length := by omega
    have hpe : (planP n gs M).take n.autos.length = planP n gs M := List.take_of_length_le (by simp [planP])
    rw [hpe] at hp
    repeat' (first
 |refine AW_seq_k fun K hK=>?_|refine Step.by1 ?_|refine SBlock_exit_ne (by decide) ?_|refine cz rfl ?_|refine Fork.by2 (fun h=>?_) fun h=>?_
 |(refine AW_region_AO ?_;simp [vl])
 |(refine Split.by2 (fun h=>?_) (fun h=>?_)<;>(simp [h, vl]))
 |(apply hK;clear hK K)|refine AWh (by assumption) ?_)
    exact retg1 ⟨h.length, n.autos.length, fl, T, by rw [hT]; rfl, ho, hp⟩ (by simp; exact hp.b_lt) (Go.AM.Leaves.sym ho.len ho.hl)
end Go.Proofs.YtgmlimipejcpgaaDoor
end

section
set_option linter.unusedVariables false
set_option linter.unusedSimpArgs false
namespace Go.AM
section
variable {P : Program} {ge : GEnv}
theorem RO_fin {G G' : Gh} {w w' : World} {h : List B} {v r : V} {c : Value} (rh : RH P ge G' h w') (hvc : R G' w' false v c) (grow : WGrow w w') (hsz : w.heap.size ≤ w'.heap.size) (hfzold : ∀ k, k < w.heap.size → G'.fz k = G.fz k)
    (hbase : ∀ (b : Nat) (x : B) (k : Nat), h[b]? = some x → G'.at b x = some k → w.heap.size ≤ k) (hconv : Conv h v r) : ∃ c1 G2, Ending.returned c = .returned c1 ∧ Kept G w G2 w' ∧ RO P G2 w' w.heap.size r c1 := by
  rcases hconv with ⟨n, hrr, hp⟩ | h1 | ⟨vs, rs, rfl, rfl, hl, hall, hdis⟩
  · let fz2 : Nat → Nat := fun k => if k < w.heap.size then G'.fz k else match w'.heap[k]? with
      | some (.cells arr _ _) => max (G'.fz k) arr.size
      | _ => G'.fz k
    have hle : ∀ k, G'.fz k ≤ fz2 k := fun k => by
      show G'.fz k ≤ if k < w.heap.size then G'.fz k else match w'.heap[k]? with | some (.cells arr _ _) => max (G'.fz k) arr.size | _ => G'.fz k
      split
      · exact Nat.le_refl _
      · split
        · exact Nat.le_max_left _ _
        · exact Nat.le_refl _
    have hfr := frz_spec rh (fz2 := fz2) hle (fun b x k arr T fr hx hk hh => by
      have hb := hbase b x k hx hk
      show arr.size ≤ if k < w.heap.size then G'.fz k else match w'.heap[k]? with | some (.cells arr _ _) => max (G'.fz k) arr.size | _ => G'.fz k
      rw [if_neg (by omega), hh]
      exact Nat.le_max_right _ _) n hvc
    refine ⟨c, G'.withFz fz2, rfl, ⟨grow, fun k hk => ?_, fun k hk => ?_⟩, ?_⟩
    · show (if k < w.heap.size then G'.fz k else _) = G.fz k
      rw [if_pos hk]; exact hfzold k hk
    · have hk2 : ¬ k < w.heap.size := by have := hsz; omega
      show (if k < w.heap.size then G'.fz k else match w'.heap[k]? with | some (.cells arr _ _) => max (G'.fz k) arr.size | _ => G'.fz k) = 0
      rw [if_neg hk2, Array.getElem?_eq_none hk]
      exact rh.fzlt k hk
    · rw [← hrr] at hfr
      refine RO_of_one ?_
      cases r <;> first | exact hfr | (simp [V.plain] at hp)
  · exact ⟨c, G', rfl, ⟨grow, hfzold, rh.fzlt⟩, RO_of_one (RO1_of_conv rh hbase hvc h1)⟩
  · refine ⟨c, G', rfl, ⟨grow, hfzold, rh.fzlt⟩, ?_⟩
    cases hvc with
    | @tup _ _ arr hs hr' =>
      refine ⟨arr, rfl, by rw [hs]; exact hl, fun i v hv => ?_, fun i j u v k hu hv ou ov b1 b2 => ?_⟩
      · have hi : i < vs.length := by rw [hl]; exact (List.getElem?_eq_some_iff.1 hv).1
        exact RO1_of_conv rh hbase (hr' i _ (List.getElem?_eq_getElem hi)) (hall i _ v (List.getElem?_eq_getElem hi) hv)
      · have hi : i < vs.length := by rw [hl]; exact (List.getElem?_eq_some_iff.1 hu).1
        have hj : j < vs.length := by rw [hl]; exact (List.getElem?_eq_some_iff.1 hv).1
        have key : ∀ (i : Nat) (hi : i < vs.length) (u : V), rs[i]? = some u → u.isOwn = true → blkOf (arr.getD i undef) = some k → ∃ b x, vs[i].refBlk = some b ∧ h[b]? = some x ∧ G'.at b x = some k := by
          intro i hi u hu ou hb1
          have hR := hr' i _ (List.getElem?_eq_getElem hi)
          rcases hall i _ u (List.getElem?_eq_getElem hi) hu with ⟨hf, rfl⟩ | ⟨b, g, T, xs, hvi, hbx, rfl⟩
          · generalize hvv : vs[i] = vv at *
            cases vv <;> simp [V.isOwn] at ou
            simp [V.isF] at hf
          · rw [hvi] at hR
            refine ⟨b, _, by rw [hvi]; rfl, hbx, ?_⟩
            generalize arr.getD i undef = cc at *
            generalize hnl : xs.length = nl at hR
            cases hR with
            | ref hb' hg' hm' hle' => simp only [blkOf, Option.some.injEq] at hb1; subst hb1; exact hm'
            | refn => simp [blkOf] at hb1
        obtain ⟨bi, xi, e1, e2, e3⟩ := key i hi u hu ou b1
        obtain ⟨bj, xj, f1, f2, f3⟩ := key j hj v hv ov b2
        have hbb := rh.inj bi bj xi xj k e2 f2 e3 f3
        subst hbb
        exact hdis i j _ _ bi (List.getElem?_eq_getElem hi) (List.getElem?_eq_getElem hj) e1 f1
/-- A contract on the empty heap whose results may be told as frozen values or rows of one's own. -/
theorem PCall_of_GCall {f : Nat} {args : List V} {r : V} {Q : V → List B → Prop} (hc : GCall P ge f args [] Q) (hq : ∀ v h', Q v h' → Conv h' v r) : PCall P ge f args r := by
  refine ⟨hc.1, fun G w cargs ha gee => ?_⟩
  let G0 : Gh := { fz := G.fz, n := 0, gm := fun _ => 0, m := fun _ _ => none, sz := fun _ => 0, cap := fun _ _ => 0 }
  have ha0 : ArgsR G0 w false args cargs := ⟨ha.1, fun i v hv => ((ha.2 i v hv).monoT (G' := G0) (fun k => Nat.le_refl (G.fz k)) (fun _ _ _ => rfl) rfl).weak rfl⟩
  have rh0 : RH P ge G0 [] w := ⟨rfl, fun b x hx => by simp at hx, fun b b' x x' k hx => by simp at hx, gee.fzlt, fun g cs hg => (gee.ge g cs hg).monoT (G' := G0) (fun k => Nat.le_refl (G.fz k)) (fun _ _ _ => rfl) rfl⟩
  refine (hc.2 G0 w cargs ha0 rh0).mono fun e w' ⟨c, G', v, h', he, hQ, rh, hv, ext⟩ => ?_
  obtain ⟨c1, G2, e1, k1, k2⟩ := RO_fin (G := G) rh hv ⟨ext.size, fun k hk => (ext.frame k hk fun b x hx => by simp at hx).1, ext.os, ext.out⟩ ext.size (fun k hk => (ext.frame k hk fun b x hx => by simp at hx).2) (fun b x k hx hk => by
    rcases ext.fresh b x k hx hk with h | ⟨b0, x0, h, _⟩
    · exact h
    · simp at h) (hq v h' hQ)
  exact ⟨c1, G2, by rw [he]; exact e1, k1, k2⟩
end
end Go.AM
end

section
set_option linter.unusedVariables false
set_option linter.unusedSimpArgs false
namespace Go.Proofs.YtgmlimipejcpgaaDoor
open Go Go.AM Fx
theorem numb_ok {n : NetD} {so : Int → Bool} {gs : List (List PartD)} (he : lookE n gs = 0) : ∃ M, numbE n so gs = some M ∧ M.length = n.clocks.length := by
  obtain ⟨h0, hg⟩ := look_ok he
  have key : ∀ (gs : List (List PartD)) (c : List Int), (∀ g ∈ gs, goalE n g = 0) → ∃ M, numG n so gs c = some M := by
    intro gs
    induction gs with
    | nil => intro c _; exact ⟨c, rfl⟩
    | cons g r ih =>
      intro c h
      rw [numG_cons, if_neg (by simp [h g (by simp)])]
      exact ih _ fun x hx => h x (by simp [hx])
  obtain ⟨M, hM⟩ := key gs (raiseL so (guardsL n) (List.replicate n.clocks.length (-1))) hg
  have e : numbE n so gs = some M := by unfold numbE; rw [if_neg (by simp [h0])]; exact hM
  exact ⟨M, e, numb_len e⟩
theorem N2.setne {o b g : Nat} {h : List B} {fl : Bool} {ids : List (Nat × Nat × Nat)} {P : List (List Int)} (p : N2 o h b g fl ids P) {k : Nat} {cs : List V} {y : B} (hk : h[k]? = some (.var cs)) : N2 o (h.set k y) b g fl ids P :=
  ⟨by rw [get_set_ne (fun e => by have := p.at0; rw [← e, hk] at this; cases this)]; exact p.at0, p.flat, p.len, fun j x hx => by
    obtain ⟨ns, h1, h2, h3⟩ := p.rows j x hx
    exact ⟨ns, h1, h2, by rw [get_set_ne (fun e => by rw [← e, hk] at h3; cases h3)]; exact h3⟩, p.low, p.nodup⟩
theorem N3.setne {o b g : Nat} {h : List B} {fl : Bool} {T : List (Nat × Nat × Bool × List (Nat × Nat × Nat))} {P : List (List (List Int))} (p : N3 o h b g fl T P) {k : Nat} {cs : List V} {y : B} (hk : h[k]? = some (.var cs)) : N3 o (h.set k y) b g fl T P :=
  ⟨by rw [get_set_ne (fun e => by have := p.at0; rw [← e, hk] at this; cases this)]; exact p.at0, p.flat, p.len, fun i x hx => by
    obtain ⟨Q, h1, h2⟩ := p.rows i x hx
    exact ⟨Q, h1, h2.setne hk⟩, p.low, p.nodup⟩
theorem N3.low' {o o' b g : Nat} {h : List B} {fl : Bool} {T : List (Nat × Nat × Bool × List (Nat × Nat × Nat))} {P : List (List (List Int))} (p : N3 o h b g fl T P) (ho : o' ≤ o) : N3 o' h b g fl T P :=
  ⟨p.at0, p.flat, p.len, fun i x hx => by
    obtain ⟨Q, h1, h2⟩ := p.rows i x hx
    exact ⟨Q, h1, ⟨h2.at0, h2.flat, h2.len, h2.rows, ⟨Nat.le_trans ho h2.low.1, fun x hx => Nat.le_trans ho (h2.low.2 x hx)⟩, h2.nodup⟩⟩, Nat.le_trans ho p.low, p.nodup⟩
theorem N3.ids_lt {o b g : Nat} {h : List B} {fl : Bool} {T : List (Nat × Nat × Bool × List (Nat × Nat × Nat))} {P : List (List (List Int))} (p : N3 o h b g fl T P) : ∀ y ∈ T, ∀ x ∈ y.2.2.2, x.1 < h.length := fun y hy x hx => by
  obtain ⟨i, hi⟩ := List.getElem?_of_mem hy
  obtain ⟨Q, _, h2⟩ := p.rows i y hi
  exact h2.ids_lt x hx
set_option maxRecDepth 20000 in
set_option maxHeartbeats 16000000 in
theorem c_Plan (n : NetD) (hn : n.ok) (gs : List (List PartD)) (hgl : gs.length ≤ 1048577) (hgs : ∀ g ∈ gs, okGoal g) (he : lookE n gs = 0) (M : List Int) (hM : numbE n (fun _ => true) gs = some M) {h : List B} (hl : HL h) :
    GCall Tryd.prog GV 14 [.agg n.cells, gsV gs] h (fun v h' => ∃ b1 g1 fl1 T1 b2 g2 fl2 T2 o, v = .tup [.agg [.ref b1 g1 0 T1.length, .ref b2 g2 0 T2.length], .int .i64 0] ∧ Old h h' ∧ N3 h.length h' b1 g1 fl1 T1 (planP n gs M) ∧ N3 o h' b2 g2 fl2 T2 (planP n gs M) ∧ h.length ≤ o ∧ ∀ y ∈ T1, ∀ x ∈ y.2.2.2, x.1 < o) := by
  have hml := numb_len hM
  have hc := c_look n hn gs hgl hgs
  have hx := c_Max n hn gs hgl hgs
  rw [he] at hc
  rw [hM] at hx
  have hx' := PCall.freeze hx
  clear hx
  have hil : (ivs M).length = n.clocks.length := by simp [ivs, hml]
  rw [show (M.map fun k => [V.int .i64 k]) = ivs M from rfl, hil] at hx'
  have hh := fun {h : List B} {bn bg bm : Nat} => c_half n hn gs hgl hgs he M hml (h := h) (bn := bn) (bg := bg) (bm := bm)
  have g0 := fun x : List B => ga0 (h := h) (x := x) rfl
  have g1 := fun (x : List B) (k : Nat) => ga1 (h := h) (x := x) (k := k) rfl
  have s1 := fun (x : List B) (k : Nat) (y : B) => sa1 (h := h) (x := x) (k := k) (y := y) rfl
  have hH4 : HL (h ++ [B.var n.cells, B.var [gsV gs], B.var [.nils, .nils], B.var [.vec (ivs M) n.clocks.length]]) := hl.app (by simp [NetD.cells, gsV, vl])
  simp only [NetD.cells, vl, gsV] at hc hx' hh hH4
  refine GCall_body Tryd.func14 rfl (by decide) Tryd.ntmps14 (by simp) Tryd.results14 ?_
  repeat' (first
 |refine AW_seq_k fun K hK=>?_|refine Step.by1 ?_|refine SBlock_exit_ne (by decide) ?_|refine cz rfl ?_|refine Fork.by2 (fun h=>?_) fun h=>?_
 |((first|refine AW_region_AO ?_|refine AS_call1 (f:=48) rfl rfl (hc) rfl rfl rfl ?_|refine AS_call1 (f:=7) rfl rfl (hx') rfl rfl rfl ?_);simp [NetD.cells, vl, gsV, g0, g1, s1])
 |(refine Split.by2 (fun h=>?_) (fun h=>?_)<;>(simp [h, NetD.cells, vl, gsV, g0, g1, s1]))
 |(refine AS_callG (f := 49) rfl rfl (hh hH4 (by simp [g0]) (by simp [g1]) (by simp [g1])) rfl (fun v h' hq => ?_); obtain ⟨b1, g1', fl1, T1, rfl, ho1, hp1⟩ := hq; simp)
 |(apply hK;clear hK K)|refine AWh (by assumption) ?_)
  refine AS_callG (f := 49) rfl rfl (hh ho1.hl (ho1.get (by simp [g0])) (ho1.get (by simp [g1])) (ho1.get (by simp [g1]))) rfl (fun v h2 hq => ?_)
  obtain ⟨b2, g2, fl2, T2, rfl, ho2, hp2⟩ := hq
  have r2 : h2[h.length + 2]? = some (.var [.nils, .nils]) := ho2.get (ho1.get (by simp [g1]))
  have e2 : (h2.set (h.length + 2) (B.var [V.ref b1 g1' 0 T1.length, V.ref b2 g2 0 T2.length]))[h.length + 2]? = some (B.var [V.ref b1 g1' 0 T1.length, V.ref b2 g2 0 T2.length]) := get_set_eq r2
  simp [r2]
  repeat' (first
 |refine AW_seq_k fun K hK=>?_|refine Step.by1 ?_|refine SBlock_exit_ne (by decide) ?_|refine cz rfl ?_|refine Fork.by2 (fun h=>?_) fun h=>?_
 |(refine AW_region_AO ?_;simp [r2])
 |(refine Split.by2 (fun h=>?_) (fun h=>?_)<;>(simp [h, r2]))
 |(apply hK;clear hK K)|refine AWh (by assumption) ?_)
  have hd := (ho1.trans ho2)
  have hl2 : HL (h2.set (h.length + 2) (B.var [V.ref b1 g1' 0 T1.length, V.ref b2 g2 0 T2.length])) := hd.hl.set (by have := (hp1.mono ho2.old).b_lt; have := hp2.b_lt; simp; omega)
  have hO : Old h (h2.set (h.length + 2) (B.var [V.ref b1 g1' 0 T1.length, V.ref b2 g2 0 T2.length])) := (((Old.rfl hl).app hH4).trans hd).set (Nat.le_add_right _ _) hl2
  refine retg2c (by simp [e2]; exact ⟨rfl, rfl⟩) (by simp) ⟨b1, g1', fl1, T1, b2, g2, fl2, T2, h'.length, by simp, hO, ((hp1.mono ho2.old).setne r2).low' (by simp), hp2.setne r2, by have := ho1.len; simp at this; omega, hp1.ids_lt⟩ (by have := (hp1.mono ho2.old).b_lt; have := hp2.b_lt; simp; omega) (Go.AM.Leaves.sym hO.len hO.hl)
def halfV (P : List (List (List Int))) : V := .vec (rows3V P) P.length
theorem c_PlanF (n : NetD) (hn : n.ok) (gs : List (List PartD)) (hgl : gs.length ≤ 1048577) (hgs : ∀ g ∈ gs, okGoal g) (he : lookE n gs = 0) (M : List Int) (hM : numbE n (fun _ => true) gs = some M) :
    PC 14 [.agg n.cells, gsV gs] (.tup [.agg [halfV (planP n gs M), halfV (planP n gs M)], .int .i64 0]) :=
  PCall_of_GCall (c_Plan n hn gs hgl hgs he M hM (h := []) (by simp [HL])) fun v h' ⟨b1, g1, fl1, T1, b2, g2, fl2, T2, o, hv, hO, p1, p2, _⟩ => .inl ⟨5, by
    rw [hv]
    show _ = V.tup [V.agg [Go.AM.frz h' 3 (.ref b1 g1 0 T1.length), Go.AM.frz h' 3 (.ref b2 g2 0 T2.length)], Go.AM.frz h' 4 (.int .i64 0)]
    rw [p1.frz, p2.frz]
    rfl, rfl⟩
set_option maxRecDepth 20000 in
set_option maxHeartbeats 4000000 in
theorem c_PlanBad (n : NetD) (hn : n.ok) (gs : List (List PartD)) (hgl : gs.length ≤ 1048577) (hgs : ∀ g ∈ gs, okGoal g) (he : lookE n gs ≠ 0) :
    PC 14 [.agg n.cells, gsV gs] (.tup [.agg [.nils, .nils], .int .i64 (lookE n gs)]) := by
  have hc := c_look n hn gs hgl hgs
  generalize lookE n gs = e at *
  simp only [NetD.cells, vl, gsV] at hc
  refine PCall_body Tryd.func14 rfl (by decide) Tryd.ntmps14 (by simp) Tryd.results14 ?_
  repeat' (first
 |refine AW_seq_k fun K hK=>?_|refine Step.by1 ?_|refine SBlock_exit_ne (by decide) ?_|refine cz rfl ?_|refine Fork.by2 (fun h=>?_) fun h=>?_
 |((first|refine AW_region_AO ?_|refine AS_call1 (f:=48) rfl rfl (hc) rfl rfl rfl ?_);simp [NetD.cells, vl, gsV, he])
 |(refine Split.by2 (fun h=>?_) (fun h=>?_)<;>(simp [h, NetD.cells, vl, gsV, he]))
 |(apply hK;clear hK K)|refine AWh (by assumption) ?_)
  exact retq2ct rfl (by simp) (conv_eq (by simp) (by simp))
end Go.Proofs.YtgmlimipejcpgaaDoor
end

section
set_option linter.unusedVariables false
set_option linter.unusedSimpArgs false
namespace Go.Proofs.YtgmlimipejcpgaaDoor
open Go Go.AM Fx
theorem num_small : numbE smallN (fun _ => true) [] = some [5] := by kernel_rfl
theorem net_small : netE smallN = 0 := by kernel_rfl
end Go.Proofs.YtgmlimipejcpgaaDoor
end

section
set_option linter.unusedVariables false
set_option linter.unusedSimpArgs false
namespace Go.Proofs.YtgmlimipejcpgaaDoor
open Go Go.AM Fx
set_option maxRecDepth 20000 in
set_option maxHeartbeats 4000000 in
theorem c_small24 : PC 52 [] (.agg smallN.cells) := by
  have h : PC 52 [] (.agg [.vec [[.str ⟨#[120]⟩]] 1, .nils, .nils, .vec [[.str ⟨#[65]⟩, .vec [[.str ⟨#[97]⟩, .int .u8 0, .vec [[.int .i64 1, .int .i64 0, .int .u8 2, .int .i64 5]] 1], [.str ⟨#[98]⟩, .int .u8 0, .nils]] 2, .vec [[.int .i64 0, .int .i64 1, .vec [[.int .i64 1, .int .i64 0, .int .u8 4, .int .i64 3]] 1, .nils, .int .i64 0, .bool false, .vec [[.int .i64 1, .int .i64 0, .int .i64 0, .nils]] 1]] 1]] 1]) := by
    refine PCall_body Tryd.func52 rfl (by decide) Tryd.ntmps52 (by simp) Tryd.results52 ?_
    repeat' (first
 |(refine AW_region_AOL (id := 1) ?_;simp)
 |refine AW_seq_k fun K hK=>?_|refine Step.by1 ?_|refine SBlock_exit_ne (by decide) ?_|refine cz rfl ?_|refine Fork.by2 (fun h=>?_) fun h=>?_
 |(refine AW_region_AO ?_;simp)
 |(refine Split.by2 (fun h=>?_) (fun h=>?_)<;>(simp [h]))
 |(apply hK;clear hK K)|refine AWh (by assumption) ?_)
    exact retqc rfl (by simp) (conv_eq (by simp) (by simp))
  exact h.dnr rfl rfl (fun _ _ h => by cases h) (fun _ h => by cases h)
def smallA : AutoD := smallN.autos.getD 0 default
theorem look_small : lookE smallN [] = 0 := by simp [lookE, net_small, lookF]
theorem act_small0 : actB smallA [] 1 0 = true := by
  simp only [actB, decide_eq_true_eq]
  exact .use (by decide) (by kernel_rfl)
theorem act_small1 : actB smallA [] 1 1 = false := by
  simp only [actB, decide_eq_false_iff_not]
  intro h
  generalize hi : 1 = i at h
  cases h with
  | use hi2 h => subst hi; revert h; decide
  | @edge e he _ _ =>
    simp [smallA, smallN] at he
    subst he
    simp at hi
theorem clks_small0 : clksL smallN 0 0 [] = [1] ∧ clksE smallN 0 0 [] = 0 := by
  have h : ¬ badLoc smallN 0 0 := by unfold badLoc; decide
  have ha := act_small0
  refine ⟨?_, by simp [clksE, look_small, h]⟩
  simp only [clksL, look_small, h, if_false, ne_eq, not_true_eq_false]
  show actL smallA [] 0 (0 + 1) = [1]
  rw [actL_succ, if_pos (by simpa using ha)]; rfl
theorem clks_small1 : clksL smallN 0 1 [] = [] ∧ clksE smallN 0 1 [] = 0 := by
  have h : ¬ badLoc smallN 0 1 := by unfold badLoc; decide
  have ha := act_small1
  refine ⟨?_, by simp [clksE, look_small, h]⟩
  simp only [clksL, look_small, h, if_false, ne_eq, not_true_eq_false]
  show actL smallA [] 1 (0 + 1) = []
  rw [actL_succ, if_neg (by simpa using ha)]; rfl
theorem plan_small : planP smallN [] [5] = [[[5], [-1]]] := by
  have h0 := act_small0
  have h1 := act_small1
  have e : planP smallN [] [5] = [planA [] [5] smallA] := rfl
  rw [e]
  have e2 : planA [] [5] smallA = [planRow smallA [] [5] 0, planRow smallA [] [5] 1] := rfl
  rw [e2]
  have e3 : ∀ i, planRow smallA [] [5] i = [if actB smallA [] 1 i = true then 5 else -1] := fun i => rfl
  rw [e3, e3, h0, h1]; rfl
set_option maxRecDepth 20000 in
set_option maxHeartbeats 4000000 in
theorem c_live24 : PC 15 [] (.bool true) := by
  have h0 := c_small24
  have h1 := c_Clocks24 smallN small_ok 0 0 [] (by simp) (by simp)
  have h2 := c_Clocks24 smallN small_ok 0 1 [] (by simp) (by simp)
  have h3 := c_PlanF smallN small_ok [] (by simp) (by simp) look_small [5] num_small
  rw [clks_small0.1, clks_small0.2] at h1
  rw [clks_small1.1, clks_small1.2] at h2
  rw [plan_small] at h3
  have h1' := PCall.denil (args := [.agg smallN.cells, .int .i64 0, .int .i64 0, .nils]) h1 rfl
  have h2' := PCall.denil (args := [.agg smallN.cells, .int .i64 0, .int .i64 1, .nils]) h2 rfl
  have h3' := PCall.denil (args := [.agg smallN.cells, .nils]) h3 rfl
  clear h1 h2 h3
  have hcs : smallN.cells = [.vec [[.str ⟨#[120]⟩]] 1, .vec [] 0, .vec [] 0, .vec [[.str ⟨#[65]⟩, .vec [[.str ⟨#[97]⟩, .int .u8 0, .vec [[.int .i64 1, .int .i64 0, .int .u8 2, .int .i64 5]] 1], [.str ⟨#[98]⟩, .int .u8 0, .vec [] 0]] 2, .vec [[.int .i64 0, .int .i64 1, .vec [[.int .i64 1, .int .i64 0, .int .u8 4, .int .i64 3]] 1, .vec [] 0, .int .i64 0, .bool false, .vec [[.int .i64 1, .int .i64 0, .int .i64 0, .vec [] 0]] 1]] 1]] 1] := rfl
  simp only [halfV, rows3V, rows2V, ivs, List.map_cons, List.map_nil, List.length_cons, List.length_nil, Nat.zero_add] at h1' h2' h3'
  rw [hcs] at h0 h1' h2' h3'
  refine PCall_body Tryd.func15 rfl (by decide) Tryd.ntmps15 (by simp) Tryd.results15 ?_
  repeat' (first
 |refine AW_seq_k fun K hK=>?_|refine Step.by1 ?_|refine SBlock_exit_ne (by decide) ?_|refine cz rfl ?_|refine Fork.by2 (fun h=>?_) fun h=>?_
 |((first|refine AW_region_AO ?_|refine AS_call1 (f:=52) rfl rfl (h0) rfl rfl rfl ?_|refine AS_callT (f:=51) rfl rfl (h1') rfl rfl ?_|refine AS_callT (f:=51) rfl rfl (h2') rfl rfl ?_|refine AS_call1 (f:=14) rfl rfl (h3') rfl rfl rfl ?_);simp)
 |(refine Split.by2 (fun h=>?_) (fun h=>?_)<;>(simp [h]))
 |(apply hK;clear hK K)|refine AWh (by assumption) ?_)
  exact retq1 (conv_eq rfl rfl)
end Go.Proofs.YtgmlimipejcpgaaDoor
end

section

end

section
set_option linter.unusedVariables false
set_option linter.unusedSimpArgs false
namespace Go.Proofs.YtgmlimipejcpgaaDoor
open Go Go.AM Fx
set_option maxHeartbeats 4000000 in
theorem c_named24 (l : List GuardD) (c : Int) (hl : l.length ≤ 1048576) : PC 53 [vl GuardD.cells l, .int .i64 c] (.bool (namedB c l)) := by
  obtain ⟨r, hr⟩ : ∃ r, namedB c l = r := ⟨_, rfl⟩
  rw [hr]
  refine PCall_body Tryd.func53 rfl (by decide) Tryd.ntmps53 (by simp) Tryd.results53 ?_
  repeat' (first
 |refine AW_seq_k fun K hK=>?_|refine Step.by1 ?_|refine SBlock_exit_ne (by decide) ?_|refine cz rfl ?_|refine Fork.by2 (fun h=>?_) fun h=>?_
 |(refine AW_region_AO ?_;simp [vl])
 |(refine Split.by2 (fun h=>?_) (fun h=>?_)<;>(simp [h, vl]))
 |(apply hK;clear hK K)|refine AWh (by assumption) ?_)
  refine AW_scan (r := r) l 5 [0, 1] (namedB c) hr (by apply Weak.mk' <;> simp [vl]) ?_ ?_
  · intro i g _ hlt hg hF
    rw [namedB_cons] at hF
    have hlt' : (i : Int) < l.length := by omega
    have w1 : IntKind.i64.wrap ((i : Int) + 1) = i + 1 := wrap_i64 (by omega) (by omega)
    by_cases he : g.clock = c
    · rw [decide_eq_true he, Bool.true_or] at hF
      subst hF
      repeat' (first
 |refine AW_seq_k fun K hK=>?_|refine Step.by1 ?_|refine SBlock_exit_ne (by decide) ?_|refine cz rfl ?_|refine Fork.by2 (fun h=>?_) fun h=>?_
 |(refine AW_region_AO ?_;simp [vl, GuardD.cells, hlt, hlt', hg, he, w1])
 |(refine Split.by2 (fun h=>?_) (fun h=>?_)<;>(simp [h, vl, GuardD.cells, hlt, hlt', hg, he, w1]))
 |(apply hK;clear hK K)|refine AWh (by assumption) ?_)
      exact retq1 (conv_eq rfl rfl)
    · rw [decide_eq_false he, Bool.false_or] at hF
      repeat' (first
 |refine AW_seq_k fun K hK=>?_|refine Step.by1 ?_|refine SBlock_exit_ne (by decide) ?_|refine cz rfl ?_|refine Fork.by2 (fun h=>?_) fun h=>?_
 |(refine AW_region_AO ?_;simp [vl, GuardD.cells, hlt, hlt', hg, he, w1])
 |(refine Split.by2 (fun h=>?_) (fun h=>?_)<;>(simp [h, vl, GuardD.cells, hlt, hlt', hg, he, w1]))
 |(apply hK;clear hK K)|refine AWh (by assumption) ?_)
      refine ⟨hF, ?_⟩; apply Weak.mk' <;> simp [vl]
  · intro hF
    rw [namedB_nil] at hF
    subst hF
    repeat' (first
 |refine AW_seq_k fun K hK=>?_|refine Step.by1 ?_|refine SBlock_exit_ne (by decide) ?_|refine cz rfl ?_|refine Fork.by2 (fun h=>?_) fun h=>?_
 |(refine AW_region_AO ?_;simp [vl])
 |(refine Split.by2 (fun h=>?_) (fun h=>?_)<;>(simp [h, vl]))
 |(apply hK;clear hK K)|refine AWh (by assumption) ?_)
    exact retq1 (conv_eq rfl rfl)
/-- A half has the rows of a network. -/
structure Shaped (n : NetD) (P : List (List (List Int))) : Prop where
  a : P.length = n.autos.length
  l : ∀ (i : Nat) (h1 : i < P.length) (h2 : i < n.autos.length), P[i].length = n.autos[i].locs.length
  c : ∀ Q ∈ P, ∀ r ∈ Q, r.length = n.clocks.length
set_option maxRecDepth 20000 in
set_option maxHeartbeats 8000000 in
theorem c_shaped (n : NetD) (hn : n.ok) (P : List (List (List Int))) (hP : Shaped n P) : PC 16 [.agg n.cells, halfV P] (.bool true) := by
  have hal := hn.2.2.2.1
  have hPa := hP.a
  have hPa' : (P.length : Int) = n.autos.length := by omega
  have h3l : (rows3V P).length = P.length := by simp [rows3V]
  refine PCall_body Tryd.func16 rfl (by decide) Tryd.ntmps16 (by simp) Tryd.results16 ?_
  repeat' (first
 |refine AW_seq_k fun K hK=>?_|refine Step.by1 ?_|refine SBlock_exit_ne (by decide) ?_|refine cz rfl ?_|refine Fork.by2 (fun h=>?_) fun h=>?_
 |(refine AW_region_AO ?_;simp [halfV, vl, NetD.cells, hPa])
 |(refine Split.by2 (fun h=>?_) (fun h=>?_)<;>(simp [h, halfV, vl, NetD.cells, hPa]))
 |(apply hK;clear hK K)|refine AWh (by assumption) ?_)
  refine AW_scan (r := true) P 5 [1, 2] (fun _ => true) rfl (by apply Weak.mk' <;> simp [halfV, vl, NetD.cells, hPa]) ?_ ?_
  · intro i Q hQi hlt hQ _
    have hQm : Q ∈ P := hQ ▸ List.getElem_mem hlt
    have hlt2 : i < n.autos.length := by omega
    obtain ⟨a, ha⟩ : ∃ a, n.autos[i] = a := ⟨_, rfl⟩
    have hQl := hP.l i hlt hlt2
    rw [hQ, ha] at hQl
    have hll := (hn.2.2.2.2 a (ha ▸ List.getElem_mem hlt2)).2.1.1
    have hlt' : (i : Int) < n.autos.length := by omega
    have w1 : IntKind.i64.wrap ((i : Int) + 1) = i + 1 := wrap_i64 (by omega) (by omega)
    have hgi : (rows3V P)[i]'(by rw [h3l]; exact hlt) = [V.vec (rows2V Q) Q.length] := by simp [rows3V, hQ]
    repeat' (first
 |refine AW_seq_k fun K hK=>?_|refine Step.by1 ?_|refine SBlock_exit_ne (by decide) ?_|refine cz rfl ?_|refine Fork.by2 (fun h=>?_) fun h=>?_
 |((first|refine AW_region_AO ?_|refine AW_region_APx (id:=6) 13 mixed (by decide) ?_);simp [halfV, vl, NetD.cells, AutoD.cells, hPa, h3l, hlt2, hlt', hgi, ha, hQl, w1])
 |(refine Split.by2 (fun h=>?_) (fun h=>?_)<;>(simp [h, halfV, vl, NetD.cells, AutoD.cells, hPa, h3l, hlt2, hlt', hgi, ha, hQl, w1]))
 |(apply hK;clear hK K)|refine AWh (by assumption) ?_)
    refine AW_scan (r := true) Q 6 [1, 2, 5] (fun _ => true) rfl (by apply Weak.mk' <;> simp [halfV, vl, NetD.cells, hPa]) ?_ ?_
    · intro j r hrj hjl hr _
      have hrm : r ∈ Q := hr ▸ List.getElem_mem hjl
      have hrl := hP.c Q hQm r hrm
      have h2l : (rows2V Q).length = Q.length := by simp [rows2V]
      have hjl' : (j : Int) < a.locs.length := by omega
      have hjl2 : j < a.locs.length := by omega
      have w2 : IntKind.i64.wrap ((j : Int) + 1) = j + 1 := wrap_i64 (by omega) (by omega)
      have hgj : (rows2V Q)[j]'(by rw [h2l]; exact hjl) = [V.vec (ivs r) r.length] := by simp [rows2V, hr]
      repeat' (first
 |refine AW_seq_k fun K hK=>?_|refine Step.by1 ?_|refine SBlock_exit_ne (by decide) ?_|refine cz rfl ?_|refine Fork.by2 (fun h=>?_) fun h=>?_
 |((first|refine AW_region_AO ?_|refine AW_region_APx (id:=11) 12 mixed (by decide) ?_);simp [halfV, vl, NetD.cells, AutoD.cells, hPa, h3l, hlt2, hlt', hgi, h2l, hgj, ha, hQl, hjl', hjl2, hrl, w2])
 |(refine Split.by2 (fun h=>?_) (fun h=>?_)<;>(simp [h, halfV, vl, NetD.cells, AutoD.cells, hPa, h3l, hlt2, hlt', hgi, h2l, hgj, ha, hQl, hjl', hjl2, hrl, w2]))
 |(apply hK;clear hK K)|refine AWh (by assumption) ?_)
      apply Weak.mk' <;> simp [halfV, vl, NetD.cells, hPa]
    · intro _
      repeat' (first
 |refine AW_seq_k fun K hK=>?_|refine Step.by1 ?_|refine SBlock_exit_ne (by decide) ?_|refine cz rfl ?_|refine Fork.by2 (fun h=>?_) fun h=>?_
 |(refine AW_region_AO ?_;simp [halfV, vl, NetD.cells, AutoD.cells, hPa, h3l, hlt2, hlt', hgi, ha, hQl, w1])
 |(refine Split.by2 (fun h=>?_) (fun h=>?_)<;>(simp [h, halfV, vl, NetD.cells, AutoD.cells, hPa, h3l, hlt2, hlt', hgi, ha, hQl, w1]))
 |(apply hK;clear hK K)|refine AWh (by assumption) ?_)
      apply Weak.mk' <;> simp [halfV, vl, NetD.cells, hPa]
  · intro _
    repeat' (first
 |refine AW_seq_k fun K hK=>?_|refine Step.by1 ?_|refine SBlock_exit_ne (by decide) ?_|refine cz rfl ?_|refine Fork.by2 (fun h=>?_) fun h=>?_
 |(refine AW_region_AO ?_;simp [halfV, vl, NetD.cells, hPa])
 |(refine Split.by2 (fun h=>?_) (fun h=>?_)<;>(simp [h, halfV, vl, NetD.cells, hPa]))
 |(apply hK;clear hK K)|refine AWh (by assumption) ?_)
    exact retq1 (conv_eq rfl rfl)
end Go.Proofs.YtgmlimipejcpgaaDoor
end

section
set_option linter.unusedVariables false
set_option linter.unusedSimpArgs false
namespace Go.Proofs.YtgmlimipejcpgaaDoor
open Go Go.AM Fx
def edgeR (Q : List (List Int)) (k c : Nat) (e : EdgeD) : Bool := decide (e.frm = k) && (namedB ((c : Int) + 1) e.guards || (!setsB ((c : Int) + 1) e.sets && decide (0 ≤ (Q.getD e.to.toNat []).getD c 0)))
def usedGX (c : Int) (X : Bool) : List (List PartD) → Bool
  | [] => X
  | g :: l => usedPs c (usedGX c X l) g
theorem usedGX_nil {c : Int} {X : Bool} : usedGX c X [] = X := rfl
theorem usedGX_cons {c : Int} {X : Bool} {g : List PartD} {l : List (List PartD)} : usedGX c X (g :: l) = usedPs c (usedGX c X l) g := rfl
def reasonB (a : AutoD) (gs : List (List PartD)) (Q : List (List Int)) (k c : Nat) : Bool := namedB ((c : Int) + 1) (a.locs.getD k default).inv || usedGX ((c : Int) + 1) (anyL (edgeR Q k c) a.edges) gs
structure BB where
  b : Bool
def setsO (c : Int) (l : List SetD) (s : BB) : Bool := s.b || setsB c l
theorem setsO_nil {c : Int} {b : Bool} : setsO c [] ⟨b⟩ = b := by simp [setsO, setsB_nil]
theorem setsO_cons {c : Int} {s : SetD} {l : List SetD} {b : Bool} : setsO c (s :: l) ⟨b⟩ = setsO c l ⟨b || decide (s.clock = c)⟩ := by unfold setsO; simp only; rw [setsB_cons, Bool.or_assoc]
set_option maxRecDepth 20000 in
set_option maxHeartbeats 16000000 in
theorem c_reason (n : NetD) (hn : n.ok) (P P2 : List (List (List Int))) (hP : Shaped n P) (gs : List (List PartD)) (hgl : gs.length ≤ 1048577) (hgs : ∀ g ∈ gs, okGoal g) (i k c : Nat) (a : AutoD) (hi : i < n.autos.length) (haa : n.autos[i] = a) (hE : okE a) (hk : k < a.locs.length) (hc : c < n.clocks.length) (hip : i < P.length) :
    PC 17 [.agg n.cells, .agg [halfV P, halfV P2], gsV gs, .int .i64 i, .int .i64 k, .int .i64 c] (.bool (reasonB a gs P[i] k c)) := by
  have ham : a ∈ n.autos := haa ▸ List.getElem_mem hi
  have hal := hn.2.2.2.1
  have hN := hn.1.1
  have hao := hn.2.2.2.2 a ham
  obtain ⟨Q, hQ⟩ : ∃ Q, P[i] = Q := ⟨_, rfl⟩
  have hQm : Q ∈ P := hQ ▸ List.getElem_mem hip
  have hQl := hP.l i hip hi
  rw [hQ, haa] at hQl
  have hQc := hP.c Q hQm
  obtain ⟨lo, hlo⟩ : ∃ lo, a.locs[k] = lo := ⟨_, rfl⟩
  have hgd : a.locs.getD k default = lo := by simp [List.getD, hk, hlo]
  have hlm : lo ∈ a.locs := hlo ▸ List.getElem_mem hk
  have h0 := c_named24 lo.inv ((c : Int) + 1) (hao.2.1.2 lo hlm).2.2.1
  have hi' : (i : Int) < n.autos.length := by omega
  have hk' : (k : Int) < a.locs.length := by omega
  have wc : IntKind.i64.wrap ((c : Int) + 1) = c + 1 := wrap_i64 (by omega) (by omega)
  rw [hQ]
  obtain ⟨r, hr⟩ : ∃ r, reasonB a gs Q k c = r := ⟨_, rfl⟩
  rw [hr]
  unfold reasonB at hr
  rw [hgd] at hr
  simp only [vl] at h0
  refine PCall_body Tryd.func17 rfl (by decide) Tryd.ntmps17 (by simp) Tryd.results17 ?_
  by_cases hb : namedB ((c : Int) + 1) lo.inv = true
  · rw [hb, Bool.true_or] at hr
    subst hr
    rw [hb] at h0
    repeat' (first
 |refine AW_seq_k fun K hK=>?_|refine Step.by1 ?_|refine SBlock_exit_ne (by decide) ?_|refine cz rfl ?_|refine Fork.by2 (fun h=>?_) fun h=>?_
 |((first|refine AW_region_AO ?_|refine AS_call1 (f:=53) rfl rfl (h0) rfl rfl rfl ?_);simp [gsV, vl, NetD.cells, AutoD.cells, LocD.cells, hi, hi', haa, hk, hk', hlo, wc])
 |(refine Split.by2 (fun h=>?_) (fun h=>?_)<;>(simp [h, gsV, vl, NetD.cells, AutoD.cells, LocD.cells, hi, hi', haa, hk, hk', hlo, wc]))
 |(apply hK;clear hK K)|refine AWh (by assumption) ?_)
    exact retq1 (conv_eq rfl rfl)
  · have hb' : namedB ((c : Int) + 1) lo.inv = false := by simpa using hb
    rw [hb', Bool.false_or] at hr
    rw [hb'] at h0
    clear hb hb'
    repeat' (first
 |refine AW_seq_k fun K hK=>?_|refine Step.by1 ?_|refine SBlock_exit_ne (by decide) ?_|refine cz rfl ?_|refine Fork.by2 (fun h=>?_) fun h=>?_
 |((first|refine AW_region_AO ?_|refine AS_call1 (f:=53) rfl rfl (h0) rfl rfl rfl ?_);simp [gsV, vl, NetD.cells, AutoD.cells, LocD.cells, hi, hi', haa, hk, hk', hlo, wc])
 |(refine Split.by2 (fun h=>?_) (fun h=>?_)<;>(simp [h, gsV, vl, NetD.cells, AutoD.cells, LocD.cells, hi, hi', haa, hk, hk', hlo, wc]))
 |(apply hK;clear hK K)|refine AWh (by assumption) ?_)
    refine AW_scan (r := r) gs 13 [2, 3, 4, 5, 6, 7] (usedGX ((c : Int) + 1) (anyL (edgeR Q k c) a.edges)) hr (by apply Weak.mk' <;> simp [gsV, vl, NetD.cells, halfV]) ?_ ?_
    · intro q g hgq hqt hg hF
      rw [usedGX_cons] at hF
      have hgo := hgs g (List.mem_of_getElem? hgq)
      have hqt' : (q : Int) < gs.length := by omega
      have w1 : IntKind.i64.wrap ((q : Int) + 1) = q + 1 := wrap_i64 (by omega) (by omega)
      generalize usedGX ((c : Int) + 1) (anyL (edgeR Q k c) a.edges) (gs.drop (q + 1)) = X at *
      repeat' (first
 |refine AW_seq_k fun K hK=>?_|refine Step.by1 ?_|refine SBlock_exit_ne (by decide) ?_|refine cz rfl ?_|refine Fork.by2 (fun h=>?_) fun h=>?_
 |(refine AW_region_AO ?_;simp [gsV, vl, hqt, hqt', hg])
 |(refine Split.by2 (fun h=>?_) (fun h=>?_)<;>(simp [h, gsV, vl, hqt, hqt', hg]))
 |(apply hK;clear hK K)|refine AWh (by assumption) ?_)
      refine AW_scan (r := r) g 14 [2, 3, 4, 5, 6, 7, 13] (usedPs ((c : Int) + 1) X) hF (by apply Weak.mk' <;> simp [gsV, vl, NetD.cells, halfV]) ?_ ?_
      · intro x p hpx hxt hp hF2
        rw [usedPs_cons] at hF2
        have hx' : (x : Int) < g.length := by omega
        have hgl2 := hgo.1
        have w2 : IntKind.i64.wrap ((x : Int) + 1) = x + 1 := wrap_i64 (by omega) (by omega)
        have h1 := c_named24 p.guards ((c : Int) + 1) (hgo.2 p (List.mem_of_getElem? hpx)).2.1.1
        simp only [vl] at h1
        generalize namedB ((c : Int) + 1) p.guards = b at *
        cases b
        · rw [Bool.false_or] at hF2
          repeat' (first
 |refine AW_seq_k fun K hK=>?_|refine Step.by1 ?_|refine SBlock_exit_ne (by decide) ?_|refine cz rfl ?_|refine Fork.by2 (fun h=>?_) fun h=>?_
 |((first|refine AW_region_AO ?_|refine AS_call1 (f:=53) rfl rfl (h1) rfl rfl rfl ?_);simp [gsV, vl, PartD.cells, hqt, hqt', hg, hxt, hx', hp, wc, w2])
 |(refine Split.by2 (fun h=>?_) (fun h=>?_)<;>(simp [h, gsV, vl, PartD.cells, hqt, hqt', hg, hxt, hx', hp, wc, w2]))
 |(apply hK;clear hK K)|refine AWh (by assumption) ?_)
          refine ⟨hF2, ?_⟩; apply Weak.mk' <;> simp [gsV, vl, NetD.cells, halfV]
        · rw [Bool.true_or] at hF2
          subst hF2
          repeat' (first
 |refine AW_seq_k fun K hK=>?_|refine Step.by1 ?_|refine SBlock_exit_ne (by decide) ?_|refine cz rfl ?_|refine Fork.by2 (fun h=>?_) fun h=>?_
 |((first|refine AW_region_AO ?_|refine AS_call1 (f:=53) rfl rfl (h1) rfl rfl rfl ?_);simp [gsV, vl, PartD.cells, hqt, hqt', hg, hxt, hx', hp, wc])
 |(refine Split.by2 (fun h=>?_) (fun h=>?_)<;>(simp [h, gsV, vl, PartD.cells, hqt, hqt', hg, hxt, hx', hp, wc]))
 |(apply hK;clear hK K)|refine AWh (by assumption) ?_)
          exact retq1 (conv_eq rfl rfl)
      · intro hF2
        rw [usedPs_nil] at hF2
        repeat' (first
 |refine AW_seq_k fun K hK=>?_|refine Step.by1 ?_|refine SBlock_exit_ne (by decide) ?_|refine cz rfl ?_|refine Fork.by2 (fun h=>?_) fun h=>?_
 |(refine AW_region_AO ?_;simp [gsV, vl, hqt, hqt', hg, w1])
 |(refine Split.by2 (fun h=>?_) (fun h=>?_)<;>(simp [h, gsV, vl, hqt, hqt', hg, w1]))
 |(apply hK;clear hK K)|refine AWh (by assumption) ?_)
        refine ⟨hF2, ?_⟩; apply Weak.mk' <;> simp [gsV, vl, NetD.cells, halfV]
    · intro hF
      rw [usedGX_nil] at hF
      repeat' (first
 |refine AW_seq_k fun K hK=>?_|refine Step.by1 ?_|refine SBlock_exit_ne (by decide) ?_|refine cz rfl ?_|refine Fork.by2 (fun h=>?_) fun h=>?_
 |(refine AW_region_AO ?_;simp [gsV, vl])
 |(refine Split.by2 (fun h=>?_) (fun h=>?_)<;>(simp [h, gsV, vl]))
 |(apply hK;clear hK K)|refine AWh (by assumption) ?_)
      refine AW_scan (r := r) a.edges 15 [3, 4, 5, 6, 7] (anyL (edgeR Q k c)) hF (by apply Weak.mk' <;> simp [gsV, vl, NetD.cells, halfV]) ?_ ?_
      · intro q e heq hqt he hF
        rw [anyL_cons] at hF
        have hem := List.mem_of_getElem? heq
        have heo := hao.2.2.2 e hem
        have hel := hao.2.2.1
        have hqt' : (q : Int) < a.edges.length := by omega
        have w1 : IntKind.i64.wrap ((q : Int) + 1) = q + 1 := wrap_i64 (by omega) (by omega)
        by_cases hf : e.frm = k
        · obtain ⟨_, t1, t2⟩ := hE e hem
          obtain ⟨z, hz⟩ := Int.eq_ofNat_of_zero_le t1
          have hzl : z < Q.length := by omega
          have hzl' : (z : Int) < Q.length := by omega
          obtain ⟨row, hrow⟩ : ∃ row, Q[z] = row := ⟨_, rfl⟩
          have hrl := hQc row (hrow ▸ List.getElem_mem hzl)
          have hcl : c < row.length := by omega
          have hcl' : (c : Int) < row.length := by omega
          obtain ⟨v, hv⟩ : ∃ v, row[c] = v := ⟨_, rfl⟩
          have hgv : (Q.getD e.to.toNat []).getD c 0 = v := by
            have : e.to.toNat = z := by omega
            rw [this]; simp [List.getD, hzl, hrow, hcl, hv]
          have hed : edgeR Q k c e = (namedB ((c : Int) + 1) e.guards || (!setsB ((c : Int) + 1) e.sets && decide (0 ≤ v))) := by unfold edgeR; rw [hgv]; simp [hf]
          rw [hed] at hF
          have h3l : (rows3V P).length = P.length := by simp [rows3V]
          have h2l : (rows2V Q).length = Q.length := by simp [rows2V]
          have hil : (ivs row).length = row.length := by simp [ivs]
          have hgi : (rows3V P)[i]'(by rw [h3l]; exact hip) = [V.vec (rows2V Q) Q.length] := by simp [rows3V, hQ]
          have hgj : (rows2V Q)[z]'(by rw [h2l]; exact hzl) = [V.vec (ivs row) row.length] := by simp [rows2V, hrow]
          have hgc : (ivs row)[c]'(by rw [hil]; exact hcl) = [V.int .i64 v] := by simp [ivs, hv]
          have hip' : (i : Int) < P.length := by omega
          have h1 := c_named24 e.guards ((c : Int) + 1) heo.2.2.1.1
          simp only [vl] at h1
          repeat' (first
 |refine AW_seq_k fun K hK=>?_|refine Step.by1 ?_|refine SBlock_exit_ne (by decide) ?_|refine cz rfl ?_|refine Fork.by2 (fun h=>?_) fun h=>?_
 |(refine AW_region_AO ?_;simp [gsV, vl, NetD.cells, AutoD.cells, EdgeD.cells, hi, hi', haa, hqt, hqt', he, hf])
 |(refine Split.by2 (fun h=>?_) (fun h=>?_)<;>(simp [h, gsV, vl, NetD.cells, AutoD.cells, EdgeD.cells, hi, hi', haa, hqt, hqt', he, hf]))
 |(apply hK;clear hK K)|refine AWh (by assumption) ?_)
          obtain ⟨sb, hsb⟩ : ∃ sb, setsO ((c : Int) + 1) e.sets ⟨false⟩ = sb := ⟨_, rfl⟩
          have hsb2 : setsB ((c : Int) + 1) e.sets = sb := by rw [← hsb]; unfold setsO; rw [Bool.false_or]
          rw [hsb2] at hF
          refine AW_range (r := sb) e.sets 18 [3, 4, 5, 6, 7, 15, 16] (fun s : BB => [(17, .bool s.b)]) (fun _ => [B.var n.cells, B.var [halfV P, halfV P2], B.var e.cells]) (fun i _ => i ≤ e.sets.length) (setsO ((c : Int) + 1)) ⟨false⟩ hsb (Nat.zero_le _) (by apply Weak.mk' <;> simp [gsV, vl, NetD.cells, EdgeD.cells, halfV, hf]) (fun _ _ _ => rfl) ?_ ?_
          · rintro x ⟨b⟩ s hsx hxt hs _ hF3
            rw [setsO_cons] at hF3
            have hsl := heo.2.2.2.2.2.2.1
            have hx' : (x : Int) < e.sets.length := by omega
            have w2 : IntKind.i64.wrap ((x : Int) + 1) = x + 1 := wrap_i64 (by omega) (by omega)
            cases b
            · repeat' (first
 |refine AW_seq_k fun K hK=>?_|refine Step.by1 ?_|refine SBlock_exit_ne (by decide) ?_|refine cz rfl ?_|refine Fork.by2 (fun h=>?_) fun h=>?_
 |(refine AW_region_AO ?_;simp [gsV, vl, EdgeD.cells, SetD.cells, hxt, hx', hs, wc, w2])
 |(refine Split.by2 (fun h=>?_) (fun h=>?_)<;>(simp [h, gsV, vl, EdgeD.cells, SetD.cells, hxt, hx', hs, wc, w2]))
 |(apply hK;clear hK K)|refine AWh (by assumption) ?_)
              refine ⟨⟨decide (s.clock = (c : Int) + 1)⟩, by simpa using hF3, by omega, ?_⟩; apply Weak.mk' <;> simp [gsV, vl, NetD.cells, EdgeD.cells, halfV, hf]
            · repeat' (first
 |refine AW_seq_k fun K hK=>?_|refine Step.by1 ?_|refine SBlock_exit_ne (by decide) ?_|refine cz rfl ?_|refine Fork.by2 (fun h=>?_) fun h=>?_
 |(refine AW_region_AO ?_;simp [gsV, vl, EdgeD.cells, SetD.cells, hxt, hx', hs, wc, w2])
 |(refine Split.by2 (fun h=>?_) (fun h=>?_)<;>(simp [h, gsV, vl, EdgeD.cells, SetD.cells, hxt, hx', hs, wc, w2]))
 |(apply hK;clear hK K)|refine AWh (by assumption) ?_)
              refine ⟨⟨true⟩, by simpa using hF3, by omega, ?_⟩; apply Weak.mk' <;> simp [gsV, vl, NetD.cells, EdgeD.cells, halfV, hf]
          · rintro ⟨b⟩ _ hF3
            rw [setsO_nil] at hF3
            subst hF3
            generalize namedB ((c : Int) + 1) e.guards = nb at *
            have hpa : (P.length : Int) = n.autos.length := by have := hP.a; omega
            cases nb <;> cases b <;> by_cases hv0 : 0 ≤ v <;> simp only [Bool.true_or, Bool.false_or, Bool.not_true, Bool.not_false, Bool.false_and, Bool.true_and, hv0, decide_true, decide_false] at hF
            all_goals
              repeat' (first
 |refine AW_seq_k fun K hK=>?_|refine Step.by1 ?_|refine SBlock_exit_ne (by decide) ?_|refine cz rfl ?_|refine Fork.by2 (fun h=>?_) fun h=>?_
 |((first|refine AW_region_AO ?_|refine AW_region_APx (id:=21) 24 mixed (by decide) ?_|refine AP_call1 (f:=53) rfl rfl (h1) rfl rfl rfl ?_);simp [gsV, vl, NetD.cells, EdgeD.cells, halfV, h3l, h2l, hil, hgi, hgj, hgc, hip, hip', hz, hzl, hzl', hcl, hcl', hv0, wc, w1])
 |(refine Split.by2 (fun h=>?_) (fun h=>?_)<;>(simp [h, gsV, vl, NetD.cells, EdgeD.cells, halfV, h3l, h2l, hil, hgi, hgj, hgc, hip, hip', hz, hzl, hzl', hcl, hcl', hv0, wc, w1]))
 |(apply hK;clear hK K)|refine AWh (by assumption) ?_)
              first
                | (subst hF; exact retq1 (conv_eq rfl rfl))
                | (refine ⟨hF, ?_⟩; apply Weak.mk' <;> simp [gsV, vl, NetD.cells, halfV])
        · have hed : edgeR Q k c e = false := by unfold edgeR; simp [hf]
          rw [hed, Bool.false_or] at hF
          repeat' (first
 |refine AW_seq_k fun K hK=>?_|refine Step.by1 ?_|refine SBlock_exit_ne (by decide) ?_|refine cz rfl ?_|refine Fork.by2 (fun h=>?_) fun h=>?_
 |(refine AW_region_AO ?_;simp [gsV, vl, NetD.cells, AutoD.cells, EdgeD.cells, hi, hi', haa, hqt, hqt', he, hf, w1])
 |(refine Split.by2 (fun h=>?_) (fun h=>?_)<;>(simp [h, gsV, vl, NetD.cells, AutoD.cells, EdgeD.cells, hi, hi', haa, hqt, hqt', he, hf, w1]))
 |(apply hK;clear hK K)|refine AWh (by assumption) ?_)
          refine ⟨hF, ?_⟩; apply Weak.mk' <;> simp [gsV, vl, NetD.cells, halfV]
      · intro hF
        rw [anyL_nil] at hF
        subst hF
        repeat' (first
 |refine AW_seq_k fun K hK=>?_|refine Step.by1 ?_|refine SBlock_exit_ne (by decide) ?_|refine cz rfl ?_|refine Fork.by2 (fun h=>?_) fun h=>?_
 |(refine AW_region_AO ?_;simp [gsV, vl, NetD.cells, AutoD.cells, hi, hi', haa])
 |(refine Split.by2 (fun h=>?_) (fun h=>?_)<;>(simp [h, gsV, vl, NetD.cells, AutoD.cells, hi, hi', haa]))
 |(apply hK;clear hK K)|refine AWh (by assumption) ?_)
        exact retq1 (conv_eq rfl rfl)
end Go.Proofs.YtgmlimipejcpgaaDoor
end

section
set_option linter.unusedVariables false
set_option linter.unusedSimpArgs false
namespace Go.AM
end Go.AM
end

section

end

section
set_option linter.unusedVariables false
set_option linter.unusedSimpArgs false
namespace Go.Proofs.YtgmlimipejcpgaaDoor
open Go Go.AM Fx
end Go.Proofs.YtgmlimipejcpgaaDoor
end

section
set_option linter.unusedVariables false
set_option linter.unusedSimpArgs false
namespace Go.Proofs.YtgmlimipejcpgaaDoor
open Go Go.AM Fx
end Go.Proofs.YtgmlimipejcpgaaDoor
end

section
set_option linter.unusedVariables false
set_option linter.unusedSimpArgs false
namespace Go.Proofs.YtgmlimipejcpgaaDoor
open Go Go.AM Fx
end Go.Proofs.YtgmlimipejcpgaaDoor
end
