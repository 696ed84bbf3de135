/-
  YtgmlimipejcpgaaDoorLo10: steps of the proof of a law of the program: what these texts prove holds under the hypotheses that their theorems name, and no others.
-/
import Derived.Test.YtgmlimipejcpgaaDoorLo09
section
set_option linter.unusedSimpArgs false
set_option linter.unusedVariables false
namespace Go.Proofs.YtgmlimipejcpgaaDoor
open Go Go.AM Fx
def mxI (x y : Int) : Int := if y > x then y else x
def mxR (x y : List Int) : List Int := List.zipWith mxI x y
def mxQ (Q R : List (List Int)) : List (List Int) := List.zipWith mxR Q R
def mxP (A C : List (List (List Int))) : List (List (List Int)) := List.zipWith mxQ A C
/-- The same rows. -/
structure Shp (A C : List (List (List Int))) : Prop where
  len : A.length = C.length
  rows : ∀ (i : Nat) (Q R : List (List Int)), A[i]? = some Q → C[i]? = some R → Q.length = R.length ∧ ∀ (k : Nat) (x y : List Int), Q[k]? = some x → R[k]? = some y → x.length = y.length
theorem zip_at {α β γ : Type} {f : α → β → γ} {l : List α} {m : List β} {i : Nat} {x : α} {y : β} (hx : l[i]? = some x) (hy : m[i]? = some y) : (List.zipWith f l m)[i]? = some (f x y) := by
  rw [List.getElem?_zipWith, hx, hy]
theorem zip_take {α β γ : Type} {f : α → β → γ} {l : List α} {m : List β} {i : Nat} {x : α} {y : β} (hx : l[i]? = some x) (hy : m[i]? = some y) : (List.zipWith f l m).take (i + 1) = (List.zipWith f l m).take i ++ [f x y] := by
  rw [List.take_add_one, zip_at hx hy]; rfl
set_option maxRecDepth 20000 in
set_option maxHeartbeats 16000000 in
theorem g_greatest (A C : List (List (List Int))) (hA : planOk A) (hs : Shp A C) {h : List B} (hl : HL h) :
    GCall Tryd.prog GV 55 [halfV A, halfV C] h (fun v h' => ∃ b g fl T, v = .ref b g 0 T.length ∧ Old h h' ∧ N3 h.length h' b g fl T (mxP A C)) := by
  have hal := hA.1
  have hcl0 := hs.len
  have ra : (rows3V A).length = A.length := rows3V_len
  have rc : (rows3V C).length = C.length := rows3V_len
  unfold halfV
  refine gB1 Tryd.func55 rfl (by decide) Tryd.ntmps55 (by simp) Tryd.results55 ?_
  repeat' (first
 |refine aK fun K hK=>?_|refine Step.by1 ?_|refine sE (by decide) ?_|refine cz rfl ?_|refine Fork.by2 (fun h=>?_) fun h=>?_
 |(refine aR ?_;simp)
 |(refine Split.by2 (fun h=>?_) (fun h=>?_)<;>(simp [h]))
 |(apply hK;clear hK K)|refine AWh ‹_› ?_)
  refine AW_nilrow 5 57 rfl (by simp) ?_
  refine AW_loopGL [1, 13, 14] (fun s : HA => [(5, .ref h.length s.i 0 s.i), (15, .int .i64 s.i)]) (fun s => s.hc) (fun s => s.i ≤ A.length ∧ Old h s.hc ∧ s.T.length = s.i ∧ N3 h.length s.hc h.length s.i s.fl s.T ((mxP A C).take s.i)) (fun s => A.length - s.i) ⟨0, h ++ [B.row 57 0 0 true []], true, []⟩
    ⟨Nat.zero_le _, (Old.rfl hl).app (hl.app (by simp)), rfl, ⟨by rw [ga0 rfl]; rfl, fun _ => rfl, by simp, fun i y hy => by simp at hy, Nat.le_refl _, by simp⟩⟩
    (Weak.sym (x := []) (by simp) (hl.app (by simp)) (by simp)) (fun s hs => by have := hs.2.2.2.b_lt; simp; omega) ?_
  rintro ⟨i, hc, fl, T⟩ ⟨hi, ho, hT, hp⟩
  simp only at hi ho hT hp
  by_cases hlt : i < A.length
  · obtain ⟨Q, hQQ⟩ : ∃ Q, A[i] = Q := ⟨_, rfl⟩
    have hltC : i < C.length := by omega
    obtain ⟨R, hRR⟩ : ∃ R, C[i] = R := ⟨_, rfl⟩
    have hQ? : A[i]? = some Q := by rw [List.getElem?_eq_getElem hlt, hQQ]
    have hR? : C[i]? = some R := by rw [List.getElem?_eq_getElem hltC, hRR]
    obtain ⟨hqr, hrows⟩ := hs.rows i Q R hQ? hR?
    have hpi := zip_take (f := mxQ) hQ? hR?
    have hll := (hA.2 Q (List.mem_of_getElem? hQ?)).1
    have hrl := (hA.2 Q (List.mem_of_getElem? hQ?)).2
    have hlt' : (i : Int) < A.length := by omega
    have hltC' : (i : Int) < C.length := by omega
    have w1 : IntKind.i64.wrap ((i : Int) + 1) = i + 1 := wI (by omega) (by omega)
    have hby : (i + 1) * 24 ≤ 140737488355328 := by omega
    have a2 := rows3V_get hQ?
    have a3 : (rows3V A)[i]'(by omega) = [V.vec (rows2V Q) Q.length] := by rw [List.getElem?_eq_getElem (by omega)] at a2; exact Option.some.inj a2
    have c2 := rows3V_get hR?
    have c3 : (rows3V C)[i]'(by omega) = [V.vec (rows2V R) R.length] := by rw [List.getElem?_eq_getElem (by omega)] at c2; exact Option.some.inj c2
    have rq : (rows2V Q).length = Q.length := rows2V_len
    have rr : (rows2V R).length = R.length := rows2V_len
    repeat' (first
 |refine aK fun K hK=>?_|refine Step.by1 ?_|refine sE (by decide) ?_|refine cz rfl ?_|refine Fork.by2 (fun h=>?_) fun h=>?_
 |(refine aR ?_;simp [hlt, hlt', a2, a3, ra])
 |(refine Split.by2 (fun h=>?_) (fun h=>?_)<;>(simp [h, hlt, hlt', a2, a3, ra]))
 |(apply hK;clear hK K)|refine AWh ‹_› ?_)
    refine AW_nilrow 8 30 rfl (by simp) ?_
    have hA0 : HL (hc ++ [B.row 30 0 0 true []]) := ho.hl.app (by simp)
    refine AW_loopGL [1, 5, 6, 13, 14, 15, 20, 21] (fun s : HB => [(8, .ref hc.length s.j 0 s.j), (22, .int .i64 s.j)]) (fun s => s.hc) (fun s => s.j ≤ Q.length ∧ Old hc s.hc ∧ s.ids.length = s.j ∧ N2 hc.length s.hc hc.length s.j s.fl s.ids ((mxQ Q R).take s.j)) (fun s => Q.length - s.j) ⟨0, hc ++ [B.row 30 0 0 true []], true, []⟩
      ⟨Nat.zero_le _, (Old.rfl ho.hl).app hA0, rfl, ⟨by rw [ga0 rfl]; rfl, fun _ => rfl, by simp, fun i y hy => by simp at hy, ⟨Nat.le_refl _, by simp⟩, by simp⟩⟩
      (Weak.sym (x := []) (by simp) hA0 (by have := ho.len; have := hp.b_lt; simp; omega)) (fun s hs => by have := hs.2.2.2.b_lt; simp; omega) ?_
    rintro ⟨j, hd, fl2, ids⟩ ⟨hj, ho2, hil, hq⟩
    simp only at hj ho2 hil hq
    have hb2 := hq.b_lt
    by_cases hjl : j < Q.length
    · obtain ⟨x, hxx⟩ : ∃ x, Q[j] = x := ⟨_, rfl⟩
      have hjr : j < R.length := by omega
      obtain ⟨y, hyy⟩ : ∃ y, R[j] = y := ⟨_, rfl⟩
      have hx? : Q[j]? = some x := by rw [List.getElem?_eq_getElem hjl, hxx]
      have hy? : R[j]? = some y := by rw [List.getElem?_eq_getElem hjr, hyy]
      have hxy := hrows j x y hx? hy?
      have hxl := hrl x (List.mem_of_getElem? hx?)
      have hpa := zip_take (f := mxR) hx? hy?
      have hjl' : (j : Int) < Q.length := by omega
      have hjr' : (j : Int) < R.length := by omega
      have w2 : IntKind.i64.wrap ((j : Int) + 1) = j + 1 := wI (by omega) (by omega)
      have hby2 : (j + 1) * 24 ≤ 140737488355328 := by omega
      have d2 := rows2V_get hx?
      have d3 : (rows2V Q)[j]'(by omega) = [V.vec (ivs x) x.length] := by rw [List.getElem?_eq_getElem (by omega)] at d2; exact Option.some.inj d2
      have e2 := rows2V_get hy?
      have e3 : (rows2V R)[j]'(by omega) = [V.vec (ivs y) y.length] := by rw [List.getElem?_eq_getElem (by omega)] at e2; exact Option.some.inj e2
      have hcl := c_CloneI x hxl
      have ix : (ivs x).length = x.length := ivs_len
      have iy : (ivs y).length = y.length := ivs_len
      have g0 := fun x : List B => ga0 (h := hd) (x := x) rfl
      have kb := fun x : List B => (get_app (x := x) hb2).trans hq.at0
      have sb := fun (x : List B) (y : B) => set_app (x := x) (y := y) hb2
      have hml2 : (ids.map fun x => [rv x]).length = j := by simp [hil]
      repeat' (first
 |refine aK fun K hK=>?_|refine Step.by1 ?_|refine sE (by decide) ?_|refine cz rfl ?_|refine Fork.by2 (fun h=>?_) fun h=>?_
 |((first|refine aR ?_|refine AS_callO (f:=95) rfl rfl (hcl) rfl rfl ?_);simp [hjl, hjl', d2, d3, rq, ix])
 |(refine Split.by2 (fun h=>?_) (fun h=>?_)<;>(simp [h, hjl, hjl', d2, d3, rq, ix]))
 |(apply hK;clear hK K)|refine AWh ‹_› ?_)
      refine aL [1, 5, 6, 8, 9, 11, 13, 14, 15, 20, 21, 22, 30] (fun s : Nat × List Int => [(31, .int .i64 s.1)]) (fun s => hd ++ [B.row 3 0 0 true (ivs s.2)]) (fun s => s.1 ≤ x.length ∧ s.2.length = x.length ∧ ∀ q, q < x.length → s.2[q]? = some (if q < s.1 then mxI (x.getD q 0) (y.getD q 0) else x.getD q 0)) (fun s => x.length - s.1) (0, x)
        ⟨Nat.zero_le _, rfl, fun q hq => by simp [List.getD, hq]⟩ (Weak.sym (x := []) (by simp) (ho2.hl.app (by simp)) (by have := ho2.len; have := ho.len; have := hp.b_lt; simp; omega)) (fun s hs => by simp) ?_
      rintro ⟨k, c⟩ ⟨hk, hcl2, hcv⟩
      simp only at hk hcl2 hcv
      have hcl3 : (ivs c).length = x.length := by rw [ivs_len, hcl2]
      by_cases hkl : k < x.length
      · have hkl' : (k : Int) < x.length := by omega
        have w3 : IntKind.i64.wrap ((k : Int) + 1) = k + 1 := wI (by omega) (by omega)
        have hky : k < y.length := by omega
        have hky' : (k : Int) < y.length := by omega
        have hck? := hcv k hkl
        rw [if_neg (by omega)] at hck?
        obtain ⟨u, hu⟩ : ∃ u, x.getD k 0 = u := ⟨_, rfl⟩
        obtain ⟨w, hw⟩ : ∃ w, y.getD k 0 = w := ⟨_, rfl⟩
        rw [hu] at hck?
        have hyk? : y[k]? = some w := by rw [← hw]; simp [List.getD, hky]
        have f2 := ivs_get hck?
        have f3 : (ivs c)[k]'(by omega) = [V.int .i64 u] := by rw [List.getElem?_eq_getElem (by omega)] at f2; exact Option.some.inj f2
        have q2 := ivs_get hyk?
        have q3 : (ivs y)[k]'(by omega) = [V.int .i64 w] := by rw [List.getElem?_eq_getElem (by omega)] at q2; exact Option.some.inj q2
        have s0 := fun (x : List B) (y : B) => sa0 (h := hd) (x := x) (y := y) rfl
        have hs1 : ∀ v, (ivs c).set k [V.int .i64 v] = ivs (c.set k v) := fun v => ivs_set.symm
        have hnext : ∀ v, mxI u w = v → ∀ q, q < x.length → (c.set k v)[q]? = some (if q < k + 1 then mxI (x.getD q 0) (y.getD q 0) else x.getD q 0) := fun v hv q hq => by
          rw [List.getElem?_set]
          by_cases e : k = q
          · subst e; rw [if_pos rfl, if_pos (by omega), if_pos (by omega), hu, hw, hv]
          · rw [if_neg e, hcv q hq]
            by_cases e2 : q < k
            · rw [if_pos e2, if_pos (by omega)]
            · rw [if_neg e2, if_neg (by omega)]
        by_cases huw : u < w
        · have hn2 := hnext w (by simp [mxI, huw])
          repeat' (first
 |refine aK fun K hK=>?_|refine Step.by1 ?_|refine sE (by decide) ?_|refine cz rfl ?_|refine Fork.by2 (fun h=>?_) fun h=>?_
 |((first|refine aR ?_|refine aX (id:=13) 18 mixed (by decide) ?_);simp [hkl, hkl', w3, g0, s0, hcl3, f2, f3, hs1, hltC, hltC', c2, c3, rc, hjr, hjr', e2, e3, rr, hky, hky', q2, q3, iy, huw])
 |(refine Split.by2 (fun h=>?_) (fun h=>?_)<;>(simp [h, hkl, hkl', w3, g0, s0, hcl3, f2, f3, hs1, hltC, hltC', c2, c3, rc, hjr, hjr', e2, e3, rr, hky, hky', q2, q3, iy, huw]))
 |(apply hK;clear hK K)|refine AWh ‹_› ?_)
          exact ⟨k + 1, c.set k w, ⟨by show k + 1 ≤ _; omega, by simp [hcl2], hn2⟩, by show _ - (k + 1) < _ - k; omega, Weak.sym (x := []) (by simp) (ho2.hl.app (by simp)) (by have := ho2.len; have := ho.len; have := hp.b_lt; simp; omega)⟩
        · have hn2 := hnext u (by simp [mxI, huw])
          repeat' (first
 |refine aK fun K hK=>?_|refine Step.by1 ?_|refine sE (by decide) ?_|refine cz rfl ?_|refine Fork.by2 (fun h=>?_) fun h=>?_
 |((first|refine aR ?_|refine aX (id:=13) 18 mixed (by decide) ?_);simp [hkl, hkl', w3, g0, s0, hcl3, f2, f3, hs1, hltC, hltC', c2, c3, rc, hjr, hjr', e2, e3, rr, hky, hky', q2, q3, iy, huw])
 |(refine Split.by2 (fun h=>?_) (fun h=>?_)<;>(simp [h, hkl, hkl', w3, g0, s0, hcl3, f2, f3, hs1, hltC, hltC', c2, c3, rc, hjr, hjr', e2, e3, rr, hky, hky', q2, q3, iy, huw]))
 |(apply hK;clear hK K)|refine AWh ‹_› ?_)
          exact ⟨k + 1, c.set k u, ⟨by show k + 1 ≤ _; omega, by simp [hcl2], hn2⟩, by show _ - (k + 1) < _ - k; omega, Weak.sym (x := []) (by simp) (ho2.hl.app (by simp)) (by have := ho2.len; have := ho.len; have := hp.b_lt; simp; omega)⟩
      · obtain rfl : k = x.length := by omega
        have hce : c = mxR x y := by
          apply List.ext_getElem?
          intro q
          by_cases hq : q < x.length
          · rw [hcv q hq, if_pos hq]
            unfold mxR
            rw [zip_at (x := x.getD q 0) (y := y.getD q 0) (by simp [List.getD, hq]) (by simp [List.getD, show q < y.length by omega])]
          · rw [List.getElem?_eq_none (by omega), List.getElem?_eq_none (by simp [mxR]; omega)]
        have hsn := hq.snoc (ns := c) ho2.len
        rw [hcl2] at hsn
        rw [← hce] at hpa
        repeat' (first
 |refine aK fun K hK=>?_|refine Step.by1 ?_|refine sE (by decide) ?_|refine cz rfl ?_|refine Fork.by2 (fun h=>?_) fun h=>?_
 |(refine aR ?_;simp [kb, sb, hml2, hby2, w2, g0])
 |(refine Split.by2 (fun h=>?_) (fun h=>?_)<;>(simp [h, kb, sb, hml2, hby2, w2, g0]))
 |(apply hK;clear hK K)|refine AWh ‹_› ?_)
        have hold := ho2.setapp (b := hc.length) (y := B.row 30 (j + 1) 0 false (ids.map (fun x => [rv x]) ++ [[rv (hd.length, 0, x.length)]])) (x := [B.row 3 0 0 true (ivs c)]) (by omega) (ho2.hl.setapp (rowR_lt fun y hy => by
          rcases List.mem_append.1 hy with hy | hy
          · exact refs_lt (fun x hx => by have := hq.ids_lt x hx; simp; omega) y hy
          · simp at hy; subst hy; simp [rv]) (by simp))
        exact ⟨⟨j + 1, _, false, ids ++ [(hd.length, 0, x.length)]⟩, ⟨by show j + 1 ≤ _; omega, hold, by simp [hil], by show N2 _ _ _ _ _ _ ((mxQ Q R).take (j + 1)); unfold mxQ at hsn ⊢; rw [hpa]; exact hsn⟩, by show _ - (j + 1) < _ - j; omega,
          Weak.sym (x := [B.row 30 0 0 false [[V.ref hd.length 0 0 x.length]]]) (by simp [rv]) hold.hl (by have := ho2.len; have := ho.len; have := hp.b_lt; simp; omega)⟩
    · obtain rfl : j = Q.length := by omega
      have kb := fun x : List B => (get_app (x := x) (Nat.lt_of_lt_of_le hp.b_lt ho2.len)).trans (ho2.get hp.at0)
      have sb := fun (x : List B) (y : B) => set_app (x := x) (y := y) (Nat.lt_of_lt_of_le hp.b_lt ho2.len)
      have hml2 : (T.map fun y => [V.ref y.1 y.2.1 0 y.2.2.2.length]).length = i := by simp [hT]
      have hqe : (mxQ Q R).take Q.length = mxQ Q R := List.take_of_length_le (by simp [mxQ]; omega)
      rw [hqe] at hq
      have hsn := hp.snoc ho.len ho2.old hq
      rw [hil] at hsn
      repeat' (first
 |refine aK fun K hK=>?_|refine Step.by1 ?_|refine sE (by decide) ?_|refine cz rfl ?_|refine Fork.by2 (fun h=>?_) fun h=>?_
 |(refine aR ?_;simp [kb, sb, hml2, hby, w1])
 |(refine Split.by2 (fun h=>?_) (fun h=>?_)<;>(simp [h, kb, sb, hml2, hby, w1]))
 |(apply hK;clear hK K)|refine AWh ‹_› ?_)
      have hold := (ho.trans ho2).set (b := h.length) (y := B.row 57 (i + 1) 0 false (T.map (fun y => [V.ref y.1 y.2.1 0 y.2.2.2.length]) ++ [[V.ref hc.length Q.length 0 Q.length]])) (Nat.le_refl _) (ho2.hl.set (rowR_lt fun y hy => by
        rcases List.mem_append.1 hy with hy | hy
        · obtain ⟨x, hx, rfl⟩ := List.mem_map.1 hy
          obtain ⟨q, hq2⟩ := List.getElem?_of_mem hx
          obtain ⟨_, _, h5⟩ := hp.rows q x hq2
          have := h5.b_lt
          have := ho2.len
          simp; omega
        · simp at hy; subst hy; simp; omega))
      exact ⟨⟨i + 1, _, false, T ++ [(hc.length, Q.length, fl2, ids)]⟩, ⟨by show i + 1 ≤ _; omega, hold, by simp [hT], by show N3 _ _ _ _ _ _ ((mxP A C).take (i + 1)); unfold mxP at hsn ⊢; rw [hpi]; exact hsn⟩, by show _ - (i + 1) < _ - i; omega,
        Weak.sym (x := [B.row 57 0 0 false [[V.ref hc.length Q.length 0 Q.length]]]) (by simp) hold.hl (by have := ho2.len; have := ho.len; have := hp.b_lt; simp; omega)⟩
  · obtain rfl : i = A.length := by omega
    have hpe : (mxP A C).take A.length = mxP A C := List.take_of_length_le (by simp [mxP]; omega)
    rw [hpe] at hp
    repeat' (first
 |refine aK fun K hK=>?_|refine Step.by1 ?_|refine sE (by decide) ?_|refine cz rfl ?_|refine Fork.by2 (fun h=>?_) fun h=>?_
 |(refine aR ?_;simp)
 |(refine Split.by2 (fun h=>?_) (fun h=>?_)<;>(simp [h]))
 |(apply hK;clear hK K)|refine AWh ‹_› ?_)
    exact retg1 ⟨h.length, A.length, fl, T, by rw [hT]; rfl, ho, hp⟩ (by simp; exact hp.b_lt) (Go.AM.Leaves.sym ho.len ho.hl)
def lenB (x y : List Int) : Bool := decide (x.length = y.length)
def alikeQ (Q R : List (List Int)) : Bool := eqF lenB Q R
def alikeP (A C : List (List (List Int))) : Bool := eqF alikeQ A C
theorem alikeP_iff {A C : List (List (List Int))} : alikeP A C = true ↔ Shp A C := by
  unfold alikeP
  rw [eqF_iff]
  constructor
  · rintro ⟨h1, h2⟩
    refine ⟨h1, fun i Q R hQ hR => ?_⟩
    have h3 := h2 i Q R hQ hR
    unfold alikeQ at h3
    obtain ⟨h4, h5⟩ := eqF_iff.1 h3
    exact ⟨h4, fun k x y hx hy => of_decide_eq_true (h5 k x y hx hy)⟩
  · rintro ⟨h1, h2⟩
    refine ⟨h1, fun i Q R hQ hR => ?_⟩
    obtain ⟨h4, h5⟩ := h2 i Q R hQ hR
    exact eqF_iff.2 ⟨h4, fun k x y hx hy => decide_eq_true (h5 k x y hx hy)⟩
def leI (u v : Int) : Bool := decide (u ≤ v)
def leR (x y : List Int) : Bool := eqF leI x y
def leQ (Q R : List (List Int)) : Bool := eqF leR Q R
def widerP (A C : List (List (List Int))) : Bool := eqF leQ A C
theorem c_lenB (x y : List Int) : PC 94 [.vec (ivs x) x.length, .vec (ivs y) y.length] (.bool (lenB x y)) := by
  unfold lenB
  refine pB Tryd.func94 rfl (by decide) Tryd.ntmps94 (by simp) Tryd.results94 ?_
  by_cases h : x.length = y.length
  · have h' : (x.length : Int) = y.length := by omega
    repeat' (first
 |refine aK fun K hK=>?_|refine Step.by1 ?_|refine sE (by decide) ?_|refine cz rfl ?_|refine Fork.by2 (fun h=>?_) fun h=>?_
 |(refine aR ?_;simp [h, h'])
 |(refine Split.by2 (fun h=>?_) (fun h=>?_)<;>(simp [h, h, h']))
 |(apply hK;clear hK K)|refine AWh ‹_› ?_)
    exact r1q (cE (by simp [h]) rfl)
  · have h' : ¬ (x.length : Int) = y.length := by omega
    repeat' (first
 |refine aK fun K hK=>?_|refine Step.by1 ?_|refine sE (by decide) ?_|refine cz rfl ?_|refine Fork.by2 (fun h=>?_) fun h=>?_
 |(refine aR ?_;simp [h, h'])
 |(refine Split.by2 (fun h=>?_) (fun h=>?_)<;>(simp [h, h, h']))
 |(apply hK;clear hK K)|refine AWh ‹_› ?_)
    exact r1q (cE (by simp [h]) rfl)
set_option maxHeartbeats 8000000 in
theorem c_eqQ (f : Nat) (p : List Int → List Int → Bool) (l m : List (List Int)) (hf : ∀ a ∈ l, ∀ r ∈ m, PC f [.vec (ivs a) a.length, .vec (ivs r) r.length] (.bool (p a r))) (hll : l.length ≤ 1048576) :
    PC 93 [.vec (rows2V l) l.length, .vec (rows2V m) m.length, .fn (.func f) [] []] (.bool (eqF p l m)) := by
  have ra : (rows2V l).length = l.length := by simp
  have rm : (rows2V m).length = m.length := by simp
  by_cases hlen : l.length = m.length
  · have hlen' : (l.length : Int) = m.length := by omega
    refine pB Tryd.func93 rfl (by decide) Tryd.ntmps93 (by simp) Tryd.results93 ?_
    repeat' (first
 |refine aK fun K hK=>?_|refine Step.by1 ?_|refine sE (by decide) ?_|refine cz rfl ?_|refine Fork.by2 (fun h=>?_) fun h=>?_
 |(refine aR ?_;simp [hlen, hlen'])
 |(refine Split.by2 (fun h=>?_) (fun h=>?_)<;>(simp [h, hlen, hlen']))
 |(apply hK;clear hK K)|refine AWh ‹_› ?_)
    refine aL [1, 2, 15, 16] (fun i : Nat => [(17, .int .i64 i)]) (fun _ => []) (fun i => i ≤ l.length ∧ eqF p (l.drop i) (m.drop i) = eqF p l m) (fun i => l.length - i) 0 ⟨Nat.zero_le _, rfl⟩ (by apply Weak.mk' <;> simp [hlen]) (fun _ _ => rfl) ?_
    rintro i ⟨hi, hk⟩
    by_cases hlt : i < l.length
    · obtain ⟨a, haa⟩ : ∃ a, l[i] = a := ⟨_, rfl⟩
      have hlm : i < m.length := by omega
      obtain ⟨r, hrr⟩ : ∃ r, m[i] = r := ⟨_, rfl⟩
      rw [List.drop_eq_getElem_cons hlt, List.drop_eq_getElem_cons hlm, haa, hrr, eqF] at hk
      have hlt' : (i : Int) < l.length := by omega
      have hlm' : (i : Int) < m.length := by omega
      have w1 : IntKind.i64.wrap ((i : Int) + 1) = i + 1 := wI (by omega) (by omega)
      have ha? : l[i]? = some a := by rw [List.getElem?_eq_getElem hlt, haa]
      have hr? : m[i]? = some r := by rw [List.getElem?_eq_getElem hlm, hrr]
      have a2 := rows2V_get ha?
      have a3 : (rows2V l)[i]'(by omega) = [V.vec (ivs a) a.length] := by rw [List.getElem?_eq_getElem (by omega)] at a2; exact Option.some.inj a2
      have m2 := rows2V_get hr?
      have m3 : (rows2V m)[i]'(by omega) = [V.vec (ivs r) r.length] := by rw [List.getElem?_eq_getElem (by omega)] at m2; exact Option.some.inj m2
      have hc := hf a (haa ▸ List.getElem_mem hlt) r (hrr ▸ List.getElem_mem hlm)
      generalize p a r = q at *
      cases q
      · rw [Bool.false_and] at hk
        repeat' (first
 |refine aK fun K hK=>?_|refine Step.by1 ?_|refine sE (by decide) ?_|refine cz rfl ?_|refine Fork.by2 (fun h=>?_) fun h=>?_
 |(refine aR ?_;simp [hlt, hlt', hlm, hlm', a2, a3, m2, m3, w1, ra, rm, hlen])
 |(refine Split.by2 (fun h=>?_) (fun h=>?_)<;>(simp [h, hlt, hlt', hlm, hlm', a2, a3, m2, m3, w1, ra, rm, hlen]))
 |(refine aC (f := f) rfl rfl hc rfl rfl rfl ?_; simp)
 |(apply hK;clear hK K)|refine AWh ‹_› ?_)
        exact r1q (cE (by simp [← hk]) rfl)
      · rw [Bool.true_and] at hk
        repeat' (first
 |refine aK fun K hK=>?_|refine Step.by1 ?_|refine sE (by decide) ?_|refine cz rfl ?_|refine Fork.by2 (fun h=>?_) fun h=>?_
 |(refine aR ?_;simp [hlt, hlt', hlm, hlm', a2, a3, m2, m3, w1, ra, rm, hlen])
 |(refine Split.by2 (fun h=>?_) (fun h=>?_)<;>(simp [h, hlt, hlt', hlm, hlm', a2, a3, m2, m3, w1, ra, rm, hlen]))
 |(refine aC (f := f) rfl rfl hc rfl rfl rfl ?_; simp)
 |(apply hK;clear hK K)|refine AWh ‹_› ?_)
        refine ⟨i + 1, ⟨by omega, hk⟩, by omega, ?_⟩
        apply Weak.mk' <;> simp [hlen]
    · obtain rfl : i = l.length := by omega
      rw [List.drop_length, hlen, List.drop_length, eqF] at hk
      repeat' (first
 |refine aK fun K hK=>?_|refine Step.by1 ?_|refine sE (by decide) ?_|refine cz rfl ?_|refine Fork.by2 (fun h=>?_) fun h=>?_
 |(refine aR ?_;simp [hlen])
 |(refine Split.by2 (fun h=>?_) (fun h=>?_)<;>(simp [h, hlen]))
 |(apply hK;clear hK K)|refine AWh ‹_› ?_)
      exact r1q (cE (by simp [← hk]) rfl)
  · have hlen' : ¬ (l.length : Int) = m.length := by omega
    rw [eqF_ne hlen]
    refine pB Tryd.func93 rfl (by decide) Tryd.ntmps93 (by simp) Tryd.results93 ?_
    repeat' (first
 |refine aK fun K hK=>?_|refine Step.by1 ?_|refine sE (by decide) ?_|refine cz rfl ?_|refine Fork.by2 (fun h=>?_) fun h=>?_
 |(refine aR ?_;simp [hlen, hlen'])
 |(refine Split.by2 (fun h=>?_) (fun h=>?_)<;>(simp [h, hlen, hlen']))
 |(apply hK;clear hK K)|refine AWh ‹_› ?_)
    exact r1q (cE rfl rfl)
theorem c_alikeQ (Q R : List (List Int)) (hQ : Q.length ≤ 1048576) : PC 92 [.vec (rows2V Q) Q.length, .vec (rows2V R) R.length] (.bool (alikeQ Q R)) := by
  have hc := c_eqQ 94 lenB Q R (fun x _ y _ => c_lenB x y) hQ
  unfold alikeQ
  generalize eqF lenB Q R = b at *
  generalize rows2V Q = X at *
  generalize rows2V R = Y at *
  refine pB Tryd.func92 rfl (by decide) Tryd.ntmps92 (by simp) Tryd.results92 ?_
  repeat' (first
 |refine aK fun K hK=>?_|refine Step.by1 ?_|refine sE (by decide) ?_|refine cz rfl ?_|refine Fork.by2 (fun h=>?_) fun h=>?_
 |((first|refine aR ?_|refine aC (f:=93) rfl rfl (hc) rfl rfl rfl ?_);simp)
 |(refine Split.by2 (fun h=>?_) (fun h=>?_)<;>(simp [h]))
 |(apply hK;clear hK K)|refine AWh ‹_› ?_)
  exact r1q (cE rfl rfl)
set_option maxHeartbeats 8000000 in
theorem c_eqP (f : Nat) (p : List (List Int) → List (List Int) → Bool) (l m : List (List (List Int))) (hf : ∀ a ∈ l, ∀ r ∈ m, PC f [.vec (rows2V a) a.length, .vec (rows2V r) r.length] (.bool (p a r))) (hll : l.length ≤ 1048576) :
    PC 91 [.vec (rows3V l) l.length, .vec (rows3V m) m.length, .fn (.func f) [] []] (.bool (eqF p l m)) := by
  have ra : (rows3V l).length = l.length := by simp
  have rm : (rows3V m).length = m.length := by simp
  by_cases hlen : l.length = m.length
  · have hlen' : (l.length : Int) = m.length := by omega
    refine pB Tryd.func91 rfl (by decide) Tryd.ntmps91 (by simp) Tryd.results91 ?_
    repeat' (first
 |refine aK fun K hK=>?_|refine Step.by1 ?_|refine sE (by decide) ?_|refine cz rfl ?_|refine Fork.by2 (fun h=>?_) fun h=>?_
 |(refine aR ?_;simp [hlen, hlen'])
 |(refine Split.by2 (fun h=>?_) (fun h=>?_)<;>(simp [h, hlen, hlen']))
 |(apply hK;clear hK K)|refine AWh ‹_› ?_)
    refine aL [1, 2, 15, 16] (fun i : Nat => [(17, .int .i64 i)]) (fun _ => []) (fun i => i ≤ l.length ∧ eqF p (l.drop i) (m.drop i) = eqF p l m) (fun i => l.length - i) 0 ⟨Nat.zero_le _, rfl⟩ (by apply Weak.mk' <;> simp [hlen]) (fun _ _ => rfl) ?_
    rintro i ⟨hi, hk⟩
    by_cases hlt : i < l.length
    · obtain ⟨a, haa⟩ : ∃ a, l[i] = a := ⟨_, rfl⟩
      have hlm : i < m.length := by omega
      obtain ⟨r, hrr⟩ : ∃ r, m[i] = r := ⟨_, rfl⟩
      rw [List.drop_eq_getElem_cons hlt, List.drop_eq_getElem_cons hlm, haa, hrr, eqF] at hk
      have hlt' : (i : Int) < l.length := by omega
      have hlm' : (i : Int) < m.length := by omega
      have w1 : IntKind.i64.wrap ((i : Int) + 1) = i + 1 := wI (by omega) (by omega)
      have ha? : l[i]? = some a := by rw [List.getElem?_eq_getElem hlt, haa]
      have hr? : m[i]? = some r := by rw [List.getElem?_eq_getElem hlm, hrr]
      have a2 := rows3V_get ha?
      have a3 : (rows3V l)[i]'(by omega) = [V.vec (rows2V a) a.length] := by rw [List.getElem?_eq_getElem (by omega)] at a2; exact Option.some.inj a2
      have m2 := rows3V_get hr?
      have m3 : (rows3V m)[i]'(by omega) = [V.vec (rows2V r) r.length] := by rw [List.getElem?_eq_getElem (by omega)] at m2; exact Option.some.inj m2
      have hc := hf a (haa ▸ List.getElem_mem hlt) r (hrr ▸ List.getElem_mem hlm)
      generalize p a r = q at *
      cases q
      · rw [Bool.false_and] at hk
        repeat' (first
 |refine aK fun K hK=>?_|refine Step.by1 ?_|refine sE (by decide) ?_|refine cz rfl ?_|refine Fork.by2 (fun h=>?_) fun h=>?_
 |(refine aR ?_;simp [hlt, hlt', hlm, hlm', a2, a3, m2, m3, w1, ra, rm, hlen])
 |(refine Split.by2 (fun h=>?_) (fun h=>?_)<;>(simp [h, hlt, hlt', hlm, hlm', a2, a3, m2, m3, w1, ra, rm, hlen]))
 |(refine aC (f := f) rfl rfl hc rfl rfl rfl ?_; simp)
 |(apply hK;clear hK K)|refine AWh ‹_› ?_)
        exact r1q (cE (by simp [← hk]) rfl)
      · rw [Bool.true_and] at hk
        repeat' (first
 |refine aK fun K hK=>?_|refine Step.by1 ?_|refine sE (by decide) ?_|refine cz rfl ?_|refine Fork.by2 (fun h=>?_) fun h=>?_
 |(refine aR ?_;simp [hlt, hlt', hlm, hlm', a2, a3, m2, m3, w1, ra, rm, hlen])
 |(refine Split.by2 (fun h=>?_) (fun h=>?_)<;>(simp [h, hlt, hlt', hlm, hlm', a2, a3, m2, m3, w1, ra, rm, hlen]))
 |(refine aC (f := f) rfl rfl hc rfl rfl rfl ?_; simp)
 |(apply hK;clear hK K)|refine AWh ‹_› ?_)
        refine ⟨i + 1, ⟨by omega, hk⟩, by omega, ?_⟩
        apply Weak.mk' <;> simp [hlen]
    · obtain rfl : i = l.length := by omega
      rw [List.drop_length, hlen, List.drop_length, eqF] at hk
      repeat' (first
 |refine aK fun K hK=>?_|refine Step.by1 ?_|refine sE (by decide) ?_|refine cz rfl ?_|refine Fork.by2 (fun h=>?_) fun h=>?_
 |(refine aR ?_;simp [hlen])
 |(refine Split.by2 (fun h=>?_) (fun h=>?_)<;>(simp [h, hlen]))
 |(apply hK;clear hK K)|refine AWh ‹_› ?_)
      exact r1q (cE (by simp [← hk]) rfl)
  · have hlen' : ¬ (l.length : Int) = m.length := by omega
    rw [eqF_ne hlen]
    refine pB Tryd.func91 rfl (by decide) Tryd.ntmps91 (by simp) Tryd.results91 ?_
    repeat' (first
 |refine aK fun K hK=>?_|refine Step.by1 ?_|refine sE (by decide) ?_|refine cz rfl ?_|refine Fork.by2 (fun h=>?_) fun h=>?_
 |(refine aR ?_;simp [hlen, hlen'])
 |(refine Split.by2 (fun h=>?_) (fun h=>?_)<;>(simp [h, hlen, hlen']))
 |(apply hK;clear hK K)|refine AWh ‹_› ?_)
    exact r1q (cE rfl rfl)
theorem c_alikeP (A C : List (List (List Int))) (hA : planOk A) : PC 54 [halfV A, halfV C] (.bool (alikeP A C)) := by
  have hc := c_eqP 92 alikeQ A C (fun Q hQ R _ => c_alikeQ Q R (hA.2 Q hQ).1) hA.1
  unfold alikeP halfV
  generalize eqF alikeQ A C = b at *
  generalize rows3V A = X at *
  generalize rows3V C = Y at *
  refine pB Tryd.func54 rfl (by decide) Tryd.ntmps54 (by simp) Tryd.results54 ?_
  repeat' (first
 |refine aK fun K hK=>?_|refine Step.by1 ?_|refine sE (by decide) ?_|refine cz rfl ?_|refine Fork.by2 (fun h=>?_) fun h=>?_
 |((first|refine aR ?_|refine aC (f:=91) rfl rfl (hc) rfl rfl rfl ?_);simp)
 |(refine Split.by2 (fun h=>?_) (fun h=>?_)<;>(simp [h]))
 |(apply hK;clear hK K)|refine AWh ‹_› ?_)
  exact r1q (cE rfl rfl)
set_option maxRecDepth 20000 in
set_option maxHeartbeats 16000000 in
theorem c_widerP (A C : List (List (List Int))) (hA : planOk A) (hs : Shp A C) : PC 60 [halfV A, halfV C] (.bool (widerP A C)) := by
  obtain ⟨res, hres⟩ : ∃ r, widerP A C = r := ⟨_, rfl⟩
  rw [hres]
  unfold widerP at hres
  have hal := hA.1
  have hcl := hs.len
  have ra : (rows3V A).length = A.length := rows3V_len
  have rm : (rows3V C).length = C.length := rows3V_len
  unfold halfV
  refine pB Tryd.func60 rfl (by decide) Tryd.ntmps60 (by simp) Tryd.results60 ?_
  repeat' (first
 |refine aK fun K hK=>?_|refine Step.by1 ?_|refine sE (by decide) ?_|refine cz rfl ?_|refine Fork.by2 (fun h=>?_) fun h=>?_
 |(refine aR ?_;simp [ra, rm])
 |(refine Split.by2 (fun h=>?_) (fun h=>?_)<;>(simp [h, ra, rm]))
 |(apply hK;clear hK K)|refine AWh ‹_› ?_)
  refine aL [1, 11, 12] (fun i : Nat => [(13, .int .i64 i)]) (fun _ => []) (fun i => i ≤ A.length ∧ eqF leQ (A.drop i) (C.drop i) = res) (fun i => A.length - i) 0 ⟨Nat.zero_le _, hres⟩ (by apply Weak.mk' <;> simp) (fun _ _ => rfl) ?_
  clear hres
  rintro i ⟨hi, hk⟩
  by_cases hlt : i < A.length
  · obtain ⟨Q, hQQ⟩ : ∃ Q, A[i] = Q := ⟨_, rfl⟩
    have hlc : i < C.length := by omega
    obtain ⟨R, hRR⟩ : ∃ R, C[i] = R := ⟨_, rfl⟩
    rw [List.drop_eq_getElem_cons hlt, List.drop_eq_getElem_cons hlc, hQQ, hRR, eqF] at hk
    have hlt' : (i : Int) < A.length := by omega
    have hlc' : (i : Int) < C.length := by omega
    have w1 : IntKind.i64.wrap ((i : Int) + 1) = i + 1 := wI (by omega) (by omega)
    have hQ? : A[i]? = some Q := by rw [List.getElem?_eq_getElem hlt, hQQ]
    have hR? : C[i]? = some R := by rw [List.getElem?_eq_getElem hlc, hRR]
    obtain ⟨hqr, hrows⟩ := hs.rows i Q R hQ? hR?
    obtain ⟨hll, hrl⟩ := hA.2 Q (List.mem_of_getElem? hQ?)
    have a2 := rows3V_get hQ?
    have a3 : (rows3V A)[i]'(by omega) = [V.vec (rows2V Q) Q.length] := by rw [List.getElem?_eq_getElem (by omega)] at a2; exact Option.some.inj a2
    have m2 := rows3V_get hR?
    have m3 : (rows3V C)[i]'(by omega) = [V.vec (rows2V R) R.length] := by rw [List.getElem?_eq_getElem (by omega)] at m2; exact Option.some.inj m2
    have rb : (rows2V Q).length = Q.length := rows2V_len
    have rn : (rows2V R).length = R.length := rows2V_len
    generalize hrest : eqF leQ (A.drop (i + 1)) (C.drop (i + 1)) = rest at hk
    unfold leQ at hk
    repeat' (first
 |refine aK fun K hK=>?_|refine Step.by1 ?_|refine sE (by decide) ?_|refine cz rfl ?_|refine Fork.by2 (fun h=>?_) fun h=>?_
 |(refine aR ?_;simp [hlt, hlt', hlc, hlc', a2, a3, m2, m3, ra, rm])
 |(refine Split.by2 (fun h=>?_) (fun h=>?_)<;>(simp [h, hlt, hlt', hlc, hlc', a2, a3, m2, m3, ra, rm]))
 |(apply hK;clear hK K)|refine AWh ‹_› ?_)
    refine aL [1, 5, 11, 12, 13, 18, 19] (fun k : Nat => [(20, .int .i64 k)]) (fun _ => []) (fun k => k ≤ Q.length ∧ (eqF leR (Q.drop k) (R.drop k) && rest) = res) (fun k => Q.length - k) 0 ⟨Nat.zero_le _, hk⟩ (by apply Weak.mk' <;> simp) (fun _ _ => rfl) ?_
    clear hk
    rintro k ⟨hkk, hk⟩
    by_cases hkq : k < Q.length
    · obtain ⟨x, hxx⟩ : ∃ x, Q[k] = x := ⟨_, rfl⟩
      have hkr : k < R.length := by omega
      obtain ⟨y, hyy⟩ : ∃ y, R[k] = y := ⟨_, rfl⟩
      rw [List.drop_eq_getElem_cons hkq, List.drop_eq_getElem_cons hkr, hxx, hyy, eqF] at hk
      have hkq' : (k : Int) < Q.length := by omega
      have hkr' : (k : Int) < R.length := by omega
      have w2 : IntKind.i64.wrap ((k : Int) + 1) = k + 1 := wI (by omega) (by omega)
      have hx? : Q[k]? = some x := by rw [List.getElem?_eq_getElem hkq, hxx]
      have hy? : R[k]? = some y := by rw [List.getElem?_eq_getElem hkr, hyy]
      have hxy := hrows k x y hx? hy?
      have hxl := hrl x (List.mem_of_getElem? hx?)
      have b2 := rows2V_get hx?
      have b3 : (rows2V Q)[k]'(by omega) = [V.vec (ivs x) x.length] := by rw [List.getElem?_eq_getElem (by omega)] at b2; exact Option.some.inj b2
      have n2 := rows2V_get hy?
      have n3 : (rows2V R)[k]'(by omega) = [V.vec (ivs y) y.length] := by rw [List.getElem?_eq_getElem (by omega)] at n2; exact Option.some.inj n2
      have ix : (ivs x).length = x.length := ivs_len
      have iy : (ivs y).length = y.length := ivs_len
      generalize hrest2 : eqF leR (Q.drop (k + 1)) (R.drop (k + 1)) = rest2 at hk
      unfold leR at hk
      repeat' (first
 |refine aK fun K hK=>?_|refine Step.by1 ?_|refine sE (by decide) ?_|refine cz rfl ?_|refine Fork.by2 (fun h=>?_) fun h=>?_
 |(refine aR ?_;simp [hlt, hlt', hlc, hlc', a2, a3, m2, m3, ra, rm, hkq, hkq', hkr, hkr', b2, b3, n2, n3, rb, rn])
 |(refine Split.by2 (fun h=>?_) (fun h=>?_)<;>(simp [h, hlt, hlt', hlc, hlc', a2, a3, m2, m3, ra, rm, hkq, hkq', hkr, hkr', b2, b3, n2, n3, rb, rn]))
 |(apply hK;clear hK K)|refine AWh ‹_› ?_)
      refine aL [1, 5, 7, 11, 12, 13, 18, 19, 20, 25, 26] (fun c : Nat => [(27, .int .i64 c)]) (fun _ => []) (fun c => c ≤ x.length ∧ (eqF leI (x.drop c) (y.drop c) && rest2 && rest) = res) (fun c => x.length - c) 0 ⟨Nat.zero_le _, hk⟩ (by apply Weak.mk' <;> simp) (fun _ _ => rfl) ?_
      clear hk
      rintro c ⟨hcc, hk⟩
      by_cases hcx : c < x.length
      · obtain ⟨u, huu⟩ : ∃ u, x[c] = u := ⟨_, rfl⟩
        have hcy : c < y.length := by omega
        obtain ⟨v, hvv⟩ : ∃ v, y[c] = v := ⟨_, rfl⟩
        rw [List.drop_eq_getElem_cons hcx, List.drop_eq_getElem_cons hcy, huu, hvv, eqF] at hk
        have hcx' : (c : Int) < x.length := by omega
        have hcy' : (c : Int) < y.length := by omega
        have w3 : IntKind.i64.wrap ((c : Int) + 1) = c + 1 := wI (by omega) (by omega)
        have hu? : x[c]? = some u := by rw [List.getElem?_eq_getElem hcx, huu]
        have hv? : y[c]? = some v := by rw [List.getElem?_eq_getElem hcy, hvv]
        have c2 := ivs_get hu?
        have c3 : (ivs x)[c]'(by omega) = [V.int .i64 u] := by rw [List.getElem?_eq_getElem (by omega)] at c2; exact Option.some.inj c2
        have o2 := ivs_get hv?
        have o3 : (ivs y)[c]'(by omega) = [V.int .i64 v] := by rw [List.getElem?_eq_getElem (by omega)] at o2; exact Option.some.inj o2
        unfold leI at hk
        by_cases huv : v < u
        · rw [decide_eq_false (show ¬ u ≤ v by omega)] at hk
          have hk : false = res := by simpa using hk
          repeat' (first
 |refine aK fun K hK=>?_|refine Step.by1 ?_|refine sE (by decide) ?_|refine cz rfl ?_|refine Fork.by2 (fun h=>?_) fun h=>?_
 |(refine aR ?_;simp [hlt, hlt', hlc, hlc', a2, a3, m2, m3, ra, rm, hkq, hkq', hkr, hkr', b2, b3, n2, n3, rb, rn, hcx, hcx', hcy, hcy', c2, c3, o2, o3, ix, iy, huv])
 |(refine Split.by2 (fun h=>?_) (fun h=>?_)<;>(simp [h, hlt, hlt', hlc, hlc', a2, a3, m2, m3, ra, rm, hkq, hkq', hkr, hkr', b2, b3, n2, n3, rb, rn, hcx, hcx', hcy, hcy', c2, c3, o2, o3, ix, iy, huv]))
 |(apply hK;clear hK K)|refine AWh ‹_› ?_)
          exact r1q (cE (by simp [← hk]) rfl)
        · rw [decide_eq_true (show u ≤ v by omega), Bool.true_and] at hk
          repeat' (first
 |refine aK fun K hK=>?_|refine Step.by1 ?_|refine sE (by decide) ?_|refine cz rfl ?_|refine Fork.by2 (fun h=>?_) fun h=>?_
 |(refine aR ?_;simp [hlt, hlt', hlc, hlc', a2, a3, m2, m3, ra, rm, hkq, hkq', hkr, hkr', b2, b3, n2, n3, rb, rn, hcx, hcx', hcy, hcy', c2, c3, o2, o3, ix, iy, huv, w3])
 |(refine Split.by2 (fun h=>?_) (fun h=>?_)<;>(simp [h, hlt, hlt', hlc, hlc', a2, a3, m2, m3, ra, rm, hkq, hkq', hkr, hkr', b2, b3, n2, n3, rb, rn, hcx, hcx', hcy, hcy', c2, c3, o2, o3, ix, iy, huv, w3]))
 |(apply hK;clear hK K)|refine AWh ‹_› ?_)
          refine ⟨c + 1, ⟨by omega, hk⟩, by omega, ?_⟩
          apply Weak.mk' <;> simp
      · obtain rfl : c = x.length := by omega
        rw [List.drop_length, hxy, List.drop_length, eqF, Bool.true_and] at hk
        subst hrest2
        repeat' (first
 |refine aK fun K hK=>?_|refine Step.by1 ?_|refine sE (by decide) ?_|refine cz rfl ?_|refine Fork.by2 (fun h=>?_) fun h=>?_
 |(refine aR ?_;simp [hlt, hlt', hlc, hlc', a2, a3, m2, m3, ra, rm, hkq, hkq', hkr, hkr', b2, b3, n2, n3, rb, rn, w2])
 |(refine Split.by2 (fun h=>?_) (fun h=>?_)<;>(simp [h, hlt, hlt', hlc, hlc', a2, a3, m2, m3, ra, rm, hkq, hkq', hkr, hkr', b2, b3, n2, n3, rb, rn, w2]))
 |(apply hK;clear hK K)|refine AWh ‹_› ?_)
        refine ⟨k + 1, ⟨by omega, hk⟩, by omega, ?_⟩
        apply Weak.mk' <;> simp
    · obtain rfl : k = Q.length := by omega
      rw [List.drop_length, hqr, List.drop_length, eqF, Bool.true_and] at hk
      subst hrest
      repeat' (first
 |refine aK fun K hK=>?_|refine Step.by1 ?_|refine sE (by decide) ?_|refine cz rfl ?_|refine Fork.by2 (fun h=>?_) fun h=>?_
 |(refine aR ?_;simp [hlt, hlt', hlc, hlc', a2, a3, m2, m3, ra, rm, rb, rn, w1])
 |(refine Split.by2 (fun h=>?_) (fun h=>?_)<;>(simp [h, hlt, hlt', hlc, hlc', a2, a3, m2, m3, ra, rm, rb, rn, w1]))
 |(apply hK;clear hK K)|refine AWh ‹_› ?_)
      refine ⟨i + 1, ⟨by omega, hk⟩, by omega, ?_⟩
      apply Weak.mk' <;> simp
  · obtain rfl : i = A.length := by omega
    rw [List.drop_length, hcl, List.drop_length, eqF] at hk
    repeat' (first
 |refine aK fun K hK=>?_|refine Step.by1 ?_|refine sE (by decide) ?_|refine cz rfl ?_|refine Fork.by2 (fun h=>?_) fun h=>?_
 |(refine aR ?_;simp)
 |(refine Split.by2 (fun h=>?_) (fun h=>?_)<;>(simp [h]))
 |(apply hK;clear hK K)|refine AWh ‹_› ?_)
    exact r1q (cE (by simp [← hk]) rfl)
end Go.Proofs.YtgmlimipejcpgaaDoor
end
