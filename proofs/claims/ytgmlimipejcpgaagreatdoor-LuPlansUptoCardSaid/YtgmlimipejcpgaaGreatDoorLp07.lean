/-
  YtgmlimipejcpgaaGreatDoorLp07: steps of the proof of a law of the program: what these texts prove holds under the hypotheses that their theorems name, and no others.
-/
import Derived.Test.YtgmlimipejcpgaaGreatDoorLp06
section
set_option linter.unusedSimpArgs false
set_option linter.unusedVariables false
namespace Go.Proofs.YtgmlimipejcpgaaGreatDoor
open Go Go.AM Fx
set_option maxRecDepth 20000 in
set_option maxHeartbeats 8000000 in
theorem r_RaiseX {h : List B} (hl : HL h) {b1 g1 b2 g2 N : Nat} (hb1 : b1 < h.length) (hb2 : b2 < h.length) (hne : b1 ≠ b2) (l : List GuardD) (s : List Int × List Int) (hll : l.length ≤ 1048576) (h1 : s.1.length = N) (h2 : s.2.length = N) (hN : N ≤ 1048576) (hg : ∀ g ∈ l, okG N g) :
    GCall Tryz.prog GV 161 [.ref b1 g1 0 N, .ref b2 g2 0 N, vl GuardD.cells l] (RH2 h b1 g1 b2 g2 s) (fun v h' => v = .tup [] ∧ h' = RH2 h b1 g1 b2 g2 (raise2 l s)) := by
  have hlen : ∀ t, (RH2 h b1 g1 b2 g2 t).length = h.length := fun t => RH2.len
  have q1 := fun (t : List Int × List Int) => RH2.get1 (h := h) (b1 := b1) (g1 := g1) (b2 := b2) (g2 := g2) (s := t) hb1 hne
  have q2 := fun (t : List Int × List Int) => RH2.get2 (h := h) (b1 := b1) (g1 := g1) (b2 := b2) (g2 := g2) (s := t) hb2
  have t1 := fun (t : List Int × List Int) (c : List Int) => RH2.set1 (h := h) (b1 := b1) (g1 := g1) (b2 := b2) (g2 := g2) (s := t) (c := c) hne
  have t2 := fun (t : List Int × List Int) (c : List Int) => RH2.set2 (h := h) (b1 := b1) (g1 := g1) (b2 := b2) (g2 := g2) (s := t) (c := c)
  have hHL : ∀ t, HL (RH2 h b1 g1 b2 g2 t) := fun t => RH2.hl hl
  generalize RH2 h b1 g1 b2 g2 = R at *
  refine gB1 Tryz.func161 rfl (by decide) Tryz.ntmps161 (by simp) Tryz.results161 ?_
  repeat' (first
 |refine aK fun K hK=>?_|refine Step.by1 ?_|refine sE (by decide) ?_|refine cz rfl ?_|refine Fork.by2 (fun h=>?_) fun h=>?_
 |(refine aR ?_;simp [vl])
 |(refine Split.by2 (fun h=>?_) (fun h=>?_)<;>(simp [h, vl]))
 |(apply hK;clear hK K)|refine AWh ‹_› ?_)
  refine AW_range (r := raise2 l s) l 6 [0, 1, 2] (fun s : List Int × List Int => []) (fun s => R s) (fun i s => s.1.length = N ∧ s.2.length = N) raise2 s
    rfl ⟨h1, h2⟩ (Weak.sym (x := []) (by simp) (hHL s) (by simp [vl, hlen, hb1, hb2])) (fun _ s _ => by simp [hlen]) ?_ ?_
  · rintro i ⟨a, b⟩ x _ hlt hx ⟨ha, hb⟩ hF
    simp only at ha hb
    rw [raise2_cons] at hF
    obtain ⟨g1', g2'⟩ := hg x (hx ▸ List.getElem_mem hlt)
    have hlt' : (i : Int) < l.length := by omega
    have w1 : IntKind.i64.wrap ((i : Int) + 1) = i + 1 := wI (by omega) (by omega)
    have w2 : IntKind.i64.wrap (x.clock - 1) = x.clock - 1 := wI (by omega) (by omega)
    obtain ⟨p, hp⟩ := Int.eq_ofNat_of_zero_le (show 0 ≤ x.clock - 1 by omega)
    have hpn : p < N := by omega
    have hpa : p < a.length := by omega
    have hpb : p < b.length := by omega
    have hpn' : (p : Int) < N := by omega
    have e1 : raise1 lowB a x = if lowB x.cmp = true ∧ a[p] < x.n then a.set p x.n else a := raise1_eq (by omega) hpa
    have e2 : raise1 upB b x = if upB x.cmp = true ∧ b[p] < x.n then b.set p x.n else b := raise1_eq (by omega) hpb
    rw [e1, e2] at hF
    obtain ⟨y, hy⟩ : ∃ y, a[p] = y := ⟨_, rfl⟩
    obtain ⟨z, hz⟩ : ∃ z, b[p] = z := ⟨_, rfl⟩
    rw [hy, hz] at hF
    rw [hp] at w2
    have hc1 := r_Above x
    have hc2 := r_Below x
    have hal : (ivs a).length = N := by simp [ivs, ha]
    have hbl : (ivs b).length = N := by simp [ivs, hb]
    have hap : (ivs a)[p]'(by omega) = [V.int .i64 y] := by simp [ivs, hy]
    have hbp : (ivs b)[p]'(by omega) = [V.int .i64 z] := by simp [ivs, hz]
    have has : ∀ v, (ivs a).set p [V.int .i64 v] = ivs (a.set p v) := fun v => by simp [ivs, List.map_set]
    have hbs : ∀ v, (ivs b).set p [V.int .i64 v] = ivs (b.set p v) := fun v => by simp [ivs, List.map_set]
    simp only [GuardD.cells] at hc1 hc2
    clear e1 e2
    cases hs : upB x.cmp <;> cases ht : lowB x.cmp <;> rw [hs] at hc1 hF <;> rw [ht] at hc2 hF <;> by_cases w3 : y < x.n <;> by_cases w4 : z < x.n <;> simp only [w3, w4, and_true, and_false, true_and, false_and, if_true, if_false, Bool.false_eq_true] at hF
    all_goals
      repeat' (first
 |refine aK fun K hK=>?_|refine Step.by1 ?_|refine sE (by decide) ?_|refine cz rfl ?_|refine Fork.by2 (fun h=>?_) fun h=>?_
 |((first|refine aR ?_|refine aX (id:=4) 17 mixed (by decide) ?_|refine aX (id:=6) 17 mixed (by decide) ?_|refine aP1 (f:=204) rfl rfl (hc1) rfl rfl rfl ?_|refine aP1 (f:=205) rfl rfl (hc2) rfl rfl rfl ?_);simp [vl, GuardD.cells, hlt, hlt', hx, w1, hp, w2, hpn, hpn', hal, hbl, hap, hbp, has, hbs, q1, q2, t1, t2, hlen, w3, w4])
 |(refine Split.by2 (fun h=>?_) (fun h=>?_)<;>(simp [h, vl, GuardD.cells, hlt, hlt', hx, w1, hp, w2, hpn, hpn', hal, hbl, hap, hbp, has, hbs, q1, q2, t1, t2, hlen, w3, w4]))
 |(apply hK;clear hK K)|refine AWh ‹_› ?_)
    all_goals
      exact ⟨_, _, hF, ⟨by simp [ha], by simp [hb]⟩, Weak.sym (x := []) (by simp) (hHL _) (by simp [vl, hlen, hb1, hb2])⟩
  · rintro s ⟨ha, hb⟩ hF
    rw [raise2_nil] at hF
    cases hF
    repeat' (first
 |refine aK fun K hK=>?_|refine Step.by1 ?_|refine sE (by decide) ?_|refine cz rfl ?_|refine Fork.by2 (fun h=>?_) fun h=>?_
 |(refine aR ?_;simp [vl])
 |(refine Split.by2 (fun h=>?_) (fun h=>?_)<;>(simp [h, vl]))
 |(apply hK;clear hK K)|refine AWh ‹_› ?_)
    refine ⟨.inl rfl, _, _, ⟨[], rfl, trivial⟩, ⟨rfl, rfl⟩, rfl, Go.AM.Leaves.sym (by simp [hlen]) (hHL _)⟩
end Go.Proofs.YtgmlimipejcpgaaGreatDoor
end
section
set_option linter.unusedVariables false
set_option linter.unusedSimpArgs false
namespace Go.Proofs.YtgmlimipejcpgaaGreatDoor
open Go Go.AM Fx
theorem N2.snocAt {o b g : Nat} {h h1 : List B} {fl : Bool} {ids : List (Nat × Nat × Nat)} {P : List (List Int)} (p : N2 o h b g fl ids P) (hh : ∀ k, k < h.length → h1[k]? = h[k]?) {k gk len : Nat} {ns : List Int} (hk : h.length ≤ k) (ho : o ≤ k) (hr : h1[k]? = some (.row 3 gk 0 true (ivs ns))) (hns : ns.length = len) :
    N2 o (h1.set b (.row 47 (g + 1) 0 false (ids.map (fun x => [rv x]) ++ [[rv (k, gk, len)]]))) b (g + 1) false (ids ++ [(k, gk, len)]) (P ++ [ns]) := by
  have q := p.mono hh
  have hb := q.b_lt
  have hkb : b ≠ k := by have := p.b_lt; omega
  refine ⟨?_, fun h => (by cases h), by simp [p.len], fun j x hx => ?_, ⟨p.low.1, fun x hx => ?_⟩, ?_⟩
  · rw [List.getElem?_set, if_pos rfl, if_pos hb]; simp
  · by_cases hj : j < ids.length
    · rw [List.getElem?_append_left hj] at hx
      obtain ⟨ms, h4, h5, h6⟩ := q.rows j x hx
      have hne : b ≠ x.1 := fun e => by
        have := q.at0
        rw [e, h6] at this
        simp at this
      exact ⟨ms, by rw [List.getElem?_append_left (by rw [p.len]; exact hj)]; exact h4, h5, by rw [gN hne]; exact h6⟩
    · have hj2 : j = ids.length := by have := (List.getElem?_eq_some_iff.1 hx).1; simp at this; omega
      subst hj2
      simp at hx; subst hx
      exact ⟨ns, by rw [← p.len]; simp, hns, by rw [gN hkb]; exact hr⟩
  · rcases List.mem_append.1 hx with hx | hx
    · exact p.low.2 x hx
    · simp at hx; subst hx; exact ho
  · rw [List.map_append]
    refine List.nodup_append.2 ⟨p.nodup, by simp, fun u hu w hw e => ?_⟩
    obtain ⟨x, hx, rfl⟩ := List.mem_map.1 hu
    simp at hw
    have := p.ids_lt x hx
    omega
theorem N2.set47 {o b g : Nat} {h : List B} {fl : Bool} {ids : List (Nat × Nat × Nat)} {P : List (List Int)} (p : N2 o h b g fl ids P) {k gk fk : Nat} {flk : Bool} {xs : List (List V)} {y : B} (hne : k ≠ b) (hk : h[k]? = some (.row 47 gk fk flk xs)) : N2 o (h.set k y) b g fl ids P :=
  ⟨by rw [gN hne]; exact p.at0, p.flat, p.len, fun j x hx => by
    obtain ⟨ns, h1, h2, h3⟩ := p.rows j x hx
    exact ⟨ns, h1, h2, by rw [gN (fun e => by rw [← e, hk] at h3; simp at h3)]; exact h3⟩, p.low, p.nodup⟩
theorem MR.setne {h : List B} {mr gm N : Nat} {fl : Bool} {ids : List (Nat × Nat)} {m : List (List Int)} (p : MR 47 3 ivs h mr gm fl ids N m h) {k : Nat} {y : B} (hne : k ≠ mr) (hk : ∀ x ∈ ids, k ≠ x.1) (hl : HL (h.set k y)) : MR 47 3 ivs (h.set k y) mr gm fl ids N m (h.set k y) :=
  ⟨p.ne, rfl, hl, by rw [gN hne]; exact p.mr, p.ml, fun i x hx => by
    obtain ⟨r, h1, h2, h3⟩ := p.rows i x hx
    exact ⟨r, h1, h2, by rw [gN (hk x (List.mem_of_getElem? hx))]; exact h3⟩, p.inj, fun _ _ => rfl⟩
/-- Behind i places. -/
structure Q1 (n : NetD) (a : AutoD) (N : Nat) (gs : List (List PartD)) (i : Nat) (hc : List B) (f1 : Bool) (ids1 : List (Nat × Nat × Nat)) (f2 : Bool) (ids2 : List (Nat × Nat × Nat)) : Prop where
  hl : HL hc
  c0 : hc[0]? = some (.var n.cells)
  c1 : hc[1]? = some (.var a.cells)
  l1 : ids1.length = i
  l2 : ids2.length = i
  n1 : ∀ x ∈ ids1, x.2.2 = N
  n2 : ∀ x ∈ ids2, x.2.2 = N
  p1 : N2 0 hc 2 i f1 ids1 ((List.range i).map (luBase a N lowB gs))
  p2 : N2 0 hc 3 i f2 ids2 ((List.range i).map (luBase a N upB gs))
  dj : ∀ x ∈ ids1, ∀ y ∈ ids2, x.1 ≠ y.1
/-- The heap behind a place more. -/
def qH (hc : List B) (i N : Nat) (ids1 ids2 : List (Nat × Nat × Nat)) (R : List B) : List B :=
  (R.set 2 (.row 47 (i + 1) 0 false (ids1.map (fun x => [rv x]) ++ [[rv (hc.length, 0, N)]]))).set 3 (.row 47 (i + 1) 0 false (ids2.map (fun x => [rv x]) ++ [[rv (hc.length + 1, 0, N)]]))
theorem Q1.step {n : NetD} {a : AutoD} {N i : Nat} {gs : List (List PartD)} {hc : List B} {f1 f2 : Bool} {ids1 ids2 : List (Nat × Nat × Nat)} (q : Q1 n a N gs i hc f1 ids1 f2 ids2) {R : List B} (hR : HL R) (hlen : R.length = hc.length + 2) (hold : ∀ k, k < hc.length → R[k]? = hc[k]?)
    (r1 : R[hc.length]? = some (.row 3 0 0 true (ivs (luBase a N lowB gs i)))) (r2 : R[hc.length + 1]? = some (.row 3 0 0 true (ivs (luBase a N upB gs i)))) :
    Q1 n a N gs (i + 1) (qH hc i N ids1 ids2 R) false (ids1 ++ [(hc.length, 0, N)]) false (ids2 ++ [(hc.length + 1, 0, N)]) := by
  have hb3 := q.p2.b_lt
  have s1 := q.p1.snocAt hold (Nat.le_refl _) (Nat.zero_le _) r1 luBase_len
  have e2 := q.p2.mono hold
  have e1 := q.p1.mono hold
  have w2 := e2.set47 (k := 2) (y := .row 47 (i + 1) 0 false (ids1.map (fun x => [rv x]) ++ [[rv (hc.length, 0, N)]])) (by omega) e1.at0
  have hk3 : (R.set 2 (.row 47 (i + 1) 0 false (ids1.map (fun x => [rv x]) ++ [[rv (hc.length, 0, N)]])))[3]? = some (.row 47 i 0 f2 (ids2.map fun x => [rv x])) := by rw [gN (by omega)]; exact e2.at0
  have p1' := s1.set47 (k := 3) (y := .row 47 (i + 1) 0 false (ids2.map (fun x => [rv x]) ++ [[rv (hc.length + 1, 0, N)]])) (by omega) hk3
  have s2 := q.p2.snocAt (h1 := R.set 2 (.row 47 (i + 1) 0 false (ids1.map (fun x => [rv x]) ++ [[rv (hc.length, 0, N)]]))) (k := hc.length + 1) (gk := 0) (ns := luBase a N upB gs i) (len := N)
  have hx1 : ∀ y ∈ ids1.map (fun x => [rv x]) ++ [[rv (hc.length, 0, N)]], V.lts R.length y = true := fun y hy => by
    rcases List.mem_append.1 hy with hy | hy
    · exact refs_lt (fun x hx => by have := q.p1.ids_lt x hx; omega) y hy
    · simp at hy; subst hy; simp [rv]; omega
  have hx2 : ∀ y ∈ ids2.map (fun x => [rv x]) ++ [[rv (hc.length + 1, 0, N)]], V.lts R.length y = true := fun y hy => by
    rcases List.mem_append.1 hy with hy | hy
    · exact refs_lt (fun x hx => by have := q.p2.ids_lt x hx; omega) y hy
    · simp at hy; subst hy; simp [rv]; omega
  unfold qH
  refine ⟨(hR.set (rowR_lt hx1)).set (rowR_lt (by rw [List.length_set]; exact hx2)), ?_, ?_, by simp [q.l1], by simp [q.l2], fun x hx => ?_, fun x hx => ?_, ?_, ?_, fun x hx y hy => ?_⟩
  · rw [gN (by omega), gN (by omega), hold 0 (by omega)]; exact q.c0
  · rw [gN (by omega), gN (by omega), hold 1 (by omega)]; exact q.c1
  · rcases List.mem_append.1 hx with hx | hx
    · exact q.n1 x hx
    · simp at hx; subst hx; rfl
  · rcases List.mem_append.1 hx with hx | hx
    · exact q.n2 x hx
    · simp at hx; subst hx; rfl
  · rw [List.range_succ, List.map_append]; exact p1'
  · rw [List.range_succ, List.map_append]
    have h47 : N2 0 (R.set 2 (.row 47 (i + 1) 0 false (ids1.map (fun x => [rv x]) ++ [[rv (hc.length, 0, N)]]))) 3 i f2 ids2 ((List.range i).map (luBase a N upB gs)) := w2
    have key : N2 0 ((R.set 3 (.row 47 (i + 1) 0 false (ids2.map (fun x => [rv x]) ++ [[rv (hc.length + 1, 0, N)]]))).set 2 (.row 47 (i + 1) 0 false (ids1.map (fun x => [rv x]) ++ [[rv (hc.length, 0, N)]]))) 3 (i + 1) false (ids2 ++ [(hc.length + 1, 0, N)]) ((List.range i).map (luBase a N upB gs) ++ [luBase a N upB gs i]) := by
      have t := q.p2.snocAt hold (k := hc.length + 1) (Nat.le_succ _) (Nat.zero_le _) r2 luBase_len
      exact t.set47 (by omega) (by rw [gN (by omega)]; exact e1.at0)
    rw [List.set_comm _ _ (by omega)] at key
    exact key
  · rcases List.mem_append.1 hx with hx | hx <;> rcases List.mem_append.1 hy with hy | hy
    · exact q.dj x hx y hy
    · simp at hy; subst hy; have := q.p1.ids_lt x hx; simp; omega
    · simp at hx; subst hx; have := q.p2.ids_lt y hy; simp; omega
    · simp at hx hy; subst hx; subst hy; simp
/-- Two rows of rows of numbers. -/
structure W2 (n : NetD) (a : AutoD) (N K L : Nat) (f1 : Bool) (js1 : List (Nat × Nat)) (f2 : Bool) (js2 : List (Nat × Nat)) (m1 m2 : List (List Int)) (hc : List B) : Prop where
  len : hc.length = K
  c0 : hc[0]? = some (.var n.cells)
  c1 : hc[1]? = some (.var a.cells)
  p1 : MR 47 3 ivs hc 2 L f1 js1 N m1 hc
  p2 : MR 47 3 ivs hc 3 L f2 js2 N m2 hc
  dj : ∀ x ∈ js1, ∀ y ∈ js2, x.1 ≠ y.1
section
variable {n : NetD} {a : AutoD} {N K L : Nat} {f1 f2 : Bool} {js1 js2 : List (Nat × Nat)} {m1 m2 : List (List Int)} {hc : List B}
theorem MR.ne_row {mr gm : Nat} {fl : Bool} {ids : List (Nat × Nat)} {m : List (List Int)} (p : MR 47 3 ivs hc mr gm fl ids N m hc) {x : Nat × Nat} (hx : x ∈ ids) {k : Nat} (hk : ∀ xs g, hc[k]? ≠ some (.row 3 g 0 true xs)) : x.1 ≠ k := fun e => by
  obtain ⟨q, hq⟩ := List.getElem?_of_mem hx
  obtain ⟨_, _, _, h3⟩ := p.rows q x hq
  rw [e] at h3
  exact hk _ _ h3
theorem W2.set1 (p : W2 n a N K L f1 js1 f2 js2 m1 m2 hc) {q : Nat} {x : Nat × Nat} (hx : js1[q]? = some x) {r : List Int} (hr : r.length = N) : W2 n a N K L f1 js1 f2 js2 (m1.set q r) m2 (hc.set x.1 (.row 3 x.2 0 true (ivs r))) := by
  have hm := List.mem_of_getElem? hx
  have n0 : x.1 ≠ 0 := p.p1.ne_row hm (fun xs g => by rw [p.c0]; simp)
  have n1 : x.1 ≠ 1 := p.p1.ne_row hm (fun xs g => by rw [p.c1]; simp)
  have n3 : x.1 ≠ 3 := p.p1.ne_row hm (fun xs g => by rw [p.p2.mr]; simp)
  exact ⟨by rw [List.length_set]; exact p.len, by rw [gN n0]; exact p.c0, by rw [gN n1]; exact p.c1, (p.p1.upd hx hr).baseI, p.p2.setne n3 (fun y hy => p.dj x hm y hy) (p.p1.hl.set rowF_lt), p.dj⟩
theorem W2.set2 (p : W2 n a N K L f1 js1 f2 js2 m1 m2 hc) {q : Nat} {x : Nat × Nat} (hx : js2[q]? = some x) {r : List Int} (hr : r.length = N) : W2 n a N K L f1 js1 f2 js2 m1 (m2.set q r) (hc.set x.1 (.row 3 x.2 0 true (ivs r))) := by
  have hm := List.mem_of_getElem? hx
  have n0 : x.1 ≠ 0 := p.p2.ne_row hm (fun xs g => by rw [p.c0]; simp)
  have n1 : x.1 ≠ 1 := p.p2.ne_row hm (fun xs g => by rw [p.c1]; simp)
  have n2 : x.1 ≠ 2 := p.p2.ne_row hm (fun xs g => by rw [p.p1.mr]; simp)
  exact ⟨by rw [List.length_set]; exact p.len, by rw [gN n0]; exact p.c0, by rw [gN n1]; exact p.c1, p.p1.setne n2 (fun y hy => (p.dj y hy x hm).symm) (p.p2.hl.set rowF_lt), (p.p2.upd hx hr).baseI, p.dj⟩
end
theorem Q1.w2 {n : NetD} {a : AutoD} {N : Nat} {gs : List (List PartD)} {hc : List B} {f1 f2 : Bool} {ids1 ids2 : List (Nat × Nat × Nat)} {L : Nat} (q : Q1 n a N gs L hc f1 ids1 f2 ids2) :
    W2 n a N hc.length L f1 (ids1.map fun x => (x.1, x.2.1)) f2 (ids2.map fun x => (x.1, x.2.1)) ((List.range L).map (luBase a N lowB gs)) ((List.range L).map (luBase a N upB gs)) hc :=
  ⟨rfl, q.c0, q.c1, q.p1.toMR q.hl q.n1, q.p2.toMR q.hl q.n2, fun x hx y hy => by
    obtain ⟨u, hu, rfl⟩ := List.mem_map.1 hx
    obtain ⟨v, hv, rfl⟩ := List.mem_map.1 hy
    exact q.dj u hu v hv⟩
end Go.Proofs.YtgmlimipejcpgaaGreatDoor
end
