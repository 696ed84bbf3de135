/-
  YtgmlimipejcpgaaDoorLo12: steps of the proof of a law of the program: what these texts prove holds under the hypotheses that their theorems name, and no others.
-/
import Derived.Test.YtgmlimipejcpgaaDoorLo11
section
set_option linter.unusedSimpArgs false
set_option linter.unusedVariables false
namespace Go.Proofs.YtgmlimipejcpgaaDoor
open Go Go.AM Fx
def inB (b : Nat) (T : Rows3) (k : Nat) : Prop := k = b ∨ (∃ y ∈ T, y.1 = k) ∨ ∃ x ∈ ids3 T, x.1 = k
theorem N3.in_lt {o b g fl} {h : List B} {T : Rows3} {P : List (List (List Int))} (q : N3 o h b g fl T P) {k : Nat} (hk : inB b T k) : k < h.length := by
  rcases hk with rfl | ⟨y, hy, rfl⟩ | ⟨x, hx, rfl⟩
  · exact q.b_lt
  · exact q.hi_row.1 y hy
  · exact q.hi_row.2 x hx
theorem N3.in_ge {o b g fl} {h : List B} {T : Rows3} {P : List (List (List Int))} (q : N3 o h b g fl T P) {k : Nat} (hk : inB b T k) : o ≤ k := by
  rcases hk with rfl | ⟨y, hy, rfl⟩ | ⟨x, hx, rfl⟩
  · exact q.low
  · exact q.low_row.1 y hy
  · exact q.low_row.2 x hx
theorem N3.on {o b g fl} {h h' : List B} {T : Rows3} {P : List (List (List Int))} (q : N3 o h b g fl T P) (hh : ∀ k, inB b T k → h'[k]? = h[k]?) : N3 o h' b g fl T P := by
  refine ⟨by rw [hh _ (.inl rfl)]; exact q.at0, q.flat, q.len, fun i y hy => ?_, q.low, q.nodup⟩
  obtain ⟨Q, h1, h2⟩ := q.rows i y hy
  have hm := List.mem_of_getElem? hy
  refine ⟨Q, h1, ⟨by rw [hh _ (.inr (.inl ⟨y, hm, rfl⟩))]; exact h2.at0, h2.flat, h2.len, fun j x hx => ?_, h2.low, h2.nodup⟩⟩
  obtain ⟨ns, t1, t2, t3⟩ := h2.rows j x hx
  exact ⟨ns, t1, t2, by rw [hh _ (.inr (.inr ⟨x, List.mem_flatMap.2 ⟨y, hm, List.mem_of_getElem? hx⟩, rfl⟩))]; exact t3⟩
theorem N3.not_var {o b g fl} {h : List B} {T : Rows3} {P : List (List (List Int))} (q : N3 o h b g fl T P) {k : Nat} {cs : List V} (hk : h[k]? = some (.var cs)) : ¬ inB b T k := by
  rintro (rfl | ⟨y, hy, rfl⟩ | ⟨x, hx, rfl⟩)
  · have := q.at0; rw [hk] at this; cases this
  · obtain ⟨i, hi⟩ := List.getElem?_of_mem hy
    obtain ⟨R, _, hN⟩ := q.rows i y hi
    have := hN.at0; rw [hk] at this; cases this
  · obtain ⟨ns, R, _, _, hr, _⟩ := q.mem_row hx
    rw [hk] at hr; cases hr
theorem not_in {b : Nat} {T : Rows3} {k : Nat} (h : ¬ inB b T k) : k ≠ b ∧ (∀ y ∈ T, y.1 ≠ k) ∧ ∀ x ∈ ids3 T, x.1 ≠ k :=
  ⟨fun e => h (.inl e), fun y hy e => h (.inr (.inl ⟨y, hy, e⟩)), fun x hx e => h (.inr (.inr ⟨x, hx, e⟩))⟩
/-- Two halves of one's own in a variable. -/
structure Two (o : Nat) (h : List B) (bx : Nat) (A C : List (List (List Int))) : Prop where
  hl : HL h
  ex : ∃ b1 g1 f1 T1 b2 g2 f2 T2, h[bx]? = some (.var [.ref b1 g1 0 T1.length, .ref b2 g2 0 T2.length]) ∧ N3 o h b1 g1 f1 T1 A ∧ N3 o h b2 g2 f2 T2 C ∧ ∀ k, inB b1 T1 k → ¬ inB b2 T2 k
theorem Two.mk' {o bx b1 g1 b2 g2 : Nat} {h : List B} {f1 f2 : Bool} {T1 T2 : Rows3} {A C : List (List (List Int))} {cs : List V} (hl : HL h) (hv : h[bx]? = some (.var cs)) (p1 : N3 o h b1 g1 f1 T1 A) (p2 : N3 o h b2 g2 f2 T2 C) (hd : ∀ k, inB b1 T1 k → ¬ inB b2 T2 k) :
    Two o (h.set bx (.var [.ref b1 g1 0 T1.length, .ref b2 g2 0 T2.length])) bx A C :=
  ⟨hl.set (by have := p1.b_lt; have := p2.b_lt; simp; omega), b1, g1, f1, T1, b2, g2, f2, T2, get_set_eq hv, p1.setne hv, p2.setne hv, hd⟩
theorem nodup_two {o b1 g1 b2 g2 : Nat} {h : List B} {f1 f2 : Bool} {T1 T2 : Rows3} {A C : List (List (List Int))} (p1 : N3 o h b1 g1 f1 T1 A) (p2 : N3 o h b2 g2 f2 T2 C) (hd : ∀ k, inB b1 T1 k → ¬ inB b2 T2 k) : (idsR T1 ++ idsR T2).Nodup :=
  List.nodup_append.2 ⟨p1.nodup, p2.nodup, fun u hu w hw e => by
    obtain ⟨x, hx, rfl⟩ := List.mem_map.1 hu
    obtain ⟨z, hz, rfl⟩ := List.mem_map.1 hw
    exact hd x.1 (.inr (.inr ⟨x, hx, rfl⟩)) (.inr (.inr ⟨z, hz, e.symm⟩))⟩
set_option maxRecDepth 20000 in
set_option maxHeartbeats 16000000 in
theorem c_JoinBad (a : PlanD) (ha : a.ok) (l : List PlanD) (hl : okPlans l) (he : anyL (unlike a) l = true) : PC 18 [.agg a.cells, vl PlanD.cells l] (.tup [.agg [.nils, .nils], .int .i64 6]) := by
  have hll := hl.1
  have hc1 := fun b : PlanD => c_alikeP a.lo b.lo ha.1
  have hc2 := fun b : PlanD => c_alikeP a.up b.up ha.2
  refine pB Tryd.func18 rfl (by decide) Tryd.ntmps18 (by simp) Tryd.results18 ?_
  simp only [PlanD.cells, halfV] at hc1 hc2 ⊢
  repeat' (first
 |refine aK fun K hK=>?_|refine Step.by1 ?_|refine sE (by decide) ?_|refine cz rfl ?_|refine Fork.by2 (fun h=>?_) fun h=>?_
 |(refine aR ?_;simp [vl])
 |(refine Split.by2 (fun h=>?_) (fun h=>?_)<;>(simp [h, vl]))
 |(apply hK;clear hK K)|refine AWh ‹_› ?_)
  refine aL [1, 2, 4, 11, 12] (fun i : Nat => [(13, .int .i64 i)]) (fun _ => [.var a.cells, .var [.nils, .nils]]) (fun i => i ≤ l.length ∧ anyL (unlike a) (l.drop i) = true) (fun i => l.length - i) 0 ⟨Nat.zero_le _, he⟩ (by apply Weak.mk' <;> simp [vl, PlanD.cells, halfV]) (fun _ _ => rfl) ?_
  clear he
  rintro i ⟨hi, hk⟩
  by_cases hlt : i < l.length
  · obtain ⟨b, hbb⟩ : ∃ b, l[i] = b := ⟨_, rfl⟩
    rw [List.drop_eq_getElem_cons hlt, hbb, anC] at hk
    have hlt' : (i : Int) < l.length := by omega
    have w1 : IntKind.i64.wrap ((i : Int) + 1) = i + 1 := wI (by omega) (by omega)
    have d1 := hc1 b
    have d2 := hc2 b
    clear hc1 hc2
    rw [show unlike a b = !(alikeP a.lo b.lo && alikeP a.up b.up) from rfl] at hk
    generalize alikeP a.lo b.lo = q1 at *
    generalize alikeP a.up b.up = q2 at *
    cases q1
    · repeat' (first
 |refine aK fun K hK=>?_|refine Step.by1 ?_|refine sE (by decide) ?_|refine cz rfl ?_|refine Fork.by2 (fun h=>?_) fun h=>?_
 |((first|refine aR ?_|refine aC (f:=54) rfl rfl (d1) rfl rfl rfl ?_);simp [vl, PlanD.cells, halfV, hlt, hlt', hbb])
 |(refine Split.by2 (fun h=>?_) (fun h=>?_)<;>(simp [h, vl, PlanD.cells, halfV, hlt, hlt', hbb]))
 |(apply hK;clear hK K)|refine AWh ‹_› ?_)
      exact retq2ct rfl (by simp) (cE (by simp) (by simp))
    · cases q2
      · repeat' (first
 |refine aK fun K hK=>?_|refine Step.by1 ?_|refine sE (by decide) ?_|refine cz rfl ?_|refine Fork.by2 (fun h=>?_) fun h=>?_
 |((first|refine aR ?_|refine aC (f:=54) rfl rfl (d1) rfl rfl rfl ?_|refine aC (f:=54) rfl rfl (d2) rfl rfl rfl ?_);simp [vl, PlanD.cells, halfV, hlt, hlt', hbb])
 |(refine Split.by2 (fun h=>?_) (fun h=>?_)<;>(simp [h, vl, PlanD.cells, halfV, hlt, hlt', hbb]))
 |(apply hK;clear hK K)|refine AWh ‹_› ?_)
        exact retq2ct rfl (by simp) (cE (by simp) (by simp))
      · have hk : anyL (unlike a) (l.drop (i + 1)) = true := by simpa using hk
        repeat' (first
 |refine aK fun K hK=>?_|refine Step.by1 ?_|refine sE (by decide) ?_|refine cz rfl ?_|refine Fork.by2 (fun h=>?_) fun h=>?_
 |((first|refine aR ?_|refine aC (f:=54) rfl rfl (d1) rfl rfl rfl ?_|refine aC (f:=54) rfl rfl (d2) rfl rfl rfl ?_);simp [vl, PlanD.cells, halfV, hlt, hlt', hbb, w1])
 |(refine Split.by2 (fun h=>?_) (fun h=>?_)<;>(simp [h, vl, PlanD.cells, halfV, hlt, hlt', hbb, w1]))
 |(apply hK;clear hK K)|refine AWh ‹_› ?_)
        refine ⟨i + 1, ⟨by omega, hk⟩, by omega, ?_⟩
        apply Weak.mk' <;> simp [vl, PlanD.cells, halfV]
  · obtain rfl : i = l.length := by omega
    rw [List.drop_length, anyL_nil] at hk; cases hk
structure JS where
  i : Nat
  hc : List B
set_option maxRecDepth 20000 in
set_option maxHeartbeats 16000000 in
theorem g_Join (a : PlanD) (ha : a.ok) (l : List PlanD) (hl : okPlans l) (he : anyL (unlike a) l = false) {h : List B} (hh : HL h) :
    GCall Tryd.prog GV 18 [.agg a.cells, vl PlanD.cells l] h (fun v h' => ∃ b1 g1 f1 T1 b2 g2 f2 T2, v = .tup [.agg [.ref b1 g1 0 T1.length, .ref b2 g2 0 T2.length], .int .i64 0] ∧ Old h h' ∧ N3 h.length h' b1 g1 f1 T1 (joinH a.lo (l.map (·.lo))) ∧ N3 h.length h' b2 g2 f2 T2 (joinH a.up (l.map (·.up))) ∧ (idsR T1 ++ idsR T2).Nodup) := by
  have hll := hl.1
  have hsh : ∀ b ∈ l, Shp a.lo b.lo ∧ Shp a.up b.up := fun b hb => unlike_no (by
    cases hq : unlike a b
    · rfl
    · have : anyL (unlike a) l = true := List.any_eq_true.2 ⟨b, hb, hq⟩
      rw [he] at this; cases this)
  have hc1 := fun b : PlanD => c_alikeP a.lo b.lo ha.1
  have hc2 := fun b : PlanD => c_alikeP a.up b.up ha.2
  have g0 := fun x : List B => ga0 (h := h) (x := x) rfl
  have g1 := fun (x : List B) (k : Nat) => ga1 (h := h) (x := x) (k := k) rfl
  have hH2 : HL (h ++ [B.var a.cells, B.var [.nils, .nils]]) := hh.app (by simp [PlanD.cells, halfV])
  simp only [halfV] at hc1 hc2
  refine gB1 Tryd.func18 rfl (by decide) Tryd.ntmps18 (by simp) Tryd.results18 ?_
  repeat' (first
 |refine aK fun K hK=>?_|refine Step.by1 ?_|refine sE (by decide) ?_|refine cz rfl ?_|refine Fork.by2 (fun h=>?_) fun h=>?_
 |(refine aR ?_;simp [vl, PlanD.cells, halfV, g0, g1])
 |(refine Split.by2 (fun h=>?_) (fun h=>?_)<;>(simp [h, vl, PlanD.cells, halfV, g0, g1]))
 |(apply hK;clear hK K)|refine AWh ‹_› ?_)
  refine aL [1, 2, 4, 11, 12] (fun i : Nat => [(13, .int .i64 i)]) (fun _ => h ++ [B.var a.cells, B.var [.nils, .nils]]) (fun i => i ≤ l.length) (fun i => l.length - i) 0 (Nat.zero_le _) (Weak.sym (x := []) (by simp [PlanD.cells, halfV]) hH2 (by simp [vl])) (fun _ _ => by simp) ?_
  intro i hi
  by_cases hlt : i < l.length
  · obtain ⟨b, hbb⟩ : ∃ b, l[i] = b := ⟨_, rfl⟩
    have hlt' : (i : Int) < l.length := by omega
    have w1 : IntKind.i64.wrap ((i : Int) + 1) = i + 1 := wI (by omega) (by omega)
    have d1 := hc1 b
    have d2 := hc2 b
    obtain ⟨s1, s2⟩ := hsh b (hbb ▸ List.getElem_mem hlt)
    rw [alikeP_iff.2 s1] at d1
    rw [alikeP_iff.2 s2] at d2
    clear hc1 hc2
    repeat' (first
 |refine aK fun K hK=>?_|refine Step.by1 ?_|refine sE (by decide) ?_|refine cz rfl ?_|refine Fork.by2 (fun h=>?_) fun h=>?_
 |((first|refine aR ?_|refine aC (f:=54) rfl rfl (d1) rfl rfl rfl ?_|refine aC (f:=54) rfl rfl (d2) rfl rfl rfl ?_);simp [vl, PlanD.cells, halfV, hlt, hlt', hbb, w1, g0, g1])
 |(refine Split.by2 (fun h=>?_) (fun h=>?_)<;>(simp [h, vl, PlanD.cells, halfV, hlt, hlt', hbb, w1, g0, g1]))
 |(apply hK;clear hK K)|refine AWh ‹_› ?_)
    exact ⟨i + 1, by omega, by omega, Weak.sym (x := [B.var b.cells]) (by simp [PlanD.cells, halfV]) hH2 (by simp [vl])⟩
  · obtain rfl : i = l.length := by omega
    clear hc1 hc2
    repeat' (first
 |refine aK fun K hK=>?_|refine Step.by1 ?_|refine sE (by decide) ?_|refine cz rfl ?_|refine Fork.by2 (fun h=>?_) fun h=>?_
 |(refine aR ?_;simp [vl])
 |(refine Split.by2 (fun h=>?_) (fun h=>?_)<;>(simp [h, vl]))
 |(apply hK;clear hK K)|refine AWh ‹_› ?_)
    have hrest : ∀ (s : St) (bx : Nat), s.n = 63 → lk s.tm 1 = vl PlanD.cells l → lk s.tm 4 = .ptr (h.length + 1) 0 → lk s.tm 8 = .ptr bx 0 → h.length + 2 ≤ bx → Old (h ++ [B.var a.cells, B.var [.nils, .nils]]) s.h → Two (h.length + 2) s.h bx (joinH a.lo []) (joinH a.up []) → K s := by
      rintro ⟨sn, tm, H⟩ bx hsn t1 t4 t8 hbx hO hT
      refine hK _ ?_
      simp only at hsn t1 t4 t8 hO hT
      subst hsn
      clear hK K
      have hxb := (List.getElem?_eq_some_iff.1 hT.ex.choose_spec.choose_spec.choose_spec.choose_spec.choose_spec.choose_spec.choose_spec.choose_spec.1).1
      simp only [vl] at t1
      repeat' (first
 |refine aK fun K hK=>?_|refine Step.by1 ?_|refine sE (by decide) ?_|refine cz rfl ?_|refine Fork.by2 (fun h=>?_) fun h=>?_
 |(refine aR ?_;simp [t1, t4, t8])
 |(refine Split.by2 (fun h=>?_) (fun h=>?_)<;>(simp [h, t1, t4, t8]))
 |(apply hK;clear hK K)|refine AWh ‹_› ?_)
      refine AW_loopGL [4, 8, 44, 45] (fun s : JS => [(46, .int .i64 s.i)]) (fun s => s.hc) (fun s => s.i ≤ l.length ∧ H.length ≤ s.hc.length ∧ Old (h ++ [B.var a.cells, B.var [.nils, .nils]]) s.hc ∧ Two (h.length + 2) s.hc bx (joinH a.lo ((l.take s.i).map (·.lo))) (joinH a.up ((l.take s.i).map (·.up)))) (fun s => l.length - s.i) ⟨0, H⟩
        ⟨Nat.zero_le _, Nat.le_refl _, hO, hT⟩ (Weak.sym (x := []) (by simp) hO.hl (by have := hO.len; simp at this; simp [t4, t8, vl]; omega)) (fun s hs => by simpa using hs.2.1) ?_
      rintro ⟨i, hc⟩ ⟨hi, hHl, ho, h2⟩
      simp only at hi hHl ho h2
      by_cases hlt : i < l.length
      · obtain ⟨b, hbb⟩ : ∃ b, l[i] = b := ⟨_, rfl⟩
        have hb? : l[i]? = some b := by rw [List.getElem?_eq_getElem hlt, hbb]
        have hlt' : (i : Int) < l.length := by omega
        have w1 : IntKind.i64.wrap ((i : Int) + 1) = i + 1 := wI (by omega) (by omega)
        obtain ⟨s1, s2⟩ := hsh b (List.mem_of_getElem? hb?)
        have k1 : Shp (joinH a.lo ((l.take i).map (·.lo))) b.lo := joinH_shp s1 fun C hC => by obtain ⟨z, hz, rfl⟩ := List.mem_map.1 hC; exact (hsh z (List.mem_of_mem_take hz)).1
        have k2 : Shp (joinH a.up ((l.take i).map (·.up))) b.up := joinH_shp s2 fun C hC => by obtain ⟨z, hz, rfl⟩ := List.mem_map.1 hC; exact (hsh z (List.mem_of_mem_take hz)).2
        have o1 : planOk (joinH a.lo ((l.take i).map (·.lo))) := joinH_ok ha.1
        have o2 : planOk (joinH a.up ((l.take i).map (·.up))) := joinH_ok ha.2
        have n1 : joinH a.lo ((l.take (i + 1)).map (·.lo)) = mxP (joinH a.lo ((l.take i).map (·.lo))) b.lo := by rw [take_map_snoc (f := fun p : PlanD => p.lo) hb?, joinH_snoc]
        have n2 : joinH a.up ((l.take (i + 1)).map (·.up)) = mxP (joinH a.up ((l.take i).map (·.up))) b.up := by rw [take_map_snoc (f := fun p : PlanD => p.up) hb?, joinH_snoc]
        generalize joinH a.lo ((l.take i).map (·.lo)) = X1 at *
        generalize joinH a.up ((l.take i).map (·.up)) = X2 at *
        obtain ⟨b1, e1, f1, T1, b2, e2, f2, T2, hv, p1, p2, hdj⟩ := h2.ex
        have hvl := (List.getElem?_eq_some_iff.1 hv).1
        have hcl : HL hc := h2.hl
        have hap : ∀ (x : List B) k, k < hc.length → (hc ++ x)[k]? = hc[k]? := fun x k hk => List.getElem?_append_left hk
        repeat' (first
 |refine aK fun K hK=>?_|refine Step.by1 ?_|refine sE (by decide) ?_|refine cz rfl ?_|refine Fork.by2 (fun h=>?_) fun h=>?_
 |(refine aR ?_;simp [hlt, hlt', hbb, vl])
 |(refine Split.by2 (fun h=>?_) (fun h=>?_)<;>(simp [h, hlt, hlt', hbb, vl]))
 |(apply hK;clear hK K)|refine AWh ‹_› ?_)
        have hx0 : HL (hc ++ [B.var b.cells]) := hcl.push (by simp [PlanD.cells, halfV])
        have q1 := p1.mono (h' := hc ++ [B.var b.cells]) (hap _)
        have q2 := p2.mono (h' := hc ++ [B.var b.cells]) (hap _)
        have hv0 : (hc ++ [B.var b.cells])[bx]? = some (B.var [.ref b1 e1 0 T1.length, .ref b2 e2 0 T2.length]) := by rw [hap _ _ hvl]; exact hv
        refine AW_freezeCell (b0 := bx) (j := 0) hx0 hv0 rfl q1 fun hd hdl hdn hd0 hd1 => ?_
        have q3 := q2.on (h' := hd) fun k hk => by
          have h3 := not_in fun hk1 => hdj k hk1 hk
          exact hd1 k (fun e => q2.not_var hv0 (e ▸ hk)) h3.1 h3.2.1 h3.2.2
        refine AW_freezeCell (st := ⟨_, _, hd⟩) (b0 := bx) (j := 1) hdl hd0 rfl q3 fun hf hfl hfn hf0 hf1 => ?_
        have hf0 : hf[bx]? = some (B.var [halfV X1, halfV X2]) := hf0
        have hol : h.length + 2 ≤ hc.length := by have := ho.len; simpa using this
        have hfl2 : hf.length = hc.length + 1 := by rw [hfn]; show hd.length = _; rw [hdn]; simp
        have nb1 : ∀ k, (hc ++ [B.var b.cells])[k]? = some (B.var b.cells) → k ≠ bx → hf[k]? = some (B.var b.cells) := fun k hk hne => by
          have h3 := not_in (q1.not_var hk)
          have h4 := not_in (q2.not_var hk)
          rw [hf1 k hne h4.1 h4.2.1 h4.2.2, hd1 k hne h3.1 h3.2.1 h3.2.2]; exact hk
        have hbc := nb1 hc.length (by simp) (by omega)
        have hof : Old (h ++ [B.var a.cells, B.var [.nils, .nils]]) hf := ⟨hfl, by simp; omega, fun k hk => by
          have hk2 : k < h.length + 2 := by simpa using hk
          have hkc : k < hc.length := by omega
          have h3 := not_in (b := b1) (T := T1) (k := k) fun hk1 => by have := q1.in_ge hk1; omega
          have h4 := not_in (b := b2) (T := T2) (k := k) fun hk1 => by have := q2.in_ge hk1; omega
          rw [hf1 k (by omega) h4.1 h4.2.1 h4.2.2, hd1 k (by omega) h3.1 h3.2.1 h3.2.2, hap _ k hkc]; exact ho.old k hk⟩
        clear hd1 hd0 hdl hf1 nb1
        refine AW_region_chain 11 12 [0, 1, 2, 3, 5, 6, 7, 8] (fun H => H[bx]? = some (B.var [halfV X1, halfV X2]) ∧ H[hc.length]? = some (B.var b.cells)) mixed (by decide) (by decide) rfl ⟨hf0, hbc⟩ ?_
        simp only [List.take_succ_cons, List.take_zero]
        refine PX_op (v := .ptr bx 0) rfl rfl rfl rfl (fun H hs => by simp [t8]) ?_
        refine PX_op (v := halfV X1) rfl rfl rfl rfl (fun H hs => by simp [hs.1]) ?_
        refine PX_op (v := .ptr hc.length 0) rfl rfl rfl rfl (fun H hs => by simp) ?_
        refine PX_op (v := halfV b.lo) rfl rfl rfl rfl (fun H hs => by simp [hs.2, PlanD.cells]) ?_
        refine PX_skip rfl ?_
        refine PX_op (v := .ptr bx 1) rfl rfl rfl rfl (fun H hs => by simp [t8]) ?_
        refine PX_op (v := halfV X2) rfl rfl rfl rfl (fun H hs => by simp [hs.1]) ?_
        refine PX_op (v := .ptr hc.length 1) rfl rfl rfl rfl (fun H hs => by simp) ?_
        refine PX_op (v := halfV b.up) rfl rfl rfl rfl (fun H hs => by simp [hs.2, PlanD.cells]) ?_
        refine PX_skip rfl ?_
        refine PX_skip rfl ?_
        refine PX_nil ?_
        refine Ch_1 4 (by decide) (by decide) ?_
        refine ChS_callG (f := 55) rfl rfl rfl rfl (g_greatest X1 b.lo o1 k1 hfl) (fun v h3 hq => ?_)
        obtain ⟨c1, d1, fl1, S1, rfl, ho3, r1⟩ := hq
        have ho3 : Old hf h3 := ho3
        have r1 : N3 hf.length h3 c1 d1 fl1 S1 (mxP X1 b.lo) := r1
        have hlt3 := ho3.len
        refine ⟨⟨ho3.get hf0, ho3.get hbc⟩, ?_⟩
        refine Ch_1 9 (by decide) (by decide) ?_
        refine ChS_callG (f := 55) rfl rfl rfl rfl (g_greatest X2 b.up o2 k2 ho3.hl) (fun v h4 hq => ?_)
        obtain ⟨c2, d2, fl2, S2, rfl, ho4, r2⟩ := hq
        have ho4 : Old h3 h4 := ho4
        have r2 : N3 h3.length h4 c2 d2 fl2 S2 (mxP X2 b.up) := r2
        have hlt4 := ho4.len
        have hbx4 := ho4.get (ho3.get hf0)
        refine ⟨⟨hbx4, ho4.get (ho3.get hbc)⟩, ?_⟩
        refine Ch_1 10 (by decide) (by decide) ?_
        refine cS1 rfl rfl rfl rfl (by simp) ⟨hbx4, ho4.get (ho3.get hbc)⟩ ?_
        simp
        refine Ch_end (by decide) ?_
        refine AS_of_AO ?_
        simp [hbx4, t8]
        have r1' := (r1.mono ho4.old).low' (o' := h.length + 2) (by omega)
        have r2' := r2.low' (o' := h.length + 2) (by omega)
        have hTw := Two.mk' ho4.hl hbx4 r1' r2' fun k hk1 hk2 => by
          have := r1.in_lt hk1
          have := r2.in_ge hk2
          omega
        have hO5 := ((hof.trans ho3).trans ho4).set (b := bx) (y := B.var [.ref c1 d1 0 S1.length, .ref c2 d2 0 S2.length]) (by simp; omega) hTw.hl
        rw [← n1, ← n2, List.map_take, List.map_take] at hTw
        repeat' (first
 |refine aK fun K hK=>?_|refine Step.by1 ?_|refine sE (by decide) ?_|refine cz rfl ?_|refine Fork.by2 (fun h=>?_) fun h=>?_
 |(refine aR ?_;simp [w1])
 |(refine Split.by2 (fun h=>?_) (fun h=>?_)<;>(simp [h, w1]))
 |(apply hK;clear hK K)|refine AWh ‹_› ?_)
        exact ⟨⟨i + 1, _⟩, ⟨by show i + 1 ≤ _; omega, by simp; omega, hO5, hTw⟩, by show _ - (i + 1) < _ - i; omega, Weak.sym (x := []) (by simp) hTw.hl (by simp [vl, t4, t8]; omega)⟩
      · obtain rfl : i = l.length := by omega
        rw [List.take_length] at h2
        obtain ⟨b1, e1, f1, T1, b2, e2, f2, T2, hv, p1, p2, hdj⟩ := h2.ex
        have hv1 : hc[h.length + 1]? = some (B.var [.nils, .nils]) := ho.get (g1 _ 1)
        repeat' (first
 |refine aK fun K hK=>?_|refine Step.by1 ?_|refine sE (by decide) ?_|refine cz rfl ?_|refine Fork.by2 (fun h=>?_) fun h=>?_
 |(refine aR ?_;simp [hv, hv1, t4, t8])
 |(refine Split.by2 (fun h=>?_) (fun h=>?_)<;>(simp [h, hv, hv1, t4, t8]))
 |(apply hK;clear hK K)|refine AWh ‹_› ?_)
        have e2' : (hc.set (h.length + 1) (B.var [V.ref b1 e1 0 T1.length, V.ref b2 e2 0 T2.length]))[h.length + 1]? = some (B.var [V.ref b1 e1 0 T1.length, V.ref b2 e2 0 T2.length]) := get_set_eq hv1
        have hb1 := p1.b_lt
        have hb2 := p2.b_lt
        have hl2 : HL (hc.set (h.length + 1) (B.var [V.ref b1 e1 0 T1.length, V.ref b2 e2 0 T2.length])) := h2.hl.set (by simp; omega)
        have hO : Old h (hc.set (h.length + 1) (B.var [V.ref b1 e1 0 T1.length, V.ref b2 e2 0 T2.length])) := (((Old.rfl hh).app hH2).trans ho).set (Nat.le_add_right _ _) hl2
        exact retg2c (by simp [e2']; exact ⟨rfl, rfl⟩) (by simp) ⟨b1, e1, f1, T1, b2, e2, f2, T2, by simp, hO, (p1.setne hv1).low' (by omega), (p2.setne hv1).low' (by omega), nodup_two p1 p2 hdj⟩ (by simp; omega) (Go.AM.Leaves.sym hO.len hO.hl)
    have fin : ∀ (s : St) (hx : List B) (bx c1 d1 c2 d2 : Nat) (fl1 fl2 : Bool) (S1 S2 : Rows3), s.n = 63 → lk s.tm 1 = vl PlanD.cells l → lk s.tm 4 = .ptr (h.length + 1) 0 → lk s.tm 8 = .ptr bx 0 → s.h = hx.set bx (.var [.ref c1 d1 0 S1.length, .ref c2 d2 0 S2.length]) → h.length + 2 ≤ bx → Old (h ++ [B.var a.cells, B.var [.nils, .nils]]) hx → hx[bx]? = some (B.var [.nils, .nils]) →
        N3 (h.length + 2) hx c1 d1 fl1 S1 (mxP a.lo a.lo) → N3 (h.length + 2) hx c2 d2 fl2 S2 (mxP a.up a.up) → (∀ k, inB c1 S1 k → ¬ inB c2 S2 k) → K s := fun s hx bx c1 d1 c2 d2 fl1 fl2 S1 S2 e1 e2 e3 e4 e5 hbx hO hv p1 p2 hd => by
      have hTw := Two.mk' hO.hl hv p1 p2 hd
      refine hrest s bx e1 e2 e3 e4 hbx ?_ ?_
      · rw [e5]; exact hO.set (by simp; omega) hTw.hl
      · rw [e5]; exact hTw
    have hA2 : (h ++ [B.var a.cells, B.var [.nils, .nils]])[h.length]? = some (B.var a.cells) := g0 _
    refine AW_region_chain 12 14 [0, 1, 2, 3, 5, 6, 7, 8] (fun H => H[h.length]? = some (B.var a.cells)) mixed (by decide) (by decide) rfl (by simp [PlanD.cells, halfV]) ?_
    simp only [List.take_succ_cons, List.take_zero]
    refine PX_op (v := .ptr h.length 0) rfl rfl rfl rfl (fun H hs => by simp) ?_
    refine PX_op (v := halfV a.lo) rfl rfl rfl rfl (fun H hs => by simp [hs, PlanD.cells]) ?_
    refine PX_op (v := .ptr h.length 0) rfl rfl rfl rfl (fun H hs => by simp) ?_
    refine PX_op (v := halfV a.lo) rfl rfl rfl rfl (fun H hs => by simp [hs, PlanD.cells]) ?_
    refine PX_skip rfl ?_
    refine PX_op (v := .ptr h.length 1) rfl rfl rfl rfl (fun H hs => by simp) ?_
    refine PX_op (v := halfV a.up) rfl rfl rfl rfl (fun H hs => by simp [hs, PlanD.cells]) ?_
    refine PX_op (v := .ptr h.length 1) rfl rfl rfl rfl (fun H hs => by simp) ?_
    refine PX_op (v := halfV a.up) rfl rfl rfl rfl (fun H hs => by simp [hs, PlanD.cells]) ?_
    refine PX_skip rfl ?_
    refine PX_skip rfl ?_
    refine PX_skip rfl ?_
    refine PX_nil ?_
    refine Ch_2 4 11 (by decide) (by decide) ?_ ?_
    · refine ChS_callG (f := 55) rfl rfl rfl rfl (g_greatest a.lo a.lo ha.1 shp_self hH2) (fun v h3 hq => ?_)
      obtain ⟨c1, d1, fl1, S1, rfl, ho3, r1⟩ := hq
      have ho3 : Old (h ++ [B.var a.cells, B.var [.nils, .nils]]) h3 := ho3
      have r1 : N3 ((h ++ [B.var a.cells, B.var [.nils, .nils]])).length h3 c1 d1 fl1 S1 (mxP a.lo a.lo) := r1
      have hlt3 := ho3.len
      have hA3 := ho3.get hA2
      refine ⟨hA3, ?_⟩
      refine Ch_2 9 11 (by decide) (by decide) ?_ ?_
      · refine ChS_callG (f := 55) rfl rfl rfl rfl (g_greatest a.up a.up ha.2 shp_self ho3.hl) (fun v h4 hq => ?_)
        obtain ⟨c2, d2, fl2, S2, rfl, ho4, r2⟩ := hq
        have ho4 : Old h3 h4 := ho4
        have r2 : N3 (h3).length h4 c2 d2 fl2 S2 (mxP a.up a.up) := r2
        have hlt4 := ho4.len
        have hA4 := ho4.get hA3
        refine ⟨hA4, ?_⟩
        have j0 := fun x : List B => ga0 (h := h4) (x := x) rfl
        have j1 := fun (x : List B) (y : B) => sa0 (h := h4) (x := x) (y := y) rfl
        have hl4 : HL (h4 ++ [B.var [.nils, .nils]]) := ho4.hl.app (by simp)
        have ap4 : ∀ k, k < h4.length → (h4 ++ [B.var [.nils, .nils]])[k]? = h4[k]? := fun k hk => List.getElem?_append_left hk
        have hA5 := (ap4 h.length (by simp at hlt3; omega)).trans hA4
        refine Ch_2 10 11 (by decide) (by decide) ?_ ?_
        · refine cS1 rfl rfl rfl rfl (by simp) hA4 ?_
          simp
          refine Ch_1 11 (by decide) (by decide) ?_
          refine ChS_op (h' := h4 ++ [B.var [.nils, .nils]]) rfl rfl rfl rfl (by simp) rfl hA5 ?_
          simp
          refine Ch_end (by decide) ?_
          refine AS_of_AO ?_
          simp [j0, j1]
          have hlen3 : h.length + 2 ≤ h3.length := by simpa using hlt3
          exact fin _ (h4 ++ [B.var [.nils, .nils]]) h4.length c1 d1 c2 d2 fl1 fl2 S1 S2 rfl rfl rfl rfl (by rw [j1]; rfl) (by omega) ((ho3.trans ho4).app hl4) (j0 _) (((r1.mono ho4.old).mono ap4).low' (by simp)) ((r2.mono ap4).low' (by omega)) (fun k hk1 hk2 => by have := r1.in_lt hk1; have := r2.in_ge hk2; omega)
        · refine ChS_op (h' := h4 ++ [B.var [.nils, .nils]]) rfl rfl rfl rfl (by simp) rfl hA5 ?_
          simp
          refine Ch_1 10 (by decide) (by decide) ?_
          refine cS1 rfl rfl rfl rfl (by simp) hA5 ?_
          simp
          refine Ch_end (by decide) ?_
          refine AS_of_AO ?_
          simp [j0, j1]
          have hlen3 : h.length + 2 ≤ h3.length := by simpa using hlt3
          exact fin _ (h4 ++ [B.var [.nils, .nils]]) h4.length c1 d1 c2 d2 fl1 fl2 S1 S2 rfl rfl rfl rfl (by rw [j1]; rfl) (by omega) ((ho3.trans ho4).app hl4) (j0 _) (((r1.mono ho4.old).mono ap4).low' (by simp)) ((r2.mono ap4).low' (by omega)) (fun k hk1 hk2 => by have := r1.in_lt hk1; have := r2.in_ge hk2; omega)
      · have hl3 : HL (h3 ++ [B.var [.nils, .nils]]) := ho3.hl.app (by simp)
        have ap3 : ∀ k, k < h3.length → (h3 ++ [B.var [.nils, .nils]])[k]? = h3[k]? := fun k hk => List.getElem?_append_left hk
        have hA4' := (ap3 h.length (by simp at hlt3; omega)).trans hA3
        refine ChS_op (h' := h3 ++ [B.var [.nils, .nils]]) rfl rfl rfl rfl (by simp) rfl hA4' ?_
        simp
        refine Ch_1 9 (by decide) (by decide) ?_
        refine ChS_callG (f := 55) rfl rfl rfl rfl (g_greatest a.up a.up ha.2 shp_self hl3) (fun v h4 hq => ?_)
        obtain ⟨c2, d2, fl2, S2, rfl, ho4, r2⟩ := hq
        have ho4 : Old (h3 ++ [B.var [.nils, .nils]]) h4 := ho4
        have r2 : N3 ((h3 ++ [B.var [.nils, .nils]])).length h4 c2 d2 fl2 S2 (mxP a.up a.up) := r2
        have hlt4 := ho4.len
        have hA4 := ho4.get hA4'
        refine ⟨hA4, ?_⟩
        have hbx := ho4.get (show (h3 ++ [B.var [.nils, .nils]])[h3.length]? = some (B.var [.nils, .nils]) from (ga0 rfl).trans rfl)
        refine Ch_1 10 (by decide) (by decide) ?_
        refine cS1 rfl rfl rfl rfl (by simp) hA4 ?_
        simp
        refine Ch_end (by decide) ?_
        refine AS_of_AO ?_
        simp [hbx]
        have hlen3 : h.length + 2 ≤ h3.length := by simpa using hlt3
        exact fin _ h4 h3.length c1 d1 c2 d2 fl1 fl2 S1 S2 rfl rfl rfl rfl rfl (by omega) ((ho3.app hl3).trans ho4) hbx (((r1.mono ap3).mono ho4.old).low' (by simp)) (r2.low' (by simp; omega)) (fun k hk1 hk2 => by have := r1.in_lt hk1; have := r2.in_ge hk2; simp at this; omega)
    · have hl1 : HL (h ++ [B.var a.cells, B.var [.nils, .nils]] ++ [B.var [.nils, .nils]]) := hH2.app (by simp)
      have ap1 : ∀ k, k < (h ++ [B.var a.cells, B.var [.nils, .nils]]).length → (h ++ [B.var a.cells, B.var [.nils, .nils]] ++ [B.var [.nils, .nils]])[k]? = (h ++ [B.var a.cells, B.var [.nils, .nils]])[k]? := fun k hk => List.getElem?_append_left hk
      have hA1 := (ap1 h.length (by simp)).trans hA2
      refine ChS_op (h' := (h ++ [B.var a.cells, B.var [.nils, .nils]]) ++ [B.var [.nils, .nils]]) rfl rfl rfl rfl (by simp) rfl hA1 ?_
      refine Ch_1 4 (by decide) (by decide) ?_
      refine ChS_callG (f := 55) rfl rfl rfl rfl (g_greatest a.lo a.lo ha.1 shp_self hl1) (fun v h3 hq => ?_)
      obtain ⟨c1, d1, fl1, S1, rfl, ho3, r1⟩ := hq
      have ho3 : Old (h ++ [B.var a.cells, B.var [.nils, .nils]] ++ [B.var [.nils, .nils]]) h3 := ho3
      have r1 : N3 ((h ++ [B.var a.cells, B.var [.nils, .nils]] ++ [B.var [.nils, .nils]])).length h3 c1 d1 fl1 S1 (mxP a.lo a.lo) := r1
      have hlt3 := ho3.len
      have hA3 := ho3.get hA1
      refine ⟨hA3, ?_⟩
      refine Ch_1 9 (by decide) (by decide) ?_
      refine ChS_callG (f := 55) rfl rfl rfl rfl (g_greatest a.up a.up ha.2 shp_self ho3.hl) (fun v h4 hq => ?_)
      obtain ⟨c2, d2, fl2, S2, rfl, ho4, r2⟩ := hq
      have ho4 : Old h3 h4 := ho4
      have r2 : N3 (h3).length h4 c2 d2 fl2 S2 (mxP a.up a.up) := r2
      have hlt4 := ho4.len
      have hA4 := ho4.get hA3
      refine ⟨hA4, ?_⟩
      have hbx := ho4.get (ho3.get (show (h ++ [B.var a.cells, B.var [.nils, .nils]] ++ [B.var [.nils, .nils]])[(h ++ [B.var a.cells, B.var [.nils, .nils]]).length]? = some (B.var [.nils, .nils]) from (ga0 rfl).trans rfl))
      refine Ch_1 10 (by decide) (by decide) ?_
      refine cS1 rfl rfl rfl rfl (by simp) hA4 ?_
      simp
      have hl0 : (h ++ [B.var a.cells, B.var [.nils, .nils]]).length = h.length + 2 := by simp
      have hl1' : (h ++ [B.var a.cells, B.var [.nils, .nils]] ++ [B.var [.nils, .nils]]).length = h.length + 3 := by simp
      refine Ch_end (by decide) ?_
      refine AS_of_AO ?_
      rw [hl0] at hbx
      simp [hbx]
      exact fin _ h4 (h.length + 2) c1 d1 c2 d2 fl1 fl2 S1 S2 rfl rfl rfl rfl rfl (Nat.le_refl _) (((Old.rfl hH2).app hl1 |>.trans ho3).trans ho4) hbx ((r1.mono ho4.old).low' (by omega)) (r2.low' (by omega)) (fun k hk1 hk2 => by have := r1.in_lt hk1; have := r2.in_ge hk2; omega)
theorem c_JoinF (a : PlanD) (ha : a.ok) (l : List PlanD) (hl : okPlans l) (he : anyL (unlike a) l = false) : PC 18 [.agg a.cells, vl PlanD.cells l] (.tup [.agg [halfV (joinH a.lo (l.map (·.lo))), halfV (joinH a.up (l.map (·.up)))], .int .i64 0]) :=
  PCall_of_GCall (g_Join a ha l hl he (h := []) (by simp [HL])) fun v h' ⟨b1, g1, f1, T1, b2, g2, f2, T2, hv, hO, p1, p2, _⟩ => .inl ⟨5, by
    rw [hv]
    show _ = V.tup [V.agg [Go.AM.frz h' 3 (.ref b1 g1 0 T1.length), Go.AM.frz h' 3 (.ref b2 g2 0 T2.length)], Go.AM.frz h' 4 (.int .i64 0)]
    rw [p1.frz, p2.frz]
    rfl, rfl⟩
theorem zco57 : Tryd.prog.cellsOf 57 = 1 := by kernel_rfl
theorem zco51 : Tryd.prog.cellsOf 51 = 1 := by kernel_rfl
theorem zco53 : Tryd.prog.cellsOf 53 = 2 := by kernel_rfl
theorem zco30j : Tryd.prog.cellsOf 30 = 1 := by kernel_rfl
theorem rnIntsJ : RdN KB Tryd.prog 30 (fun l : List Int => [V.vec (ivs l) l.length]) (fun l => l.length ≤ 1048576) :=
  (RdN_slice Tryd.underlying30 (by rw [zco3]; decide) (RdN_int Tryd.underlying3) (fun _ => by rw [zco3]; rfl)).map id (fun _ => rfl) (fun l h => h.1)
theorem rnRows2 : RdN KB Tryd.prog 57 (fun Q : List (List Int) => [V.vec (rows2V Q) Q.length]) (fun Q => Q.length ≤ 1048576 ∧ ∀ r ∈ Q, r.length ≤ 1048576) :=
  (RdN_slice Tryd.underlying57 (by rw [zco30j]; decide) rnIntsJ (fun _ => by rw [zco30j]; rfl)).map id (fun _ => rfl) (fun l h => h)
theorem rnHalf : RdN KB Tryd.prog 51 (fun P : List (List (List Int)) => [halfV P]) planOk :=
  (RdN_slice Tryd.underlying51 (by rw [zco57]; decide) rnRows2 (fun _ => by rw [zco57]; rfl)).map id (fun _ => rfl) (fun l h => h)
theorem rnPlanD : RdN KB Tryd.prog 53 PlanD.cells PlanD.ok :=
  (RdN_struct Tryd.underlying53 zco53 (rC rfl zco51 rnHalf (fun _ => rfl) (rC rfl zco51 rnHalf (fun _ => rfl) (RdNs_nil rfl)))).map
    (fun p => ⟨p.1, p.2.1⟩) (fun _ => rfl) (fun p h => ⟨h.1, h.2.1⟩)
end Go.Proofs.YtgmlimipejcpgaaDoor
end
