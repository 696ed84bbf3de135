/-
  YtgmlimipejcpgaaGreatDoorCo31: steps of the proof of a law of the program: what these texts prove holds under the hypotheses that their theorems name, and no others.
-/
import Derived.Test.YtgmlimipejcpgaaGreatDoorCo30
section
set_option linter.unusedVariables false
set_option linter.unusedSimpArgs false
namespace Go.Proofs.YtgmlimipejcpgaaGreatDoor
open Go Go.AM Fx
structure BK (h0 h : List B) (bk r g : Nat) (refs : List (Nat × Nat × Nat)) : Prop where
  len : h.length = h0.length
  hl : HL h
  bkk : h[bk]? = some (bookB r g refs.length)
  rr : ∃ fl, h[r]? = some (.row 47 g 0 fl (refs.map fun x => [rv x])) ∧ (fl = true → refs = [])
  rest : ∀ b, b ≠ r → b ≠ bk → h[b]? = h0[b]?
section
variable {h0 h h' : List B} {bk r g g' o b gb : Nat} {refs refs' : List (Nat × Nat × Nat)} {fl : Bool} {ids : List (Nat × Nat × Nat)} {P : List (List Int)}
theorem BK.lts (p : BK h0 h bk r g refs) : ∀ y ∈ refs.map (fun x => [rv x]), V.lts h.length y = true := fun y hy => by
  obtain ⟨f, h1, h2⟩ := p.rr
  cases f
  · exact ((p.hl.get h1).resolve_left (by simp)) y hy
  · rw [h2 rfl] at hy; simp at hy
theorem BK.ne (p : BK h0 h bk r g refs) : bk ≠ r := by
  obtain ⟨f, h1, h2⟩ := p.rr
  intro e; have := p.bkk; rw [e, h1] at this; cases this
theorem BK.r_lt (p : BK h0 h bk r g refs) : r < h.length := by
  obtain ⟨f, h1, h2⟩ := p.rr
  exact (List.getElem?_eq_some_iff.1 h1).1
theorem BK.step (p : BK h0 h bk r g refs) {x : Nat × Nat × Nat} (hx : x.1 < h.length) :
    BK h0 ((h.set r (.row 47 (g + 1) 0 false (refs.map (fun x => [rv x]) ++ [[.ref x.1 x.2.1 0 x.2.2]]))).set bk (bookB r (g + 1) (refs.length + 1))) bk r (g + 1) (refs ++ [x]) := by
  have hne := p.ne
  have hr := p.r_lt
  obtain ⟨f, hrr, _⟩ := p.rr
  have hxl : ∀ y ∈ refs.map (fun x => [rv x]) ++ [[V.ref x.1 x.2.1 0 x.2.2]], V.lts h.length y = true := fun y hy => by
    rcases List.mem_append.1 hy with hy | hy
    · exact p.lts y hy
    · rw [List.mem_singleton.1 hy]; simp [hx]
  have e1 : (h.set r (.row 47 (g + 1) 0 false (refs.map (fun x => [rv x]) ++ [[.ref x.1 x.2.1 0 x.2.2]])))[bk]? = h[bk]? := gN (fun e => hne e.symm)
  refine ⟨by simp [p.len], (p.hl.set (rowR_lt hxl)).set (by rw [List.length_set]; exact bookB_lt hr), ?_, ?_, fun b h1 h2 => ?_⟩
  · rw [get_set_eq (e1.trans p.bkk)]; simp
  · exact ⟨false, by rw [gN hne, get_set_eq hrr]; simp [rv], fun h => (by cases h)⟩
  · rw [gN (fun e => h2 e.symm), gN (fun e => h1 e.symm)]; exact p.rest b h1 h2
theorem N2.bkeep (q : N2 o h b gb fl ids P) (p : BK h0 h bk r g refs) (p' : BK h0 h' bk r g' refs') (hne : b ≠ r) : N2 o h' b gb fl ids P := by
  have key : ∀ k y, h[k]? = some y → k ≠ r → k ≠ bk → h'[k]? = some y := fun k y hk h1 h2 => by rw [p'.rest k h1 h2, ← p.rest k h1 h2]; exact hk
  refine ⟨key _ _ q.at0 hne (fun e => by have := q.at0; rw [e, p.bkk] at this; cases this), q.flat, q.len, fun j x hx => ?_, q.low, q.nodup⟩
  obtain ⟨ns, h1, h2, h3⟩ := q.rows j x hx
  exact ⟨ns, h1, h2, key _ _ h3 (fun e => by obtain ⟨f, hrr, _⟩ := p.rr; rw [e, hrr] at h3; cases h3) (fun e => by rw [e, p.bkk] at h3; cases h3)⟩
theorem N3.bkeep {T : List (Nat × Nat × Bool × List (Nat × Nat × Nat))} {PP : List (List (List Int))} (q : N3 o h b gb fl T PP) (p : BK h0 h bk r g refs) (p' : BK h0 h' bk r g' refs') (hne : ∀ y ∈ T, y.1 ≠ r) : N3 o h' b gb fl T PP := by
  have key : ∀ k y, h[k]? = some y → k ≠ r → k ≠ bk → h'[k]? = some y := fun k y hk h1 h2 => by rw [p'.rest k h1 h2, ← p.rest k h1 h2]; exact hk
  refine ⟨key _ _ q.at0 (fun e => by obtain ⟨f, hrr, _⟩ := p.rr; have := q.at0; rw [e, hrr] at this; cases this) (fun e => by have := q.at0; rw [e, p.bkk] at this; cases this), q.flat, q.len, fun i y hy => ?_, q.low, q.nodup⟩
  obtain ⟨Q, h1, h2⟩ := q.rows i y hy
  exact ⟨Q, h1, h2.bkeep p p' (hne y (List.mem_of_getElem? hy))⟩
end
theorem g_TakeB {h0 h : List B} {bk r g : Nat} {refs : List (Nat × Nat × Nat)} (p : BK h0 h bk r g refs) {x : Nat × Nat × Nat} (hx : x.1 < h.length) (hm : refs.length ≤ 5000000000000) :
    GCall Tryz.prog GV 31 [.ptr bk 0, .ref x.1 x.2.1 0 x.2.2] h (fun v h' => v = .tup [] ∧ BK h0 h' bk r (g + 1) (refs ++ [x])) := by
  obtain ⟨f, hrr, _⟩ := p.rr
  refine (g_Take p.hl p.bkk hrr p.lts (by simp) hx hm).mono fun v h' ⟨h1, h2⟩ => ⟨h1, ?_⟩
  rw [h2]
  exact p.step hx
set_option maxHeartbeats 4000000 in
theorem g_TakeIntLists {h0 h : List B} {bk r g o b gb : Nat} {refs : List (Nat × Nat × Nat)} {fl : Bool} {ids : List (Nat × Nat × Nat)} {P : List (List Int)} (p : BK h0 h bk r g refs) (q : N2 o h b gb fl ids P) (hne : b ≠ r) (hm : refs.length + ids.length ≤ 5000000000000) :
    GCall Tryz.prog GV 110 [.ptr bk 0, .ref b gb 0 ids.length] h (fun v h' => v = .tup [] ∧ BK h0 h' bk r (g + ids.length) (refs ++ ids)) := by
  have hbk := (List.getElem?_eq_some_iff.1 p.bkk).1
  have hb := q.b_lt
  refine gB1 Tryz.func110 rfl (by decide) Tryz.ntmps110 (by simp) Tryz.results110 ?_
  repeat' (first
 |refine aK fun K hK=>?_|refine Step.by1 ?_|refine sE (by decide) ?_|refine cz rfl ?_|refine Fork.by2 (fun h=>?_) fun h=>?_
 |(refine aR ?_;simp)
 |(refine Split.by2 (fun h=>?_) (fun h=>?_)<;>(simp [h]))
 |(apply hK;clear hK K)|refine AWh ‹_› ?_)
  refine aL [0, 1] (fun s : Nat × List B => [(4, .int .i64 s.1)]) (fun s => s.2) (fun s => s.1 ≤ ids.length ∧ BK h0 s.2 bk r (g + s.1) (refs ++ ids.take s.1)) (fun s => ids.length - s.1) (0, h) ⟨Nat.zero_le _, by simpa using p⟩ (Weak.sym (x := []) (by simp) p.hl (by simp [hbk, hb])) (fun s hs => hs.2.len.trans p.len.symm) ?_
  rintro ⟨i, hc⟩ ⟨hi, k⟩
  simp only at hi k
  have qc := q.bkeep p k hne
  have hcl := k.len.trans p.len.symm
  by_cases hlt : i < ids.length
  · obtain ⟨x, hx⟩ : ∃ x, ids[i] = x := ⟨_, rfl⟩
    have hx' : ids[i]? = some x := by rw [List.getElem?_eq_getElem hlt, hx]
    have hlt' : (i : Int) < ids.length := by omega
    have w1 : IntKind.i64.wrap ((i : Int) + 1) = i + 1 := wI (by omega) (by omega)
    have c0 := qc.at0
    have c1 : (ids.map fun x => [rv x])[i]? = some [.ref x.1 x.2.1 0 x.2.2] := by simp [hx', rv]
    have hxl := qc.ids_lt x (List.mem_of_getElem? hx')
    have ht : refs ++ ids.take i ++ [x] = refs ++ ids.take (i + 1) := by rw [List.take_add_one, hx']; simp
    repeat' (first
 |refine aK fun K hK=>?_|refine Step.by1 ?_|refine sE (by decide) ?_|refine cz rfl ?_|refine Fork.by2 (fun h=>?_) fun h=>?_
 |(refine aR ?_;simp [c0, c1, hlt, hlt', hx, w1, rv])
 |(refine Split.by2 (fun h=>?_) (fun h=>?_)<;>(simp [h, c0, c1, hlt, hlt', hx, w1, rv]))
 |(refine aG (f := 31) rfl rfl (g_TakeB k hxl (by simp; omega)) rfl (fun v h' hq => ?_); obtain ⟨rfl, hst⟩ := hq; simp)
 |(apply hK;clear hK K)|refine AWh ‹_› ?_)
    rw [ht] at hst
    have hsn := hst.len.trans p.len.symm
    exact ⟨i + 1, _, ⟨by omega, hst⟩, by omega, Weak.sym (x := []) (by simp) hst.hl (by simp [hsn, hbk, hb])⟩
  · obtain rfl : i = ids.length := by omega
    rw [List.take_length] at k
    repeat' (first
 |refine aK fun K hK=>?_|refine Step.by1 ?_|refine sE (by decide) ?_|refine cz rfl ?_|refine Fork.by2 (fun h=>?_) fun h=>?_
 |(refine aR ?_;simp)
 |(refine Split.by2 (fun h=>?_) (fun h=>?_)<;>(simp [h]))
 |(apply hK;clear hK K)|refine AWh ‹_› ?_)
    exact ⟨.inl rfl, _, _, ⟨[], rfl, trivial⟩, ⟨rfl, k⟩, rfl, Go.AM.Leaves.sym (show h.length ≤ hc.length by omega) k.hl⟩
def ids3 (T : Rows3) : List (Nat × Nat × Nat) := T.flatMap (·.2.2.2)
theorem ids3_at {T : Rows3} {i : Nat} {y : Nat × Nat × Bool × List (Nat × Nat × Nat)} (h : T[i]? = some y) : ids3 (T.take (i + 1)) = ids3 (T.take i) ++ y.2.2.2 := by
  unfold ids3; rw [List.take_add_one, h]; simp
theorem ids3_le {T : Rows3} {i : Nat} {y : Nat × Nat × Bool × List (Nat × Nat × Nat)} (h : T[i]? = some y) : (ids3 (T.take i)).length + y.2.2.2.length ≤ (ids3 T).length := by
  have e : ids3 T = ids3 (T.take (i + 1)) ++ ids3 (T.drop (i + 1)) := by unfold ids3; rw [← List.flatMap_append, List.take_append_drop]
  have := congrArg List.length e
  rw [ids3_at h] at this
  simp at this; omega
theorem BK.base {h0 h hc : List B} {bk r g g' : Nat} {refs refs' : List (Nat × Nat × Nat)} {e : B} (p : BK h0 h bk r g refs) (k : BK (h ++ [e]) hc bk r g' refs') (hx : ∀ x ∈ refs', x.1 < h.length) :
    ∃ h', hc = h' ++ [e] ∧ BK h0 h' bk r g' refs' := by
  have hbk := (List.getElem?_eq_some_iff.1 p.bkk).1
  have hr := p.r_lt
  have hl : hc.length = h.length + 1 := by simpa using k.len
  have e1 : hc = hc.take h.length ++ [e] := by
    apply List.ext_getElem?
    intro b
    rcases Nat.lt_or_ge b h.length with hb | hb
    · rw [List.getElem?_append_left (by simp; omega), List.getElem?_take_of_lt hb]
    · have := k.rest b (by omega) (by omega)
      rw [this, List.getElem?_append_right hb, List.getElem?_append_right (by simp; omega)]
      simp; congr 1; omega
  have tl : (hc.take h.length).length = h.length := by simp; omega
  have tk : ∀ b, b < h.length → (hc.take h.length)[b]? = hc[b]? := fun b hb => List.getElem?_take_of_lt hb
  refine ⟨_, e1, tl.trans p.len, fun y hy => ?_, by rw [tk _ hbk]; exact k.bkk, by rw [tk _ hr]; exact k.rr, fun b h1 h2 => ?_⟩
  · obtain ⟨b, hb⟩ := List.getElem?_of_mem hy
    have hbl : b < h.length := by rw [← tl]; exact (List.getElem?_eq_some_iff.1 hb).1
    rw [tk _ hbl] at hb
    rw [tl]
    by_cases h1 : b = r
    · subst h1
      obtain ⟨f, hrr, _⟩ := k.rr
      rw [hrr] at hb; cases hb
      exact rowR_lt fun z hz => by
        obtain ⟨x, hxm, rfl⟩ := List.mem_map.1 hz
        simp [rv, hx x hxm]
    · by_cases h2 : b = bk
      · subst h2
        rw [k.bkk] at hb; cases hb
        exact bookB_lt hr
      · rw [k.rest b h1 h2, List.getElem?_append_left hbl] at hb
        exact p.hl.get hb
  · rcases Nat.lt_or_ge b h.length with hb | hb
    · rw [tk _ hb, k.rest b h1 h2, List.getElem?_append_left hb]; exact p.rest b h1 h2
    · rw [List.getElem?_eq_none (by omega), List.getElem?_eq_none (by rw [← p.len]; exact hb)]
set_option maxRecDepth 20000 in
set_option maxHeartbeats 8000000 in
theorem g_TakePlan {h0 h : List B} {bk r g o1 o2 b1 g1 b2 g2 : Nat} {refs : List (Nat × Nat × Nat)} {fl1 fl2 : Bool} {T1 T2 : Rows3} {P1 P2 : List (List (List Int))} (p : BK h0 h bk r g refs) (q1 : N3 o1 h b1 g1 fl1 T1 P1) (q2 : N3 o2 h b2 g2 fl2 T2 P2)
    (hn1 : ∀ y ∈ T1, y.1 ≠ r) (hn2 : ∀ y ∈ T2, y.1 ≠ r) (hrl : ∀ x ∈ refs, x.1 < h.length) (hm : refs.length + (ids3 T1).length + (ids3 T2).length ≤ 5000000000000) (ht1 : T1.length ≤ 1048576) (ht2 : T2.length ≤ 1048576) :
    GCall Tryz.prog GV 42 [.ptr bk 0, .agg [.ref b1 g1 0 T1.length, .ref b2 g2 0 T2.length]] h (fun v h' => v = .tup [] ∧ BK h0 h' bk r (g + ((ids3 T1).length + (ids3 T2).length)) (refs ++ (ids3 T1 ++ ids3 T2))) := by
  have hbk := (List.getElem?_eq_some_iff.1 p.bkk).1
  have hr := p.r_lt
  have hb1 := q1.b_lt
  have hb2 := q2.b_lt
  obtain ⟨e, he⟩ : ∃ e, e = B.var [V.ref b1 g1 0 T1.length, V.ref b2 g2 0 T2.length] := ⟨_, rfl⟩
  have hle : HL (h ++ [e]) := p.hl.push (by subst he; simp; omega)
  have hap : ∀ k, k < h.length → (h ++ [e])[k]? = h[k]? := fun k hk => List.getElem?_append_left hk
  have p0 : BK (h ++ [e]) (h ++ [e]) bk r g refs := ⟨rfl, hle, by rw [hap _ hbk]; exact p.bkk, by rw [hap _ hr]; exact p.rr, fun _ _ _ => rfl⟩
  have q1' := q1.mono (h' := h ++ [e]) hap
  have q2' := q2.mono (h' := h ++ [e]) hap
  refine gB1 Tryz.func42 rfl (by decide) Tryz.ntmps42 (by simp) Tryz.results42 ?_
  repeat' (first
 |refine aK fun K hK=>?_|refine Step.by1 ?_|refine sE (by decide) ?_|refine cz rfl ?_|refine Fork.by2 (fun h=>?_) fun h=>?_
 |(refine aR ?_;simp)
 |(refine Split.by2 (fun h=>?_) (fun h=>?_)<;>(simp [h]))
 |(apply hK;clear hK K)|refine AWh ‹_› ?_)
  refine aL [0, 3] (fun s : Nat × List B => [(4, .int .i64 s.1)]) (fun s => s.2) (fun s => s.1 ≤ T1.length ∧ BK (h ++ [e]) s.2 bk r (g + (ids3 (T1.take s.1)).length) (refs ++ ids3 (T1.take s.1))) (fun s => T1.length - s.1) (0, h ++ [e]) ⟨Nat.zero_le _, by simpa [ids3] using p0⟩ (Weak.sym (x := []) (by simp [he]) hle (by simp; omega)) (fun s hs => by rw [hs.2.len]; simp) ?_
  rintro ⟨i, hc⟩ ⟨hi, k⟩
  simp only at hi k
  have hcl : hc.length = h.length + 1 := by simpa using k.len
  have hce : hc[h.length]? = some e := by rw [k.rest _ (by omega) (by omega)]; simp
  have c1 := q1'.bkeep p0 k hn1
  have c2 := q2'.bkeep p0 k hn2
  by_cases hlt : i < T1.length
  · obtain ⟨y, hy⟩ : ∃ y, T1[i] = y := ⟨_, rfl⟩
    have hy' : T1[i]? = some y := by rw [List.getElem?_eq_getElem hlt, hy]
    have hlt' : (i : Int) < T1.length := by omega
    have w1 : IntKind.i64.wrap ((i : Int) + 1) = i + 1 := wI (by omega) (by omega)
    have c0 := c1.at0
    have d1 : (T1.map fun y => [V.ref y.1 y.2.1 0 y.2.2.2.length])[i]? = some [.ref y.1 y.2.1 0 y.2.2.2.length] := by simp [hy']
    obtain ⟨Q, hQ, hN⟩ := c1.rows i y hy'
    have hyn := hn1 y (List.mem_of_getElem? hy')
    have ha := ids3_at hy'
    have hle3 := ids3_le hy'
    have hbd : (refs ++ ids3 (T1.take i)).length + y.2.2.2.length ≤ 5000000000000 := by simp; omega
    repeat' (first
 |refine aK fun K hK=>?_|refine Step.by1 ?_|refine sE (by decide) ?_|refine cz rfl ?_|refine Fork.by2 (fun h=>?_) fun h=>?_
 |(refine aR ?_;simp [hce, he, c0, d1, hlt, hlt', hy, w1])
 |(refine Split.by2 (fun h=>?_) (fun h=>?_)<;>(simp [h, hce, he, c0, d1, hlt, hlt', hy, w1]))
 |(refine aG (f := 110) rfl rfl (g_TakeIntLists k hN hyn hbd) rfl (fun v h' hq => ?_); obtain ⟨rfl, hst⟩ := hq; simp)
 |(apply hK;clear hK K)|refine AWh ‹_› ?_)
    rw [Nat.add_assoc, ← List.length_append, List.append_assoc, ← ha] at hst
    have hsn : h'.length = h.length + 1 := by simpa using hst.len
    rw [he] at hst
    refine ⟨i + 1, _, ⟨by omega, hst⟩, by omega, Weak.sym (x := []) (by simp) hst.hl (by simp [hsn]; omega)⟩
  · obtain rfl : i = T1.length := by omega
    rw [List.take_length] at k
    repeat' (first
 |refine aK fun K hK=>?_|refine Step.by1 ?_|refine sE (by decide) ?_|refine cz rfl ?_|refine Fork.by2 (fun h=>?_) fun h=>?_
 |(refine aR ?_;simp [hce, he])
 |(refine Split.by2 (fun h=>?_) (fun h=>?_)<;>(simp [h, hce, he]))
 |(apply hK;clear hK K)|refine AWh ‹_› ?_)
    refine aL [0, 3] (fun s : Nat × List B => [(5, .int .i64 s.1)]) (fun s => s.2) (fun s => s.1 ≤ T2.length ∧ BK (h ++ [e]) s.2 bk r (g + ((ids3 T1).length + (ids3 (T2.take s.1)).length)) (refs ++ (ids3 T1 ++ ids3 (T2.take s.1)))) (fun s => T2.length - s.1) (0, hc) ⟨Nat.zero_le _, by simpa [ids3] using k⟩ (Weak.sym (x := []) (by simp) k.hl (by simp [hcl]; omega)) (fun s hs => by rw [hs.2.len, hcl]; simp) ?_
    rintro ⟨i, hc2⟩ ⟨hi2, k2⟩
    simp only at hi2 k2
    have hcl2 : hc2.length = h.length + 1 := by simpa using k2.len
    have hce2 : hc2[h.length]? = some e := by rw [k2.rest _ (by omega) (by omega)]; simp
    have c2 := q2'.bkeep p0 k2 hn2
    by_cases hlt : i < T2.length
    · obtain ⟨y, hy⟩ : ∃ y, T2[i] = y := ⟨_, rfl⟩
      have hy' : T2[i]? = some y := by rw [List.getElem?_eq_getElem hlt, hy]
      have hlt' : (i : Int) < T2.length := by omega
      have w1 : IntKind.i64.wrap ((i : Int) + 1) = i + 1 := wI (by omega) (by omega)
      have c0 := c2.at0
      have d1 : (T2.map fun y => [V.ref y.1 y.2.1 0 y.2.2.2.length])[i]? = some [.ref y.1 y.2.1 0 y.2.2.2.length] := by simp [hy']
      obtain ⟨Q, hQ, hN⟩ := c2.rows i y hy'
      have hyn := hn2 y (List.mem_of_getElem? hy')
      have ha := ids3_at hy'
      have hle3 := ids3_le hy'
      have hbd : (refs ++ (ids3 T1 ++ ids3 (T2.take i))).length + y.2.2.2.length ≤ 5000000000000 := by simp; omega
      repeat' (first
 |refine aK fun K hK=>?_|refine Step.by1 ?_|refine sE (by decide) ?_|refine cz rfl ?_|refine Fork.by2 (fun h=>?_) fun h=>?_
 |(refine aR ?_;simp [hce2, he, c0, d1, hlt, hlt', hy, w1])
 |(refine Split.by2 (fun h=>?_) (fun h=>?_)<;>(simp [h, hce2, he, c0, d1, hlt, hlt', hy, w1]))
 |(refine aG (f := 110) rfl rfl (g_TakeIntLists k2 hN hyn hbd) rfl (fun v h' hq => ?_); obtain ⟨rfl, hst⟩ := hq; simp)
 |(apply hK;clear hK K)|refine AWh ‹_› ?_)
      rw [Nat.add_assoc, Nat.add_assoc, ← List.length_append, List.append_assoc, List.append_assoc, ← ha] at hst
      have hsn : h'.length = h.length + 1 := by simpa using hst.len
      rw [he] at hst
      refine ⟨i + 1, _, ⟨by omega, hst⟩, by omega, Weak.sym (x := []) (by simp) hst.hl (by simp [hsn]; omega)⟩
    · obtain rfl : i = T2.length := by omega
      rw [List.take_length] at k2
      have hmx : ∀ {o b gg : Nat} {fl : Bool} {T : Rows3} {PP : List (List (List Int))}, N3 o h b gg fl T PP → ∀ x ∈ ids3 T, x.1 < h.length := fun q x hx => by
        obtain ⟨y, h1, h2⟩ := List.mem_flatMap.1 hx
        exact q.ids_lt y h1 x h2
      obtain ⟨h', rfl, k3⟩ := p.base k2 (fun x hx => by
        rcases List.mem_append.1 hx with h1 | h1
        · exact hrl x h1
        · rcases List.mem_append.1 h1 with h2 | h2
          · exact hmx q1 x h2
          · exact hmx q2 x h2)
      have hl' : h.length ≤ h'.length := by simp at hcl2; omega
      rw [he] at hce2
      repeat' (first
 |refine aK fun K hK=>?_|refine Step.by1 ?_|refine sE (by decide) ?_|refine cz rfl ?_|refine Fork.by2 (fun h=>?_) fun h=>?_
 |(refine aR ?_;simp [hce2, he])
 |(refine Split.by2 (fun h=>?_) (fun h=>?_)<;>(simp [h, hce2, he]))
 |(apply hK;clear hK K)|refine AWh ‹_› ?_)
      exact ⟨.inl rfl, _, _, ⟨[], rfl, trivial⟩, ⟨rfl, k3⟩, rfl, Go.Proofs.YtgmlimipejcpgaaGreatDoor.Leaves.symx hl' k3.hl⟩
theorem g_TakePlanNil {h : List B} (hl : HL h) {bk : Nat} (hb : bk < h.length) : GCall Tryz.prog GV 42 [.ptr bk 0, .agg [.nils, .nils]] h (fun v h' => v = .tup [] ∧ h' = h) := by
  have g0 := fun x : List B => ga0 (h := h) (x := x) rfl
  refine gB1 Tryz.func42 rfl (by decide) Tryz.ntmps42 (by simp) Tryz.results42 ?_
  repeat' (first
 |refine AW_loop0 ?_
 |refine aK fun K hK=>?_|refine Step.by1 ?_|refine sE (by decide) ?_|refine cz rfl ?_|refine Fork.by2 (fun h=>?_) fun h=>?_
 |(refine aR ?_;simp [g0])
 |(refine Split.by2 (fun h=>?_) (fun h=>?_)<;>(simp [h, g0]))
 |(apply hK;clear hK K)|refine AWh ‹_› ?_)
  exact ⟨.inl rfl, _, _, ⟨[], rfl, trivial⟩, ⟨rfl, rfl⟩, rfl, Go.Proofs.YtgmlimipejcpgaaGreatDoor.Leaves.symx (Nat.le_refl _) hl⟩
theorem BK.old {h0 h h2 : List B} {bk r g : Nat} {refs : List (Nat × Nat × Nat)} (p : BK h0 h bk r g refs) (ho : Old h h2) : BK h2 h2 bk r g refs := by
  obtain ⟨f, hrr, hf⟩ := p.rr
  exact ⟨rfl, ho.hl, ho.get p.bkk, ⟨f, ho.get hrr, hf⟩, fun _ _ _ => rfl⟩
theorem BK.init {h : List B} {bk r : Nat} (hl : HL h) (h1 : h[bk]? = some (bookB r 0 0)) (h2 : h[r]? = some (.row 47 0 0 true [])) : BK h h bk r 0 [] :=
  ⟨rfl, hl, h1, ⟨true, h2, fun _ => rfl⟩, fun _ _ _ => rfl⟩
theorem BK.pre {h0 h : List B} {bk r g : Nat} {refs : List (Nat × Nat × Nat)} (p : BK h0 h bk r g refs) (hne : refs ≠ []) (hrows : ∀ x ∈ refs, ∃ ns, h[x.1]? = some (.row 3 x.2.1 0 true (ivs ns)) ∧ ns.length = x.2.2) (hnd : (refs.map (·.1)).Nodup) : Pre h bk r g refs := by
  obtain ⟨f, hrr, hf⟩ := p.rr
  have : f = false := by
    cases f
    · rfl
    · exact absurd (hf rfl) hne
  subst this
  exact ⟨p.hl, p.bkk, hrr, fun j x hx => hrows x (List.mem_of_getElem? hx), fun i j x y hx hy e => by
    have hi : i < (refs.map (·.1)).length := by have := (List.getElem?_eq_some_iff.1 hx).1; simpa using this
    refine (List.getElem?_inj hi hnd).1 ?_
    rw [List.getElem?_map, List.getElem?_map, hx, hy]; simp [e]⟩
theorem N3.mem_row {o h b g fl} {T : Rows3} {P : List (List (List Int))} (q : N3 o h b g fl T P) {x : Nat × Nat × Nat} (hx : x ∈ ids3 T) :
    ∃ ns Q, Q ∈ P ∧ ns ∈ Q ∧ h[x.1]? = some (.row 3 x.2.1 0 true (ivs ns)) ∧ ns.length = x.2.2 := by
  obtain ⟨y, h1, h2⟩ := List.mem_flatMap.1 hx
  obtain ⟨i, hi⟩ := List.getElem?_of_mem h1
  obtain ⟨Q, hQ, hN⟩ := q.rows i y hi
  obtain ⟨j, hj⟩ := List.getElem?_of_mem h2
  obtain ⟨ns, k1, k2, k3⟩ := hN.rows j x hj
  exact ⟨ns, Q, List.mem_of_getElem? hQ, List.mem_of_getElem? k1, k3, k2⟩
theorem N3.low_row {o h b g fl} {T : Rows3} {P : List (List (List Int))} (q : N3 o h b g fl T P) : (∀ y ∈ T, o ≤ y.1) ∧ ∀ x ∈ ids3 T, o ≤ x.1 := by
  have key : ∀ y ∈ T, o ≤ y.1 ∧ ∀ x ∈ y.2.2.2, o ≤ x.1 := fun y hy => by
    obtain ⟨i, hi⟩ := List.getElem?_of_mem hy
    obtain ⟨Q, hQ, hN⟩ := q.rows i y hi
    exact hN.low
  refine ⟨fun y hy => (key y hy).1, fun x hx => ?_⟩
  obtain ⟨y, h1, h2⟩ := List.mem_flatMap.1 hx
  exact (key y h1).2 x h2
theorem N3.hi_row {o h b g fl} {T : Rows3} {P : List (List (List Int))} (q : N3 o h b g fl T P) : (∀ y ∈ T, y.1 < h.length) ∧ ∀ x ∈ ids3 T, x.1 < h.length := by
  refine ⟨fun y hy => ?_, fun x hx => ?_⟩
  · obtain ⟨i, hi⟩ := List.getElem?_of_mem hy
    obtain ⟨Q, hQ, hN⟩ := q.rows i y hi
    exact hN.b_lt
  · obtain ⟨y, h1, h2⟩ := List.mem_flatMap.1 hx
    exact q.ids_lt y h1 x h2
theorem ids3_bound : ∀ {T : Rows3}, (∀ y ∈ T, y.2.2.2.length ≤ 1048576) → (ids3 T).length ≤ T.length * 1048576
  | [], _ => by simp [ids3]
  | y :: T, h => by
    have h1 := ids3_bound (T := T) fun z hz => h z (List.mem_cons_of_mem _ hz)
    have h2 := h y (by simp)
    have e : (ids3 (y :: T)).length = y.2.2.2.length + (ids3 T).length := by simp [ids3]
    rw [e, List.length_cons, Nat.add_mul]
    omega
theorem N3.ids3_len {o h b g fl} {T : Rows3} {P : List (List (List Int))} (q : N3 o h b g fl T P) (h1 : P.length ≤ 1048576) (h2 : ∀ Q ∈ P, Q.length ≤ 1048576) : (ids3 T).length ≤ 1099511627776 := by
  have h3 : T.length ≤ 1048576 := by rw [← q.len]; exact h1
  have := ids3_bound (T := T) fun y hy => by
    obtain ⟨i, hi⟩ := List.getElem?_of_mem hy
    obtain ⟨Q, hQ, hN⟩ := q.rows i y hi
    rw [← hN.len]; exact h2 Q (List.mem_of_getElem? hQ)
  omega
end Go.Proofs.YtgmlimipejcpgaaGreatDoor
end
section
set_option linter.unusedVariables false
set_option linter.unusedSimpArgs false
namespace Go.AM
section
variable {P : Program} {ge : GEnv} {st : St} {Q : Exit → St → Prop}
variable {d : Option Tmp} {t : TypeId} {p : String} {af : Array Edge}
theorem AS_seen1 {ops : Array Oper} {rest : List Oper} {x : Operand} {xs : Array Operand} {ts : Array TypeId} {f : Nat} {args' : List V} {r : V}
    (hx : ev ge st.tm x = .fn (.func f) [] []) (hs : (evs ge st.tm xs.toList).map (seenV st.h) = args') (hc : PCall P ge f args' r) (hf : V.isFs args' = true) (hp : r.scal = true) (hd : dstOk st.n d = true)
    (h : AO P ge ops Q rest ⟨st.n, putD d r st.tm, st.h⟩) :
    AS P ge ops (⟨d, .call { callee := .value x, args := xs, argTypes := ts }, t, p, af, none⟩ :: rest) Q st := by
  rw [evs_eq] at hs
  exact AS_scall (C := []) hx hd hc (by simpa using hs) hf hp (AS_of_AO h)
end
end Go.AM
end
section
set_option linter.unusedSimpArgs false
set_option linter.unusedVariables false
namespace Go.Proofs.YtgmlimipejcpgaaGreatDoor
open Go Go.AM Fx
theorem N2.len_eq {o b g : Nat} {h : List B} {fl : Bool} {ids : List (Nat × Nat × Nat)} {P : List (List Int)} (p : N2 o h b g fl ids P) {i : Nat} {x : Nat × Nat × Nat} {r : List Int} (hx : ids[i]? = some x) (hr : P[i]? = some r) :
    r.length = x.2.2 ∧ h[x.1]? = some (.row 3 x.2.1 0 true (ivs r)) := by
  obtain ⟨ns, h1, h2, h3⟩ := p.rows i x hx
  rw [hr] at h1; cases h1
  exact ⟨h2, h3⟩
set_option maxHeartbeats 8000000 in
theorem g_SameIntLists {h : List B} (hl : HL h) {o b g : Nat} {fl : Bool} {ids : List (Nat × Nat × Nat)} {P : List (List Int)} (p : N2 o h b g fl ids P) (hP : P.length ≤ 1048576) (hr : ∀ r ∈ P, r.length ≤ 1048576) :
    GCall Tryz.prog GV 169 [.ref b g 0 ids.length, .vec (rows2V P) P.length] h (fun v h' => v = .bool true ∧ h' = h) := by
  have hpl := p.len
  have hb := p.b_lt
  have hrl : (rows2V P).length = P.length := rows2V_len
  have hlt0 : V.lts h.length [V.vec (rows2V P) P.length] = true := by simp
  refine gB1 Tryz.func169 rfl (by decide) Tryz.ntmps169 (by simp) Tryz.results169 ?_
  repeat' (first
 |refine aK fun K hK=>?_|refine Step.by1 ?_|refine sE (by decide) ?_|refine cz rfl ?_|refine Fork.by2 (fun h=>?_) fun h=>?_
 |(refine aR ?_;simp [hpl])
 |(refine Split.by2 (fun h=>?_) (fun h=>?_)<;>(simp [h, hpl]))
 |(apply hK;clear hK K)|refine AWh ‹_› ?_)
  refine aL [0, 1] (fun i : Nat => [(5, .int .i64 i)]) (fun _ => h) (fun i => i ≤ ids.length) (fun i => ids.length - i) 0 (Nat.zero_le _) (Weak.sym (x := []) (by simp) hl (by simp [hb])) (fun _ _ => rfl) ?_
  intro i hi
  by_cases hlt : i < ids.length
  · obtain ⟨x, hx⟩ : ∃ x, ids[i] = x := ⟨_, rfl⟩
    have hx' : ids[i]? = some x := by rw [List.getElem?_eq_getElem hlt, hx]
    have hlt' : (i : Int) < ids.length := by omega
    have hip : i < P.length := by omega
    obtain ⟨r, hrr⟩ : ∃ r, P[i] = r := ⟨_, rfl⟩
    have hr' : P[i]? = some r := by rw [List.getElem?_eq_getElem hip, hrr]
    have w1 : IntKind.i64.wrap ((i : Int) + 1) = i + 1 := wI (by omega) (by omega)
    have c0 := p.at0
    have c1 : (ids.map fun x => [rv x])[i]? = some [.ref x.1 x.2.1 0 x.2.2] := by simp [hx', rv]
    have c2 := rows2V_get hr'
    obtain ⟨hlx, hrow⟩ := p.len_eq hx' hr'
    have hrb := hr r (List.mem_of_getElem? hr')
    have sa := c_SameInts r (by omega)
    have c3 : (rows2V P)[i]'(by omega) = [V.vec (ivs r) r.length] := by rw [List.getElem?_eq_getElem (by omega)] at c2; exact Option.some.inj c2
    have hil : (ivs r).length = r.length := by simp [ivs]
    simp only [isV] at sa
    rw [show (r.map fun k => [V.int .i64 k]) = ivs r from rfl] at sa
    repeat' (first
 |refine aK fun K hK=>?_|refine Step.by1 ?_|refine sE (by decide) ?_|refine cz rfl ?_|refine Fork.by2 (fun h=>?_) fun h=>?_
 |((first|refine aR ?_|refine aX (id:=6) 9 mixed (by decide) ?_);simp [c0, c1, c2, c3, hlt, hlt', hx, w1, hrl, hpl, hip, hrow, hlx, rv, hil])
 |(refine Split.by2 (fun h=>?_) (fun h=>?_)<;>(simp [h, c0, c1, c2, c3, hlt, hlt', hx, w1, hrl, hpl, hip, hrow, hlx, rv, hil]))
 |(refine AP_scall (f:=26) rfl ?_ (sa) rfl rfl rfl ?_;(focus (first|rfl|(simp [seenV, c0, c1, c2, c3, hlt, hlt', hx, w1, hrl, hpl, hip, hrow, hlx, rv, hil];done)));simp [c0, c1, c2, c3, hlt, hlt', hx, w1, hrl, hpl, hip, hrow, hlx, rv, hil])
 |(apply hK;clear hK K)|refine AWh ‹_› ?_)
    refine ⟨i + 1, by omega, by omega, Weak.sym (x := []) (by simp) hl (by simp [hb])⟩
  · obtain rfl : i = ids.length := by omega
    repeat' (first
 |refine aK fun K hK=>?_|refine Step.by1 ?_|refine sE (by decide) ?_|refine cz rfl ?_|refine Fork.by2 (fun h=>?_) fun h=>?_
 |(refine aR ?_;simp)
 |(refine Split.by2 (fun h=>?_) (fun h=>?_)<;>(simp [h]))
 |(apply hK;clear hK K)|refine AWh ‹_› ?_)
    exact retg1 ⟨rfl, rfl⟩ rfl (Go.AM.Leaves.sym (Nat.le_refl _) hl)
set_option maxHeartbeats 8000000 in
theorem g_sameRows {h : List B} (hl : HL h) {o b g : Nat} {fl : Bool} {T : Rows3} {P : List (List (List Int))} (p : N3 o h b g fl T P) (hP : P.length ≤ 1048576) (hr : ∀ Q ∈ P, Q.length ≤ 1048576 ∧ ∀ r ∈ Q, r.length ≤ 1048576) :
    GCall Tryz.prog GV 109 [.ref b g 0 T.length, halfV P] h (fun v h' => v = .bool true ∧ h' = h) := by
  have hpl := p.len
  have hb := p.b_lt
  have hrl : (rows3V P).length = P.length := rows3V_len
  refine gB1 Tryz.func109 rfl (by decide) Tryz.ntmps109 (by simp) Tryz.results109 ?_
  repeat' (first
 |refine aK fun K hK=>?_|refine Step.by1 ?_|refine sE (by decide) ?_|refine cz rfl ?_|refine Fork.by2 (fun h=>?_) fun h=>?_
 |(refine aR ?_;simp [hpl, halfV])
 |(refine Split.by2 (fun h=>?_) (fun h=>?_)<;>(simp [h, hpl, halfV]))
 |(apply hK;clear hK K)|refine AWh ‹_› ?_)
  refine aL [0, 1] (fun i : Nat => [(5, .int .i64 i)]) (fun _ => h) (fun i => i ≤ T.length) (fun i => T.length - i) 0 (Nat.zero_le _) (Weak.sym (x := []) (by simp) hl (by simp [hb, halfV])) (fun _ _ => rfl) ?_
  intro i hi
  by_cases hlt : i < T.length
  · obtain ⟨y, hy⟩ : ∃ y, T[i] = y := ⟨_, rfl⟩
    have hy' : T[i]? = some y := by rw [List.getElem?_eq_getElem hlt, hy]
    have hlt' : (i : Int) < T.length := by omega
    have hip : i < P.length := by omega
    have w1 : IntKind.i64.wrap ((i : Int) + 1) = i + 1 := wI (by omega) (by omega)
    have c0 := p.at0
    have c1 : (T.map fun y => [V.ref y.1 y.2.1 0 y.2.2.2.length])[i]? = some [.ref y.1 y.2.1 0 y.2.2.2.length] := by simp [hy']
    obtain ⟨Q, hQ, hN⟩ := p.rows i y hy'
    have c2 := rows3V_get hQ
    have c3 : (rows3V P)[i]'(by omega) = [V.vec (rows2V Q) Q.length] := by rw [List.getElem?_eq_getElem (by omega)] at c2; exact Option.some.inj c2
    obtain ⟨q1, q2⟩ := hr Q (List.mem_of_getElem? hQ)
    have sa := g_SameIntLists hl hN q1 q2
    repeat' (first
 |refine aK fun K hK=>?_|refine Step.by1 ?_|refine sE (by decide) ?_|refine cz rfl ?_|refine Fork.by2 (fun h=>?_) fun h=>?_
 |((first|refine aR ?_|refine aX (id:=6) 8 mixed (by decide) ?_);simp [c0, c1, c2, c3, hlt, hlt', hy, w1, hrl, hpl, hip, halfV])
 |(refine Split.by2 (fun h=>?_) (fun h=>?_)<;>(simp [h, c0, c1, c2, c3, hlt, hlt', hy, w1, hrl, hpl, hip, halfV]))
 |(refine aG (f := 169) rfl rfl sa rfl (fun v h' hq => ?_); obtain ⟨rfl, rfl⟩ := hq; simp)
 |(apply hK;clear hK K)|refine AWh ‹_› ?_)
    refine ⟨i + 1, by omega, by omega, Weak.sym (x := []) (by simp) hl (by simp [hb, halfV])⟩
  · obtain rfl : i = T.length := by omega
    repeat' (first
 |refine aK fun K hK=>?_|refine Step.by1 ?_|refine sE (by decide) ?_|refine cz rfl ?_|refine Fork.by2 (fun h=>?_) fun h=>?_
 |(refine aR ?_;simp)
 |(refine Split.by2 (fun h=>?_) (fun h=>?_)<;>(simp [h]))
 |(apply hK;clear hK K)|refine AWh ‹_› ?_)
    exact retg1 ⟨rfl, rfl⟩ rfl (Go.AM.Leaves.sym (Nat.le_refl _) hl)
set_option maxHeartbeats 8000000 in
theorem g_SamePlan {h : List B} (hl : HL h) {o1 b1 g1 o2 b2 g2 : Nat} {fl1 fl2 : Bool} {T1 T2 : Rows3} {P1 P2 : List (List (List Int))} (p1 : N3 o1 h b1 g1 fl1 T1 P1) (p2 : N3 o2 h b2 g2 fl2 T2 P2)
    (hP1 : P1.length ≤ 1048576) (hr1 : ∀ Q ∈ P1, Q.length ≤ 1048576 ∧ ∀ r ∈ Q, r.length ≤ 1048576) (hP2 : P2.length ≤ 1048576) (hr2 : ∀ Q ∈ P2, Q.length ≤ 1048576 ∧ ∀ r ∈ Q, r.length ≤ 1048576) :
    GCall Tryz.prog GV 41 [.agg [.ref b1 g1 0 T1.length, .ref b2 g2 0 T2.length], .agg [halfV P1, halfV P2]] h (fun v h' => v = .bool true ∧ h' = h) := by
  have g0 := fun x : List B => ga0 (h := h) (x := x) rfl
  have g1' := fun (x : List B) (k : Nat) => ga1 (h := h) (x := x) (k := k) rfl
  have hb1 := p1.b_lt
  have hb2 := p2.b_lt
  obtain ⟨e, he⟩ : ∃ e, e = [B.var [V.ref b1 g1 0 T1.length, V.ref b2 g2 0 T2.length], B.var [halfV P1, halfV P2]] := ⟨_, rfl⟩
  have hle : HL (h ++ e) := hl.app (by subst he; simp [halfV]; omega)
  have hap : ∀ k, k < h.length → (h ++ e)[k]? = h[k]? := fun k hk => List.getElem?_append_left hk
  have s1 := g_sameRows hle (p1.mono hap) hP1 hr1
  have s2 := g_sameRows hle (p2.mono hap) hP2 hr2
  rw [he] at s1 s2
  refine gB1 Tryz.func41 rfl (by decide) Tryz.ntmps41 (by simp) Tryz.results41 ?_
  repeat' (first
 |refine aK fun K hK=>?_|refine Step.by1 ?_|refine sE (by decide) ?_|refine cz rfl ?_|refine Fork.by2 (fun h=>?_) fun h=>?_
 |(refine aR ?_;simp [g0, g1'])
 |(refine Split.by2 (fun h=>?_) (fun h=>?_)<;>(simp [h, g0, g1']))
 |(refine aG (f := 109) rfl rfl s1 rfl (fun v h' hq => ?_); obtain ⟨rfl, rfl⟩ := hq; simp [g0, g1'])
 |(refine aG (f := 109) rfl rfl s2 rfl (fun v h' hq => ?_); obtain ⟨rfl, rfl⟩ := hq; simp [g0, g1'])
 |(apply hK;clear hK K)|refine AWh ‹_› ?_)
  exact retg1 ⟨rfl, rfl⟩ rfl (Go.Proofs.YtgmlimipejcpgaaGreatDoor.Leaves.symx (Nat.le_refl _) hl)
theorem c_sameRowsNil : PC 109 [.nils, .nils] (.bool true) := by
  refine pB Tryz.func109 rfl (by decide) Tryz.ntmps109 (by simp) Tryz.results109 ?_
  repeat' (first
 |refine AW_loop0 ?_
 |refine aK fun K hK=>?_|refine Step.by1 ?_|refine sE (by decide) ?_|refine cz rfl ?_|refine Fork.by2 (fun h=>?_) fun h=>?_
 |(refine aR ?_;simp)
 |(refine Split.by2 (fun h=>?_) (fun h=>?_)<;>(simp [h]))
 |(apply hK;clear hK K)|refine AWh ‹_› ?_)
  exact r1q (cE rfl rfl)
theorem c_SamePlanNil : PC 41 [.agg [.nils, .nils], .agg [.nils, .nils]] (.bool true) := by
  have h0 := c_sameRowsNil
  refine pB Tryz.func41 rfl (by decide) Tryz.ntmps41 (by simp) Tryz.results41 ?_
  repeat' (first
 |refine aK fun K hK=>?_|refine Step.by1 ?_|refine sE (by decide) ?_|refine cz rfl ?_|refine Fork.by2 (fun h=>?_) fun h=>?_
 |((first|refine aR ?_|refine aC (f:=109) rfl rfl (h0) rfl rfl rfl ?_);simp)
 |(refine Split.by2 (fun h=>?_) (fun h=>?_)<;>(simp [h]))
 |(apply hK;clear hK K)|refine AWh ‹_› ?_)
  exact r1q (cE rfl rfl)
theorem net_small : netE smallN = 0 := by kernel_rfl
end Go.Proofs.YtgmlimipejcpgaaGreatDoor
end
