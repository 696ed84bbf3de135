/-
  YtgmlimipejcpgaaGreatDoorLj31: steps of the proof of a law of the program: what these texts prove holds under the hypotheses that their theorems name, and no others.
-/
import Derived.Test.YtgmlimipejcpgaaGreatDoorLj28
import Derived.Test.YtgmlimipejcpgaaGreatDoorLj23
import Derived.Test.YtgmlimipejcpgaaGreatDoorLj30
import Derived.Test.YtgmlimipejcpgaaGreatDoorLj22
import Derived.Test.YtgmlimipejcpgaaGreatDoorLj24
import Derived.Test.YtgmlimipejcpgaaGreatDoorLj27
section
set_option linter.unusedVariables false
set_option linter.unusedSimpArgs false
namespace Go.Proofs.YtgmlimipejcpgaaGreatDoor
open Go Go.AM Fx
structure BK (h0 h : List B) (bk r g : Nat) (refs : List (Nat × Nat × Nat)) : Prop where
  len : h.length = h0.length
  hl : HL h
  bkk : h[bk]? = some (bookB r g refs.length)
  rr : ∃ fl, h[r]? = some (.row 47 g 0 fl (refs.map fun x => [rv x])) ∧ (fl = true → refs = [])
  rest : ∀ b, b ≠ r → b ≠ bk → h[b]? = h0[b]?
section
variable {h0 h h' : List B} {bk r g g' o b gb : Nat} {refs refs' : List (Nat × Nat × Nat)} {fl : Bool} {ids : List (Nat × Nat × Nat)} {P : List (List Int)}
theorem BK.lts (p : BK h0 h bk r g refs) : ∀ y ∈ refs.map (fun x => [rv x]), V.lts h.length y = true := fun y hy => by
  obtain ⟨f, h1, h2⟩ := p.rr
  cases f
  · exact ((p.hl.get h1).resolve_left (by simp)) y hy
  · rw [h2 rfl] at hy; simp at hy
theorem BK.ne (p : BK h0 h bk r g refs) : bk ≠ r := by
  obtain ⟨f, h1, h2⟩ := p.rr
  intro e; have := p.bkk; rw [e, h1] at this; cases this
theorem BK.r_lt (p : BK h0 h bk r g refs) : r < h.length := by
  obtain ⟨f, h1, h2⟩ := p.rr
  exact (List.getElem?_eq_some_iff.1 h1).1
theorem BK.step (p : BK h0 h bk r g refs) {x : Nat × Nat × Nat} (hx : x.1 < h.length) :
    BK h0 ((h.set r (.row 47 (g + 1) 0 false (refs.map (fun x => [rv x]) ++ [[.ref x.1 x.2.1 0 x.2.2]]))).set bk (bookB r (g + 1) (refs.length + 1))) bk r (g + 1) (refs ++ [x]) := by
  have hne := p.ne
  have hr := p.r_lt
  obtain ⟨f, hrr, _⟩ := p.rr
  have hxl : ∀ y ∈ refs.map (fun x => [rv x]) ++ [[V.ref x.1 x.2.1 0 x.2.2]], V.lts h.length y = true := fun y hy => by
    rcases List.mem_append.1 hy with hy | hy
    · exact p.lts y hy
    · rw [List.mem_singleton.1 hy]; simp [hx]
  have e1 : (h.set r (.row 47 (g + 1) 0 false (refs.map (fun x => [rv x]) ++ [[.ref x.1 x.2.1 0 x.2.2]])))[bk]? = h[bk]? := gN (fun e => hne e.symm)
  refine ⟨by simp [p.len], (p.hl.set (rowR_lt hxl)).set (by rw [List.length_set]; exact bookB_lt hr), ?_, ?_, fun b h1 h2 => ?_⟩
  · rw [get_set_eq (e1.trans p.bkk)]; simp
  · exact ⟨false, by rw [gN hne, get_set_eq hrr]; simp [rv], fun h => (by cases h)⟩
  · rw [gN (fun e => h2 e.symm), gN (fun e => h1 e.symm)]; exact p.rest b h1 h2
theorem N2.bkeep (q : N2 o h b gb fl ids P) (p : BK h0 h bk r g refs) (p' : BK h0 h' bk r g' refs') (hne : b ≠ r) : N2 o h' b gb fl ids P := by
  have key : ∀ k y, h[k]? = some y → k ≠ r → k ≠ bk → h'[k]? = some y := fun k y hk h1 h2 => by rw [p'.rest k h1 h2, ← p.rest k h1 h2]; exact hk
  refine ⟨key _ _ q.at0 hne (fun e => by have := q.at0; rw [e, p.bkk] at this; cases this), q.flat, q.len, fun j x hx => ?_, q.low, q.nodup⟩
  obtain ⟨ns, h1, h2, h3⟩ := q.rows j x hx
  exact ⟨ns, h1, h2, key _ _ h3 (fun e => by obtain ⟨f, hrr, _⟩ := p.rr; rw [e, hrr] at h3; cases h3) (fun e => by rw [e, p.bkk] at h3; cases h3)⟩
theorem N3.bkeep {T : List (Nat × Nat × Bool × List (Nat × Nat × Nat))} {PP : List (List (List Int))} (q : N3 o h b gb fl T PP) (p : BK h0 h bk r g refs) (p' : BK h0 h' bk r g' refs') (hne : ∀ y ∈ T, y.1 ≠ r) : N3 o h' b gb fl T PP := by
  have key : ∀ k y, h[k]? = some y → k ≠ r → k ≠ bk → h'[k]? = some y := fun k y hk h1 h2 => by rw [p'.rest k h1 h2, ← p.rest k h1 h2]; exact hk
  refine ⟨key _ _ q.at0 (fun e => by obtain ⟨f, hrr, _⟩ := p.rr; have := q.at0; rw [e, hrr] at this; cases this) (fun e => by have := q.at0; rw [e, p.bkk] at this; cases this), q.flat, q.len, fun i y hy => ?_, q.low, q.nodup⟩
  obtain ⟨Q, h1, h2⟩ := q.rows i y hy
  exact ⟨Q, h1, h2.bkeep p p' (hne y (List.mem_of_getElem? hy))⟩
end
theorem g_TakeB {h0 h : List B} {bk r g : Nat} {refs : List (Nat × Nat × Nat)} (p : BK h0 h bk r g refs) {x : Nat × Nat × Nat} (hx : x.1 < h.length) (hm : refs.length ≤ 5000000000000) :
    GCall Tryz.prog GV 31 [.ptr bk 0, .ref x.1 x.2.1 0 x.2.2] h (fun v h' => v = .tup [] ∧ BK h0 h' bk r (g + 1) (refs ++ [x])) := by
  obtain ⟨f, hrr, _⟩ := p.rr
  refine (g_Take p.hl p.bkk hrr p.lts (by simp) hx hm).mono fun v h' ⟨h1, h2⟩ => ⟨h1, ?_⟩
  rw [h2]
  exact p.step hx
set_option maxHeartbeats 4000000 in
theorem g_TakeIntLists {h0 h : List B} {bk r g o b gb : Nat} {refs : List (Nat × Nat × Nat)} {fl : Bool} {ids : List (Nat × Nat × Nat)} {P : List (List Int)} (p : BK h0 h bk r g refs) (q : N2 o h b gb fl ids P) (hne : b ≠ r) (hm : refs.length + ids.length ≤ 5000000000000) :
    GCall Tryz.prog GV 110 [.ptr bk 0, .ref b gb 0 ids.length] h (fun v h' => v = .tup [] ∧ BK h0 h' bk r (g + ids.length) (refs ++ ids)) := by
  have hbk := (List.getElem?_eq_some_iff.1 p.bkk).1
  have hb := q.b_lt
  refine gB1 Tryz.func110 rfl (by decide) Tryz.ntmps110 (by simp) Tryz.results110 ?_
  repeat' (first
 |refine aK fun K hK=>?_|refine Step.by1 ?_|refine sE (by decide) ?_|refine cz rfl ?_|refine Fork.by2 (fun h=>?_) fun h=>?_
 |(refine aR ?_;simp)
 |(refine Split.by2 (fun h=>?_) (fun h=>?_)<;>(simp [h]))
 |(apply hK;clear hK K)|refine AWh ‹_› ?_)
  refine aL [0, 1] (fun s : Nat × List B => [(4, .int .i64 s.1)]) (fun s => s.2) (fun s => s.1 ≤ ids.length ∧ BK h0 s.2 bk r (g + s.1) (refs ++ ids.take s.1)) (fun s => ids.length - s.1) (0, h) ⟨Nat.zero_le _, by simpa using p⟩ (Weak.sym (x := []) (by simp) p.hl (by simp [hbk, hb])) (fun s hs => hs.2.len.trans p.len.symm) ?_
  rintro ⟨i, hc⟩ ⟨hi, k⟩
  simp only at hi k
  have qc := q.bkeep p k hne
  have hcl := k.len.trans p.len.symm
  by_cases hlt : i < ids.length
  · obtain ⟨x, hx⟩ : ∃ x, ids[i] = x := ⟨_, rfl⟩
    have hx' : ids[i]? = some x := by rw [List.getElem?_eq_getElem hlt, hx]
    have hlt' : (i : Int) < ids.length := by omega
    have w1 : IntKind.i64.wrap ((i : Int) + 1) = i + 1 := wI (by omega) (by omega)
    have c0 := qc.at0
    have c1 : (ids.map fun x => [rv x])[i]? = some [.ref x.1 x.2.1 0 x.2.2] := by simp [hx', rv]
    have hxl := qc.ids_lt x (List.mem_of_getElem? hx')
    have ht : refs ++ ids.take i ++ [x] = refs ++ ids.take (i + 1) := by rw [List.take_add_one, hx']; simp
    repeat' (first
 |refine aK fun K hK=>?_|refine Step.by1 ?_|refine sE (by decide) ?_|refine cz rfl ?_|refine Fork.by2 (fun h=>?_) fun h=>?_
 |(refine aR ?_;simp [c0, c1, hlt, hlt', hx, w1, rv])
 |(refine Split.by2 (fun h=>?_) (fun h=>?_)<;>(simp [h, c0, c1, hlt, hlt', hx, w1, rv]))
 |(refine aG (f := 31) rfl rfl (g_TakeB k hxl (by simp; omega)) rfl (fun v h' hq => ?_); obtain ⟨rfl, hst⟩ := hq; simp)
 |(apply hK;clear hK K)|refine AWh ‹_› ?_)
    rw [ht] at hst
    have hsn := hst.len.trans p.len.symm
    exact ⟨i + 1, _, ⟨by omega, hst⟩, by omega, Weak.sym (x := []) (by simp) hst.hl (by simp [hsn, hbk, hb])⟩
  · obtain rfl : i = ids.length := by omega
    rw [List.take_length] at k
    repeat' (first
 |refine aK fun K hK=>?_|refine Step.by1 ?_|refine sE (by decide) ?_|refine cz rfl ?_|refine Fork.by2 (fun h=>?_) fun h=>?_
 |(refine aR ?_;simp)
 |(refine Split.by2 (fun h=>?_) (fun h=>?_)<;>(simp [h]))
 |(apply hK;clear hK K)|refine AWh ‹_› ?_)
    exact ⟨.inl rfl, _, _, ⟨[], rfl, trivial⟩, ⟨rfl, k⟩, rfl, Go.AM.Leaves.sym (show h.length ≤ hc.length by omega) k.hl⟩
def ids3 (T : Rows3) : List (Nat × Nat × Nat) := T.flatMap (·.2.2.2)
theorem ids3_at {T : Rows3} {i : Nat} {y : Nat × Nat × Bool × List (Nat × Nat × Nat)} (h : T[i]? = some y) : ids3 (T.take (i + 1)) = ids3 (T.take i) ++ y.2.2.2 := by
  unfold ids3; rw [List.take_add_one, h]; simp
theorem ids3_le {T : Rows3} {i : Nat} {y : Nat × Nat × Bool × List (Nat × Nat × Nat)} (h : T[i]? = some y) : (ids3 (T.take i)).length + y.2.2.2.length ≤ (ids3 T).length := by
  have e : ids3 T = ids3 (T.take (i + 1)) ++ ids3 (T.drop (i + 1)) := by unfold ids3; rw [← List.flatMap_append, List.take_append_drop]
  have := congrArg List.length e
  rw [ids3_at h] at this
  simp at this; omega
theorem BK.base {h0 h hc : List B} {bk r g g' : Nat} {refs refs' : List (Nat × Nat × Nat)} {e : B} (p : BK h0 h bk r g refs) (k : BK (h ++ [e]) hc bk r g' refs') (hx : ∀ x ∈ refs', x.1 < h.length) :
    ∃ h', hc = h' ++ [e] ∧ BK h0 h' bk r g' refs' := by
  have hbk := (List.getElem?_eq_some_iff.1 p.bkk).1
  have hr := p.r_lt
  have hl : hc.length = h.length + 1 := by simpa using k.len
  have e1 : hc = hc.take h.length ++ [e] := by
    apply List.ext_getElem?
    intro b
    rcases Nat.lt_or_ge b h.length with hb | hb
    · rw [List.getElem?_append_left (by simp; omega), List.getElem?_take_of_lt hb]
    · have := k.rest b (by omega) (by omega)
      rw [this, List.getElem?_append_right hb, List.getElem?_append_right (by simp; omega)]
      simp; congr 1; omega
  have tl : (hc.take h.length).length = h.length := by simp; omega
  have tk : ∀ b, b < h.length → (hc.take h.length)[b]? = hc[b]? := fun b hb => List.getElem?_take_of_lt hb
  refine ⟨_, e1, tl.trans p.len, fun y hy => ?_, by rw [tk _ hbk]; exact k.bkk, by rw [tk _ hr]; exact k.rr, fun b h1 h2 => ?_⟩
  · obtain ⟨b, hb⟩ := List.getElem?_of_mem hy
    have hbl : b < h.length := by rw [← tl]; exact (List.getElem?_eq_some_iff.1 hb).1
    rw [tk _ hbl] at hb
    rw [tl]
    by_cases h1 : b = r
    · subst h1
      obtain ⟨f, hrr, _⟩ := k.rr
      rw [hrr] at hb; cases hb
      exact rowR_lt fun z hz => by
        obtain ⟨x, hxm, rfl⟩ := List.mem_map.1 hz
        simp [rv, hx x hxm]
    · by_cases h2 : b = bk
      · subst h2
        rw [k.bkk] at hb; cases hb
        exact bookB_lt hr
      · rw [k.rest b h1 h2, List.getElem?_append_left hbl] at hb
        exact p.hl.get hb
  · rcases Nat.lt_or_ge b h.length with hb | hb
    · rw [tk _ hb, k.rest b h1 h2, List.getElem?_append_left hb]; exact p.rest b h1 h2
    · rw [List.getElem?_eq_none (by omega), List.getElem?_eq_none (by rw [← p.len]; exact hb)]
set_option maxRecDepth 20000 in
set_option maxHeartbeats 8000000 in
theorem g_TakePlan {h0 h : List B} {bk r g o1 o2 b1 g1 b2 g2 : Nat} {refs : List (Nat × Nat × Nat)} {fl1 fl2 : Bool} {T1 T2 : Rows3} {P1 P2 : List (List (List Int))} (p : BK h0 h bk r g refs) (q1 : N3 o1 h b1 g1 fl1 T1 P1) (q2 : N3 o2 h b2 g2 fl2 T2 P2)
    (hn1 : ∀ y ∈ T1, y.1 ≠ r) (hn2 : ∀ y ∈ T2, y.1 ≠ r) (hrl : ∀ x ∈ refs, x.1 < h.length) (hm : refs.length + (ids3 T1).length + (ids3 T2).length ≤ 5000000000000) (ht1 : T1.length ≤ 1048576) (ht2 : T2.length ≤ 1048576) :
    GCall Tryz.prog GV 42 [.ptr bk 0, .agg [.ref b1 g1 0 T1.length, .ref b2 g2 0 T2.length]] h (fun v h' => v = .tup [] ∧ BK h0 h' bk r (g + ((ids3 T1).length + (ids3 T2).length)) (refs ++ (ids3 T1 ++ ids3 T2))) := by
  have hbk := (List.getElem?_eq_some_iff.1 p.bkk).1
  have hr := p.r_lt
  have hb1 := q1.b_lt
  have hb2 := q2.b_lt
  obtain ⟨e, he⟩ : ∃ e, e = B.var [V.ref b1 g1 0 T1.length, V.ref b2 g2 0 T2.length] := ⟨_, rfl⟩
  have hle : HL (h ++ [e]) := p.hl.push (by subst he; simp; omega)
  have hap : ∀ k, k < h.length → (h ++ [e])[k]? = h[k]? := fun k hk => List.getElem?_append_left hk
  have p0 : BK (h ++ [e]) (h ++ [e]) bk r g refs := ⟨rfl, hle, by rw [hap _ hbk]; exact p.bkk, by rw [hap _ hr]; exact p.rr, fun _ _ _ => rfl⟩
  have q1' := q1.mono (h' := h ++ [e]) hap
  have q2' := q2.mono (h' := h ++ [e]) hap
  refine gB1 Tryz.func42 rfl (by decide) Tryz.ntmps42 (by simp) Tryz.results42 ?_
  repeat' (first
 |refine aK fun K hK=>?_|refine Step.by1 ?_|refine sE (by decide) ?_|refine cz rfl ?_|refine Fork.by2 (fun h=>?_) fun h=>?_
 |(refine aR ?_;simp)
 |(refine Split.by2 (fun h=>?_) (fun h=>?_)<;>(simp [h]))
 |(apply hK;clear hK K)|refine AWh ‹_› ?_)
  refine aL [0, 3] (fun s : Nat × List B => [(4, .int .i64 s.1)]) (fun s => s.2) (fun s => s.1 ≤ T1.length ∧ BK (h ++ [e]) s.2 bk r (g + (ids3 (T1.take s.1)).length) (refs ++ ids3 (T1.take s.1))) (fun s => T1.length - s.1) (0, h ++ [e]) ⟨Nat.zero_le _, by simpa [ids3] using p0⟩ (Weak.sym (x := []) (by simp [he]) hle (by simp; omega)) (fun s hs => by rw [hs.2.len]; simp) ?_
  rintro ⟨i, hc⟩ ⟨hi, k⟩
  simp only at hi k
  have hcl : hc.length = h.length + 1 := by simpa using k.len
  have hce : hc[h.length]? = some e := by rw [k.rest _ (by omega) (by omega)]; simp
  have c1 := q1'.bkeep p0 k hn1
  have c2 := q2'.bkeep p0 k hn2
  by_cases hlt : i < T1.length
  · obtain ⟨y, hy⟩ : ∃ y, T1[i] = y := ⟨_, rfl⟩
    have hy' : T1[i]? = some y := by rw [List.getElem?_eq_getElem hlt, hy]
    have hlt' : (i : Int) < T1.length := by omega
    have w1 : IntKind.i64.wrap ((i : Int) + 1) = i + 1 := wI (by omega) (by omega)
    have c0 := c1.at0
    have d1 : (T1.map fun y => [V.ref y.1 y.2.1 0 y.2.2.2.length])[i]? = some [.ref y.1 y.2.1 0 y.2.2.2.length] := by simp [hy']
    obtain ⟨Q, hQ, hN⟩ := c1.rows i y hy'
    have hyn := hn1 y (List.mem_of_getElem? hy')
    have ha := ids3_at hy'
    have hle3 := ids3_le hy'
    have hbd : (refs ++ ids3 (T1.take i)).length + y.2.2.2.length ≤ 5000000000000 := by simp; omega
    repeat' (first
 |refine aK fun K hK=>?_|refine Step.by1 ?_|refine sE (by decide) ?_|refine cz rfl ?_|refine Fork.by2 (fun h=>?_) fun h=>?_
 |(refine aR ?_;simp [hce, he, c0, d1, hlt, hlt', hy, w1])
 |(refine Split.by2 (fun h=>?_) (fun h=>?_)<;>(simp [h, hce, he, c0, d1, hlt, hlt', hy, w1]))
 |(refine aG (f := 110) rfl rfl (g_TakeIntLists k hN hyn hbd) rfl (fun v h' hq => ?_); obtain ⟨rfl, hst⟩ := hq; simp)
 |(apply hK;clear hK K)|refine AWh ‹_› ?_)
    rw [Nat.add_assoc, ← List.length_append, List.append_assoc, ← ha] at hst
    have hsn : h'.length = h.length + 1 := by simpa using hst.len
    rw [he] at hst
    refine ⟨i + 1, _, ⟨by omega, hst⟩, by omega, Weak.sym (x := []) (by simp) hst.hl (by simp [hsn]; omega)⟩
  · obtain rfl : i = T1.length := by omega
    rw [List.take_length] at k
    repeat' (first
 |refine aK fun K hK=>?_|refine Step.by1 ?_|refine sE (by decide) ?_|refine cz rfl ?_|refine Fork.by2 (fun h=>?_) fun h=>?_
 |(refine aR ?_;simp [hce, he])
 |(refine Split.by2 (fun h=>?_) (fun h=>?_)<;>(simp [h, hce, he]))
 |(apply hK;clear hK K)|refine AWh ‹_› ?_)
    refine aL [0, 3] (fun s : Nat × List B => [(5, .int .i64 s.1)]) (fun s => s.2) (fun s => s.1 ≤ T2.length ∧ BK (h ++ [e]) s.2 bk r (g + ((ids3 T1).length + (ids3 (T2.take s.1)).length)) (refs ++ (ids3 T1 ++ ids3 (T2.take s.1)))) (fun s => T2.length - s.1) (0, hc) ⟨Nat.zero_le _, by simpa [ids3] using k⟩ (Weak.sym (x := []) (by simp) k.hl (by simp [hcl]; omega)) (fun s hs => by rw [hs.2.len, hcl]; simp) ?_
    rintro ⟨i, hc2⟩ ⟨hi2, k2⟩
    simp only at hi2 k2
    have hcl2 : hc2.length = h.length + 1 := by simpa using k2.len
    have hce2 : hc2[h.length]? = some e := by rw [k2.rest _ (by omega) (by omega)]; simp
    have c2 := q2'.bkeep p0 k2 hn2
    by_cases hlt : i < T2.length
    · obtain ⟨y, hy⟩ : ∃ y, T2[i] = y := ⟨_, rfl⟩
      have hy' : T2[i]? = some y := by rw [List.getElem?_eq_getElem hlt, hy]
      have hlt' : (i : Int) < T2.length := by omega
      have w1 : IntKind.i64.wrap ((i : Int) + 1) = i + 1 := wI (by omega) (by omega)
      have c0 := c2.at0
      have d1 : (T2.map fun y => [V.ref y.1 y.2.1 0 y.2.2.2.length])[i]? = some [.ref y.1 y.2.1 0 y.2.2.2.length] := by simp [hy']
      obtain ⟨Q, hQ, hN⟩ := c2.rows i y hy'
      have hyn := hn2 y (List.mem_of_getElem? hy')
      have ha := ids3_at hy'
      have hle3 := ids3_le hy'
      have hbd : (refs ++ (ids3 T1 ++ ids3 (T2.take i))).length + y.2.2.2.length ≤ 5000000000000 := by simp; omega
      repeat' (first
 |refine aK fun K hK=>?_|refine Step.by1 ?_|refine sE (by decide) ?_|refine cz rfl ?_|refine Fork.by2 (fun h=>?_) fun h=>?_
 |(refine aR ?_;simp [hce2, he, c0, d1, hlt, hlt', hy, w1])
 |(refine Split.by2 (fun h=>?_) (fun h=>?_)<;>(simp [h, hce2, he, c0, d1, hlt, hlt', hy, w1]))
 |(refine aG (f := 110) rfl rfl (g_TakeIntLists k2 hN hyn hbd) rfl (fun v h' hq => ?_); obtain ⟨rfl, hst⟩ := hq; simp)
 |(apply hK;clear hK K)|refine AWh ‹_› ?_)
      rw [Nat.add_assoc, Nat.add_assoc, ← List.length_append, List.append_assoc, List.append_assoc, ← ha] at hst
      have hsn : h'.length = h.length + 1 := by simpa using hst.len
      rw [he] at hst
      refine ⟨i + 1, _, ⟨by omega, hst⟩, by omega, Weak.sym (x := []) (by simp) hst.hl (by simp [hsn]; omega)⟩
    · obtain rfl : i = T2.length := by omega
      rw [List.take_length] at k2
      have hmx : ∀ {o b gg : Nat} {fl : Bool} {T : Rows3} {PP : List (List (List Int))}, N3 o h b gg fl T PP → ∀ x ∈ ids3 T, x.1 < h.length := fun q x hx => by
        obtain ⟨y, h1, h2⟩ := List.mem_flatMap.1 hx
        exact q.ids_lt y h1 x h2
      obtain ⟨h', rfl, k3⟩ := p.base k2 (fun x hx => by
        rcases List.mem_append.1 hx with h1 | h1
        · exact hrl x h1
        · rcases List.mem_append.1 h1 with h2 | h2
          · exact hmx q1 x h2
          · exact hmx q2 x h2)
      have hl' : h.length ≤ h'.length := by simp at hcl2; omega
      rw [he] at hce2
      repeat' (first
 |refine aK fun K hK=>?_|refine Step.by1 ?_|refine sE (by decide) ?_|refine cz rfl ?_|refine Fork.by2 (fun h=>?_) fun h=>?_
 |(refine aR ?_;simp [hce2, he])
 |(refine Split.by2 (fun h=>?_) (fun h=>?_)<;>(simp [h, hce2, he]))
 |(apply hK;clear hK K)|refine AWh ‹_› ?_)
      exact ⟨.inl rfl, _, _, ⟨[], rfl, trivial⟩, ⟨rfl, k3⟩, rfl, Go.Proofs.YtgmlimipejcpgaaGreatDoor.Leaves.symx hl' k3.hl⟩
theorem g_TakePlanNil {h : List B} (hl : HL h) {bk : Nat} (hb : bk < h.length) : GCall Tryz.prog GV 42 [.ptr bk 0, .agg [.nils, .nils]] h (fun v h' => v = .tup [] ∧ h' = h) := by
  have g0 := fun x : List B => ga0 (h := h) (x := x) rfl
  refine gB1 Tryz.func42 rfl (by decide) Tryz.ntmps42 (by simp) Tryz.results42 ?_
  repeat' (first
 |refine AW_loop0 ?_
 |refine aK fun K hK=>?_|refine Step.by1 ?_|refine sE (by decide) ?_|refine cz rfl ?_|refine Fork.by2 (fun h=>?_) fun h=>?_
 |(refine aR ?_;simp [g0])
 |(refine Split.by2 (fun h=>?_) (fun h=>?_)<;>(simp [h, g0]))
 |(apply hK;clear hK K)|refine AWh ‹_› ?_)
  exact ⟨.inl rfl, _, _, ⟨[], rfl, trivial⟩, ⟨rfl, rfl⟩, rfl, Go.Proofs.YtgmlimipejcpgaaGreatDoor.Leaves.symx (Nat.le_refl _) hl⟩
theorem BK.old {h0 h h2 : List B} {bk r g : Nat} {refs : List (Nat × Nat × Nat)} (p : BK h0 h bk r g refs) (ho : Old h h2) : BK h2 h2 bk r g refs := by
  obtain ⟨f, hrr, hf⟩ := p.rr
  exact ⟨rfl, ho.hl, ho.get p.bkk, ⟨f, ho.get hrr, hf⟩, fun _ _ _ => rfl⟩
theorem BK.init {h : List B} {bk r : Nat} (hl : HL h) (h1 : h[bk]? = some (bookB r 0 0)) (h2 : h[r]? = some (.row 47 0 0 true [])) : BK h h bk r 0 [] :=
  ⟨rfl, hl, h1, ⟨true, h2, fun _ => rfl⟩, fun _ _ _ => rfl⟩
theorem N3.mem_row {o h b g fl} {T : Rows3} {P : List (List (List Int))} (q : N3 o h b g fl T P) {x : Nat × Nat × Nat} (hx : x ∈ ids3 T) :
    ∃ ns Q, Q ∈ P ∧ ns ∈ Q ∧ h[x.1]? = some (.row 3 x.2.1 0 true (ivs ns)) ∧ ns.length = x.2.2 := by
  obtain ⟨y, h1, h2⟩ := List.mem_flatMap.1 hx
  obtain ⟨i, hi⟩ := List.getElem?_of_mem h1
  obtain ⟨Q, hQ, hN⟩ := q.rows i y hi
  obtain ⟨j, hj⟩ := List.getElem?_of_mem h2
  obtain ⟨ns, k1, k2, k3⟩ := hN.rows j x hj
  exact ⟨ns, Q, List.mem_of_getElem? hQ, List.mem_of_getElem? k1, k3, k2⟩
theorem N3.low_row {o h b g fl} {T : Rows3} {P : List (List (List Int))} (q : N3 o h b g fl T P) : (∀ y ∈ T, o ≤ y.1) ∧ ∀ x ∈ ids3 T, o ≤ x.1 := by
  have key : ∀ y ∈ T, o ≤ y.1 ∧ ∀ x ∈ y.2.2.2, o ≤ x.1 := fun y hy => by
    obtain ⟨i, hi⟩ := List.getElem?_of_mem hy
    obtain ⟨Q, hQ, hN⟩ := q.rows i y hi
    exact hN.low
  refine ⟨fun y hy => (key y hy).1, fun x hx => ?_⟩
  obtain ⟨y, h1, h2⟩ := List.mem_flatMap.1 hx
  exact (key y h1).2 x h2
theorem N3.hi_row {o h b g fl} {T : Rows3} {P : List (List (List Int))} (q : N3 o h b g fl T P) : (∀ y ∈ T, y.1 < h.length) ∧ ∀ x ∈ ids3 T, x.1 < h.length := by
  refine ⟨fun y hy => ?_, fun x hx => ?_⟩
  · obtain ⟨i, hi⟩ := List.getElem?_of_mem hy
    obtain ⟨Q, hQ, hN⟩ := q.rows i y hi
    exact hN.b_lt
  · obtain ⟨y, h1, h2⟩ := List.mem_flatMap.1 hx
    exact q.ids_lt y h1 x h2
theorem ids3_bound : ∀ {T : Rows3}, (∀ y ∈ T, y.2.2.2.length ≤ 1048576) → (ids3 T).length ≤ T.length * 1048576
  | [], _ => by simp [ids3]
  | y :: T, h => by
    have h1 := ids3_bound (T := T) fun z hz => h z (List.mem_cons_of_mem _ hz)
    have h2 := h y (by simp)
    have e : (ids3 (y :: T)).length = y.2.2.2.length + (ids3 T).length := by simp [ids3]
    rw [e, List.length_cons, Nat.add_mul]
    omega
theorem N3.ids3_len {o h b g fl} {T : Rows3} {P : List (List (List Int))} (q : N3 o h b g fl T P) (h1 : P.length ≤ 1048576) (h2 : ∀ Q ∈ P, Q.length ≤ 1048576) : (ids3 T).length ≤ 1099511627776 := by
  have h3 : T.length ≤ 1048576 := by rw [← q.len]; exact h1
  have := ids3_bound (T := T) fun y hy => by
    obtain ⟨i, hi⟩ := List.getElem?_of_mem hy
    obtain ⟨Q, hQ, hN⟩ := q.rows i y hi
    rw [← hN.len]; exact h2 Q (List.mem_of_getElem? hQ)
  omega
end Go.Proofs.YtgmlimipejcpgaaGreatDoor
end
section
set_option linter.unusedSimpArgs false
set_option linter.unusedVariables false
namespace Go.Proofs.YtgmlimipejcpgaaGreatDoor
open Go Go.AM Fx





theorem ivs_set {l : List Int} {c : Nat} {v : Int} : ivs (l.set c v) = (ivs l).set c [V.int .i64 v] := by simp [ivs, List.map_set]
theorem rows3V_takeS {P : List (List (List Int))} {i : Nat} {Q : List (List Int)} (h : P[i]? = some Q) : rows3V (P.take (i + 1)) = rows3V (P.take i) ++ [[V.vec (rows2V Q) Q.length]] := by
  unfold rows3V; rw [List.take_add_one, h, List.map_append]; rfl
theorem rows2V_takeS {P : List (List Int)} {i : Nat} {r : List Int} (h : P[i]? = some r) : rows2V (P.take (i + 1)) = rows2V (P.take i) ++ [[V.vec (ivs r) r.length]] := by
  unfold rows2V; rw [List.take_add_one, h, List.map_append]; rfl
def mxI (x y : Int) : Int := if y > x then y else x
def mxR (x y : List Int) : List Int := List.zipWith mxI x y
def mxQ (Q R : List (List Int)) : List (List Int) := List.zipWith mxR Q R
def mxP (A C : List (List (List Int))) : List (List (List Int)) := List.zipWith mxQ A C
/-- The same rows. -/
structure Shp (A C : List (List (List Int))) : Prop where
  len : A.length = C.length
  rows : ∀ (i : Nat) (Q R : List (List Int)), A[i]? = some Q → C[i]? = some R → Q.length = R.length ∧ ∀ (k : Nat) (x y : List Int), Q[k]? = some x → R[k]? = some y → x.length = y.length
theorem zip_at {α β γ : Type} {f : α → β → γ} {l : List α} {m : List β} {i : Nat} {x : α} {y : β} (hx : l[i]? = some x) (hy : m[i]? = some y) : (List.zipWith f l m)[i]? = some (f x y) := by
  rw [List.getElem?_zipWith, hx, hy]
theorem zip_take {α β γ : Type} {f : α → β → γ} {l : List α} {m : List β} {i : Nat} {x : α} {y : β} (hx : l[i]? = some x) (hy : m[i]? = some y) : (List.zipWith f l m).take (i + 1) = (List.zipWith f l m).take i ++ [f x y] := by
  rw [List.take_add_one, zip_at hx hy]; rfl
set_option maxRecDepth 20000 in
set_option maxHeartbeats 16000000 in
theorem g_greatest (A C : List (List (List Int))) (hA : planOk A) (hs : Shp A C) {h : List B} (hl : HL h) :
    GCall Tryz.prog GV 117 [halfV A, halfV C] h (fun v h' => ∃ b g fl T, v = .ref b g 0 T.length ∧ Old h h' ∧ N3 h.length h' b g fl T (mxP A C)) := by
  have hal := hA.1
  have hcl0 := hs.len
  have ra : (rows3V A).length = A.length := rows3V_len
  have rc : (rows3V C).length = C.length := rows3V_len
  unfold halfV
  refine gB1 Tryz.func117 rfl (by decide) Tryz.ntmps117 (by simp) Tryz.results117 ?_
  repeat' (first
 |refine aK fun K hK=>?_|refine Step.by1 ?_|refine sE (by decide) ?_|refine cz rfl ?_|refine Fork.by2 (fun h=>?_) fun h=>?_
 |(refine aR ?_;simp)
 |(refine Split.by2 (fun h=>?_) (fun h=>?_)<;>(simp [h]))
 |(apply hK;clear hK K)|refine AWh ‹_› ?_)
  refine AW_nilrow 5 54 rfl (by simp) ?_
  refine AW_loopGL [1, 13, 14] (fun s : HA => [(5, .ref h.length s.i 0 s.i), (15, .int .i64 s.i)]) (fun s => s.hc) (fun s => s.i ≤ A.length ∧ Old h s.hc ∧ s.T.length = s.i ∧ N3 h.length s.hc h.length s.i s.fl s.T ((mxP A C).take s.i)) (fun s => A.length - s.i) ⟨0, h ++ [B.row 54 0 0 true []], true, []⟩
    ⟨Nat.zero_le _, (Old.rfl hl).app (hl.app (by simp)), rfl, ⟨by rw [ga0 rfl]; rfl, fun _ => rfl, by simp, fun i y hy => by simp at hy, Nat.le_refl _, by simp⟩⟩
    (Weak.sym (x := []) (by simp) (hl.app (by simp)) (by simp)) (fun s hs => by have := hs.2.2.2.b_lt; simp; omega) ?_
  rintro ⟨i, hc, fl, T⟩ ⟨hi, ho, hT, hp⟩
  simp only at hi ho hT hp
  by_cases hlt : i < A.length
  · obtain ⟨Q, hQQ⟩ : ∃ Q, A[i] = Q := ⟨_, rfl⟩
    have hltC : i < C.length := by omega
    obtain ⟨R, hRR⟩ : ∃ R, C[i] = R := ⟨_, rfl⟩
    have hQ? : A[i]? = some Q := by rw [List.getElem?_eq_getElem hlt, hQQ]
    have hR? : C[i]? = some R := by rw [List.getElem?_eq_getElem hltC, hRR]
    obtain ⟨hqr, hrows⟩ := hs.rows i Q R hQ? hR?
    have hpi := zip_take (f := mxQ) hQ? hR?
    have hll := (hA.2 Q (List.mem_of_getElem? hQ?)).1
    have hrl := (hA.2 Q (List.mem_of_getElem? hQ?)).2
    have hlt' : (i : Int) < A.length := by omega
    have hltC' : (i : Int) < C.length := by omega
    have w1 : IntKind.i64.wrap ((i : Int) + 1) = i + 1 := wI (by omega) (by omega)
    have hby : (i + 1) * 24 ≤ 140737488355328 := by omega
    have a2 := rows3V_get hQ?
    have a3 : (rows3V A)[i]'(by omega) = [V.vec (rows2V Q) Q.length] := by rw [List.getElem?_eq_getElem (by omega)] at a2; exact Option.some.inj a2
    have c2 := rows3V_get hR?
    have c3 : (rows3V C)[i]'(by omega) = [V.vec (rows2V R) R.length] := by rw [List.getElem?_eq_getElem (by omega)] at c2; exact Option.some.inj c2
    have rq : (rows2V Q).length = Q.length := rows2V_len
    have rr : (rows2V R).length = R.length := rows2V_len
    repeat' (first
 |refine aK fun K hK=>?_|refine Step.by1 ?_|refine sE (by decide) ?_|refine cz rfl ?_|refine Fork.by2 (fun h=>?_) fun h=>?_
 |(refine aR ?_;simp [hlt, hlt', a2, a3, ra])
 |(refine Split.by2 (fun h=>?_) (fun h=>?_)<;>(simp [h, hlt, hlt', a2, a3, ra]))
 |(apply hK;clear hK K)|refine AWh ‹_› ?_)
    refine AW_nilrow 8 47 rfl (by simp) ?_
    have hA0 : HL (hc ++ [B.row 47 0 0 true []]) := ho.hl.app (by simp)
    refine AW_loopGL [1, 5, 6, 13, 14, 15, 20, 21] (fun s : HB => [(8, .ref hc.length s.j 0 s.j), (22, .int .i64 s.j)]) (fun s => s.hc) (fun s => s.j ≤ Q.length ∧ Old hc s.hc ∧ s.ids.length = s.j ∧ N2 hc.length s.hc hc.length s.j s.fl s.ids ((mxQ Q R).take s.j)) (fun s => Q.length - s.j) ⟨0, hc ++ [B.row 47 0 0 true []], true, []⟩
      ⟨Nat.zero_le _, (Old.rfl ho.hl).app hA0, rfl, ⟨by rw [ga0 rfl]; rfl, fun _ => rfl, by simp, fun i y hy => by simp at hy, ⟨Nat.le_refl _, by simp⟩, by simp⟩⟩
      (Weak.sym (x := []) (by simp) hA0 (by have := ho.len; have := hp.b_lt; simp; omega)) (fun s hs => by have := hs.2.2.2.b_lt; simp; omega) ?_
    rintro ⟨j, hd, fl2, ids⟩ ⟨hj, ho2, hil, hq⟩
    simp only at hj ho2 hil hq
    have hb2 := hq.b_lt
    by_cases hjl : j < Q.length
    · obtain ⟨x, hxx⟩ : ∃ x, Q[j] = x := ⟨_, rfl⟩
      have hjr : j < R.length := by omega
      obtain ⟨y, hyy⟩ : ∃ y, R[j] = y := ⟨_, rfl⟩
      have hx? : Q[j]? = some x := by rw [List.getElem?_eq_getElem hjl, hxx]
      have hy? : R[j]? = some y := by rw [List.getElem?_eq_getElem hjr, hyy]
      have hxy := hrows j x y hx? hy?
      have hxl := hrl x (List.mem_of_getElem? hx?)
      have hpa := zip_take (f := mxR) hx? hy?
      have hjl' : (j : Int) < Q.length := by omega
      have hjr' : (j : Int) < R.length := by omega
      have w2 : IntKind.i64.wrap ((j : Int) + 1) = j + 1 := wI (by omega) (by omega)
      have hby2 : (j + 1) * 24 ≤ 140737488355328 := by omega
      have d2 := rows2V_get hx?
      have d3 : (rows2V Q)[j]'(by omega) = [V.vec (ivs x) x.length] := by rw [List.getElem?_eq_getElem (by omega)] at d2; exact Option.some.inj d2
      have e2 := rows2V_get hy?
      have e3 : (rows2V R)[j]'(by omega) = [V.vec (ivs y) y.length] := by rw [List.getElem?_eq_getElem (by omega)] at e2; exact Option.some.inj e2
      have hcl := c_CloneI x hxl
      have ix : (ivs x).length = x.length := ivs_len
      have iy : (ivs y).length = y.length := ivs_len
      have g0 := fun x : List B => ga0 (h := hd) (x := x) rfl
      have kb := fun x : List B => (get_app (x := x) hb2).trans hq.at0
      have sb := fun (x : List B) (y : B) => set_app (x := x) (y := y) hb2
      have hml2 : (ids.map fun x => [rv x]).length = j := by simp [hil]
      repeat' (first
 |refine aK fun K hK=>?_|refine Step.by1 ?_|refine sE (by decide) ?_|refine cz rfl ?_|refine Fork.by2 (fun h=>?_) fun h=>?_
 |((first|refine aR ?_|refine AS_callO (f:=176) rfl rfl (hcl) rfl rfl ?_);simp [hjl, hjl', d2, d3, rq, ix])
 |(refine Split.by2 (fun h=>?_) (fun h=>?_)<;>(simp [h, hjl, hjl', d2, d3, rq, ix]))
 |(apply hK;clear hK K)|refine AWh ‹_› ?_)
      refine aL [1, 5, 6, 8, 9, 11, 13, 14, 15, 20, 21, 22, 30] (fun s : Nat × List Int => [(31, .int .i64 s.1)]) (fun s => hd ++ [B.row 3 0 0 true (ivs s.2)]) (fun s => s.1 ≤ x.length ∧ s.2.length = x.length ∧ ∀ q, q < x.length → s.2[q]? = some (if q < s.1 then mxI (x.getD q 0) (y.getD q 0) else x.getD q 0)) (fun s => x.length - s.1) (0, x)
        ⟨Nat.zero_le _, rfl, fun q hq => by simp [List.getD, hq]⟩ (Weak.sym (x := []) (by simp) (ho2.hl.app (by simp)) (by have := ho2.len; have := ho.len; have := hp.b_lt; simp; omega)) (fun s hs => by simp) ?_
      rintro ⟨k, c⟩ ⟨hk, hcl2, hcv⟩
      simp only at hk hcl2 hcv
      have hcl3 : (ivs c).length = x.length := by rw [ivs_len, hcl2]
      by_cases hkl : k < x.length
      · have hkl' : (k : Int) < x.length := by omega
        have w3 : IntKind.i64.wrap ((k : Int) + 1) = k + 1 := wI (by omega) (by omega)
        have hky : k < y.length := by omega
        have hky' : (k : Int) < y.length := by omega
        have hck? := hcv k hkl
        rw [if_neg (by omega)] at hck?
        obtain ⟨u, hu⟩ : ∃ u, x.getD k 0 = u := ⟨_, rfl⟩
        obtain ⟨w, hw⟩ : ∃ w, y.getD k 0 = w := ⟨_, rfl⟩
        rw [hu] at hck?
        have hyk? : y[k]? = some w := by rw [← hw]; simp [List.getD, hky]
        have f2 := ivs_get hck?
        have f3 : (ivs c)[k]'(by omega) = [V.int .i64 u] := by rw [List.getElem?_eq_getElem (by omega)] at f2; exact Option.some.inj f2
        have q2 := ivs_get hyk?
        have q3 : (ivs y)[k]'(by omega) = [V.int .i64 w] := by rw [List.getElem?_eq_getElem (by omega)] at q2; exact Option.some.inj q2
        have s0 := fun (x : List B) (y : B) => sa0 (h := hd) (x := x) (y := y) rfl
        have hs1 : ∀ v, (ivs c).set k [V.int .i64 v] = ivs (c.set k v) := fun v => ivs_set.symm
        have hnext : ∀ v, mxI u w = v → ∀ q, q < x.length → (c.set k v)[q]? = some (if q < k + 1 then mxI (x.getD q 0) (y.getD q 0) else x.getD q 0) := fun v hv q hq => by
          rw [List.getElem?_set]
          by_cases e : k = q
          · subst e; rw [if_pos rfl, if_pos (by omega), if_pos (by omega), hu, hw, hv]
          · rw [if_neg e, hcv q hq]
            by_cases e2 : q < k
            · rw [if_pos e2, if_pos (by omega)]
            · rw [if_neg e2, if_neg (by omega)]
        by_cases huw : u < w
        · have hn2 := hnext w (by simp [mxI, huw])
          repeat' (first
 |refine aK fun K hK=>?_|refine Step.by1 ?_|refine sE (by decide) ?_|refine cz rfl ?_|refine Fork.by2 (fun h=>?_) fun h=>?_
 |((first|refine aR ?_|refine aX (id:=13) 18 mixed (by decide) ?_);simp [hkl, hkl', w3, g0, s0, hcl3, f2, f3, hs1, hltC, hltC', c2, c3, rc, hjr, hjr', e2, e3, rr, hky, hky', q2, q3, iy, huw])
 |(refine Split.by2 (fun h=>?_) (fun h=>?_)<;>(simp [h, hkl, hkl', w3, g0, s0, hcl3, f2, f3, hs1, hltC, hltC', c2, c3, rc, hjr, hjr', e2, e3, rr, hky, hky', q2, q3, iy, huw]))
 |(apply hK;clear hK K)|refine AWh ‹_› ?_)
          exact ⟨k + 1, c.set k w, ⟨by show k + 1 ≤ _; omega, by simp [hcl2], hn2⟩, by show _ - (k + 1) < _ - k; omega, Weak.sym (x := []) (by simp) (ho2.hl.app (by simp)) (by have := ho2.len; have := ho.len; have := hp.b_lt; simp; omega)⟩
        · have hn2 := hnext u (by simp [mxI, huw])
          repeat' (first
 |refine aK fun K hK=>?_|refine Step.by1 ?_|refine sE (by decide) ?_|refine cz rfl ?_|refine Fork.by2 (fun h=>?_) fun h=>?_
 |((first|refine aR ?_|refine aX (id:=13) 18 mixed (by decide) ?_);simp [hkl, hkl', w3, g0, s0, hcl3, f2, f3, hs1, hltC, hltC', c2, c3, rc, hjr, hjr', e2, e3, rr, hky, hky', q2, q3, iy, huw])
 |(refine Split.by2 (fun h=>?_) (fun h=>?_)<;>(simp [h, hkl, hkl', w3, g0, s0, hcl3, f2, f3, hs1, hltC, hltC', c2, c3, rc, hjr, hjr', e2, e3, rr, hky, hky', q2, q3, iy, huw]))
 |(apply hK;clear hK K)|refine AWh ‹_› ?_)
          exact ⟨k + 1, c.set k u, ⟨by show k + 1 ≤ _; omega, by simp [hcl2], hn2⟩, by show _ - (k + 1) < _ - k; omega, Weak.sym (x := []) (by simp) (ho2.hl.app (by simp)) (by have := ho2.len; have := ho.len; have := hp.b_lt; simp; omega)⟩
      · obtain rfl : k = x.length := by omega
        have hce : c = mxR x y := by
          apply List.ext_getElem?
          intro q
          by_cases hq : q < x.length
          · rw [hcv q hq, if_pos hq]
            unfold mxR
            rw [zip_at (x := x.getD q 0) (y := y.getD q 0) (by simp [List.getD, hq]) (by simp [List.getD, show q < y.length by omega])]
          · rw [List.getElem?_eq_none (by omega), List.getElem?_eq_none (by simp [mxR]; omega)]
        have hsn := hq.snoc (ns := c) ho2.len
        rw [hcl2] at hsn
        rw [← hce] at hpa
        repeat' (first
 |refine aK fun K hK=>?_|refine Step.by1 ?_|refine sE (by decide) ?_|refine cz rfl ?_|refine Fork.by2 (fun h=>?_) fun h=>?_
 |(refine aR ?_;simp [kb, sb, hml2, hby2, w2, g0])
 |(refine Split.by2 (fun h=>?_) (fun h=>?_)<;>(simp [h, kb, sb, hml2, hby2, w2, g0]))
 |(apply hK;clear hK K)|refine AWh ‹_› ?_)
        have hold := ho2.setapp (b := hc.length) (y := B.row 47 (j + 1) 0 false (ids.map (fun x => [rv x]) ++ [[rv (hd.length, 0, x.length)]])) (x := [B.row 3 0 0 true (ivs c)]) (by omega) (ho2.hl.setapp (rowR_lt fun y hy => by
          rcases List.mem_append.1 hy with hy | hy
          · exact refs_lt (fun x hx => by have := hq.ids_lt x hx; simp; omega) y hy
          · simp at hy; subst hy; simp [rv]) (by simp))
        exact ⟨⟨j + 1, _, false, ids ++ [(hd.length, 0, x.length)]⟩, ⟨by show j + 1 ≤ _; omega, hold, by simp [hil], by show N2 _ _ _ _ _ _ ((mxQ Q R).take (j + 1)); unfold mxQ at hsn ⊢; rw [hpa]; exact hsn⟩, by show _ - (j + 1) < _ - j; omega,
          Weak.sym (x := [B.row 47 0 0 false [[V.ref hd.length 0 0 x.length]]]) (by simp [rv]) hold.hl (by have := ho2.len; have := ho.len; have := hp.b_lt; simp; omega)⟩
    · obtain rfl : j = Q.length := by omega
      have kb := fun x : List B => (get_app (x := x) (Nat.lt_of_lt_of_le hp.b_lt ho2.len)).trans (ho2.get hp.at0)
      have sb := fun (x : List B) (y : B) => set_app (x := x) (y := y) (Nat.lt_of_lt_of_le hp.b_lt ho2.len)
      have hml2 : (T.map fun y => [V.ref y.1 y.2.1 0 y.2.2.2.length]).length = i := by simp [hT]
      have hqe : (mxQ Q R).take Q.length = mxQ Q R := List.take_of_length_le (by simp [mxQ]; omega)
      rw [hqe] at hq
      have hsn := hp.snoc ho.len ho2.old hq
      rw [hil] at hsn
      repeat' (first
 |refine aK fun K hK=>?_|refine Step.by1 ?_|refine sE (by decide) ?_|refine cz rfl ?_|refine Fork.by2 (fun h=>?_) fun h=>?_
 |(refine aR ?_;simp [kb, sb, hml2, hby, w1])
 |(refine Split.by2 (fun h=>?_) (fun h=>?_)<;>(simp [h, kb, sb, hml2, hby, w1]))
 |(apply hK;clear hK K)|refine AWh ‹_› ?_)
      have hold := (ho.trans ho2).set (b := h.length) (y := B.row 54 (i + 1) 0 false (T.map (fun y => [V.ref y.1 y.2.1 0 y.2.2.2.length]) ++ [[V.ref hc.length Q.length 0 Q.length]])) (Nat.le_refl _) (ho2.hl.set (rowR_lt fun y hy => by
        rcases List.mem_append.1 hy with hy | hy
        · obtain ⟨x, hx, rfl⟩ := List.mem_map.1 hy
          obtain ⟨q, hq2⟩ := List.getElem?_of_mem hx
          obtain ⟨_, _, h5⟩ := hp.rows q x hq2
          have := h5.b_lt
          have := ho2.len
          simp; omega
        · simp at hy; subst hy; simp; omega))
      exact ⟨⟨i + 1, _, false, T ++ [(hc.length, Q.length, fl2, ids)]⟩, ⟨by show i + 1 ≤ _; omega, hold, by simp [hT], by show N3 _ _ _ _ _ _ ((mxP A C).take (i + 1)); unfold mxP at hsn ⊢; rw [hpi]; exact hsn⟩, by show _ - (i + 1) < _ - i; omega,
        Weak.sym (x := [B.row 54 0 0 false [[V.ref hc.length Q.length 0 Q.length]]]) (by simp) hold.hl (by have := ho2.len; have := ho.len; have := hp.b_lt; simp; omega)⟩
  · obtain rfl : i = A.length := by omega
    have hpe : (mxP A C).take A.length = mxP A C := List.take_of_length_le (by simp [mxP]; omega)
    rw [hpe] at hp
    repeat' (first
 |refine aK fun K hK=>?_|refine Step.by1 ?_|refine sE (by decide) ?_|refine cz rfl ?_|refine Fork.by2 (fun h=>?_) fun h=>?_
 |(refine aR ?_;simp)
 |(refine Split.by2 (fun h=>?_) (fun h=>?_)<;>(simp [h]))
 |(apply hK;clear hK K)|refine AWh ‹_› ?_)
    exact retg1 ⟨h.length, A.length, fl, T, by rw [hT]; rfl, ho, hp⟩ (by simp; exact hp.b_lt) (Go.AM.Leaves.sym ho.len ho.hl)
end Go.Proofs.YtgmlimipejcpgaaGreatDoor
end
