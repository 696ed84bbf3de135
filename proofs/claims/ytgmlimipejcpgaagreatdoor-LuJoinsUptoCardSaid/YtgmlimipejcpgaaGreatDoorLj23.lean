/-
  YtgmlimipejcpgaaGreatDoorLj23: steps of the proof of a law of the program: what these texts prove holds under the hypotheses that their theorems name, and no others.
-/
import Derived.Test.YtgmlimipejcpgaaGreatDoorLj22
import Derived.Test.YtgmlimipejcpgaaGreatDoorLj11
section
set_option linter.unusedSimpArgs false
set_option linter.unusedVariables false
namespace Go.Proofs.YtgmlimipejcpgaaGreatDoor
open Go Go.AM Fx
theorem Leaves.symx {h0 h x : List B} (h1 : h0.length ≤ h.length) (hl : HL h) : Go.AM.Leaves h0 (h ++ x) h :=
  ⟨h1, by simp, fun b y hy => .inr ⟨by rw [List.getElem?_append_left (List.getElem?_eq_some_iff.1 hy).1]; exact hy, .inr (hl.get hy)⟩⟩
theorem set_app {h x : List B} {i : Nat} {y : B} (hi : i < h.length) : (h ++ x).set i y = h.set i y ++ x := by rw [List.set_append, if_pos hi]
theorem get_app {h x : List B} {i : Nat} (hi : i < h.length) : (h ++ x)[i]? = h[i]? := List.getElem?_append_left hi
set_option maxHeartbeats 4000000 in
theorem g_Take {h : List B} {bk r g m b gb len : Nat} {fl : Bool} {xs : List (List V)} (hl : HL h) (h1 : h[bk]? = some (bookB r g m)) (h2 : h[r]? = some (.row 47 g 0 fl xs)) (hxs : ∀ x ∈ xs, V.lts h.length x = true) (hm : xs.length = m) (hb : b < h.length) (hmm : m ≤ 5000000000000) :
    GCall Tryz.prog GV 31 [.ptr bk 0, .ref b gb 0 len] h (fun v h' => v = .tup [] ∧ h' = (h.set r (.row 47 (g + 1) 0 false (xs ++ [[.ref b gb 0 len]]))).set bk (bookB r (g + 1) (m + 1))) := by
  have hbk := (List.getElem?_eq_some_iff.1 h1).1
  have hr := (List.getElem?_eq_some_iff.1 h2).1
  have hne : r ≠ bk := fun e => by rw [e, h1] at h2; cases h2
  have hby : (m + 1) * 24 ≤ 140737488355328 := by omega
  subst hm
  have hxl : ∀ x ∈ xs ++ [[V.ref b gb 0 len]], V.lts h.length x = true := fun x hx => by
    rcases List.mem_append.1 hx with hx | hx
    · exact hxs x hx
    · rw [List.mem_singleton.1 hx]; simp [hb]
  have hl2 : HL ((h.set r (.row 47 (g + 1) 0 false (xs ++ [[.ref b gb 0 len]]))).set bk (bookB r (g + 1) (xs.length + 1))) :=
    (hl.set (rowR_lt hxl)).set (by rw [List.length_set]; exact bookB_lt hr)
  have hbk2 : bk < (h.set r (B.row 47 (g + 1) 0 false (xs ++ [[V.ref b gb 0 len]]))).length := by rw [List.length_set]; exact hbk
  refine gB1 Tryz.func31 rfl (by decide) Tryz.ntmps31 (by simp) Tryz.results31 ?_
  repeat' (first
 |refine aK fun K hK=>?_|refine Step.by1 ?_|refine sE (by decide) ?_|refine cz rfl ?_|refine Fork.by2 (fun h=>?_) fun h=>?_
 |(refine aR ?_;simp [h1, h2, get_app hbk, get_app hr, gN hne, hby, bookB, hb])
 |(refine Split.by2 (fun h=>?_) (fun h=>?_)<;>(simp [h, h1, h2, get_app hbk, get_app hr, gN hne, hby, bookB, hb]))
 |(apply hK;clear hK K)|refine AWh ‹_› ?_)
  refine ⟨.inl rfl, _, _, ⟨[], rfl, trivial⟩, ⟨rfl, rfl⟩, rfl, ?_⟩
  have := Go.Proofs.YtgmlimipejcpgaaGreatDoor.Leaves.symx (h0 := h) (x := [.row 47 0 0 false [[V.ref b gb 0 len]]]) (by simp) hl2
  simpa [bookB, set_app hr, set_app hbk2] using this
set_option maxRecDepth 20000 in
set_option maxHeartbeats 16000000 in
theorem g_aloneInts {h : List B} {bk r g : Nat} {refs : List (Nat × Nat × Nat)} (p : Pre h bk r g refs) (hm : refs.length ≤ 5000000000000) (hlen : ∀ x ∈ refs, x.2.2 ≤ 1099511627776) :
    GCall Tryz.prog GV 86 [.ptr bk 0] h (fun v h' => v = .bool true ∧ h'[bk]? = some (bookB r g refs.length) ∧ HL h' ∧ h.length ≤ h'.length ∧ ∀ b, b < h.length → b ≠ r → (∀ x ∈ refs, x.1 ≠ b) → h'[b]? = h[b]?) := by
  have hbk := (List.getElem?_eq_some_iff.1 p.bk).1
  refine gB1 Tryz.func86 rfl (by decide) Tryz.ntmps86 (by simp) Tryz.results86 ?_
  repeat' (first
 |refine aK fun K hK=>?_|refine Step.by1 ?_|refine sE (by decide) ?_|refine cz rfl ?_|refine Fork.by2 (fun h=>?_) fun h=>?_
 |(refine aR ?_;simp)
 |(refine Split.by2 (fun h=>?_) (fun h=>?_)<;>(simp [h]))
 |(apply hK;clear hK K)|refine AWh ‹_› ?_)
  refine aL [0] (fun s : Nat × List B => [(3, .int .i64 s.1)]) (fun s => s.2) (fun s => s.1 ≤ refs.length ∧ P1 h bk r g refs s.1 0 s.2) (fun s => refs.length - s.1) (0, h) ⟨Nat.zero_le _, p.p1⟩ (Weak.sym (x := []) (by simp) p.hl (by simp [hbk])) (fun s hs => hs.2.len) ?_
  rintro ⟨i, hc⟩ ⟨hi, q⟩
  simp only at hi q
  have hbc : bk < hc.length := by rw [q.len]; exact hbk
  by_cases hlt : i < refs.length
  · obtain ⟨x, hx⟩ : ∃ x, refs[i] = x := ⟨_, rfl⟩
    have hx' : refs[i]? = some x := by rw [List.getElem?_eq_getElem hlt, hx]
    have hxl := hlen x (List.mem_of_getElem? hx')
    have hlt' : (i : Int) < refs.length := by omega
    have w1 : IntKind.i64.wrap ((i : Int) + 1) = i + 1 := wI (by omega) (by omega)
    have w2 : IntKind.i64.wrap (-9000 - (i : Int)) = -9000 - i := wI (by omega) (by omega)
    repeat' (first
 |refine aK fun K hK=>?_|refine Step.by1 ?_|refine sE (by decide) ?_|refine cz rfl ?_|refine Fork.by2 (fun h=>?_) fun h=>?_
 |(refine aR ?_;simp [q.bk, q.rr, bookB, rv, hlt, hlt', hx])
 |(refine Split.by2 (fun h=>?_) (fun h=>?_)<;>(simp [h, q.bk, q.rr, bookB, rv, hlt, hlt', hx]))
 |(apply hK;clear hK K)|refine AWh ‹_› ?_)
    refine aL [0, 3] (fun s : Nat × List B => [(4, .int .i64 s.1)]) (fun s => s.2) (fun s => s.1 ≤ x.2.2 ∧ P1 h bk r g refs i s.1 s.2) (fun s => x.2.2 - s.1) (0, hc) ⟨Nat.zero_le _, q⟩ (Weak.sym (x := []) (by simp) q.hl (by simp [hbc])) (fun s hs => by rw [hs.2.len]; exact q.len.symm) ?_
    rintro ⟨k, hd⟩ ⟨hk, q2⟩
    simp only at hk q2
    have hbd : bk < hd.length := by rw [q2.len]; exact hbk
    obtain ⟨ns, n1, n2, n3⟩ := q2.rows i x hx'
    by_cases hkt : k < x.2.2
    · have st := q2.step hx' n1 n2 hkt
      have hkt' : (k : Int) < x.2.2 := by omega
      have w3 : IntKind.i64.wrap ((k : Int) + 1) = k + 1 := wI (by omega) (by omega)
      repeat' (first
 |refine aK fun K hK=>?_|refine Step.by1 ?_|refine sE (by decide) ?_|refine cz rfl ?_|refine Fork.by2 (fun h=>?_) fun h=>?_
 |(refine aR ?_;simp [q2.bk, q2.rr, bookB, rv, hlt, hlt', hx, n1, n2, hkt, hkt', w2, w3, ivs])
 |(refine Split.by2 (fun h=>?_) (fun h=>?_)<;>(simp [h, q2.bk, q2.rr, bookB, rv, hlt, hlt', hx, n1, n2, hkt, hkt', w2, w3, ivs]))
 |(apply hK;clear hK K)|refine AWh ‹_› ?_)
      refine ⟨k + 1, _, ⟨by omega, st⟩, by omega, Weak.sym (x := []) (by simp [ivs, List.map_set]) st.hl (by simp [hbd])⟩
    · have hkt' : ¬ (k : Int) < x.2.2 := by omega
      repeat' (first
 |refine aK fun K hK=>?_|refine Step.by1 ?_|refine sE (by decide) ?_|refine cz rfl ?_|refine Fork.by2 (fun h=>?_) fun h=>?_
 |(refine aR ?_;simp [q2.bk, q2.rr, bookB, rv, hlt, hlt', hx, hkt, hkt', w1])
 |(refine Split.by2 (fun h=>?_) (fun h=>?_)<;>(simp [h, q2.bk, q2.rr, bookB, rv, hlt, hlt', hx, hkt, hkt', w1]))
 |(apply hK;clear hK K)|refine AWh ‹_› ?_)
      exact ⟨i + 1, hd, ⟨by omega, q2.next hx' (by omega)⟩, by omega, Weak.sym (x := []) (by simp) q2.hl (by simp [hbd])⟩
  · obtain rfl : i = refs.length := by omega
    repeat' (first
 |refine aK fun K hK=>?_|refine Step.by1 ?_|refine sE (by decide) ?_|refine cz rfl ?_|refine Fork.by2 (fun h=>?_) fun h=>?_
 |(refine aR ?_;simp [q.bk, q.rr, bookB])
 |(refine Split.by2 (fun h=>?_) (fun h=>?_)<;>(simp [h, q.bk, q.rr, bookB]))
 |(apply hK;clear hK K)|refine AWh ‹_› ?_)
    refine AW_nilrow 5 47 rfl (by simp) ?_
    have hcl : hc.length = h.length := q.len
    refine aL [0] (fun s : Nat × List B => [(6, .int .i64 s.1), (5, .ref h.length s.1 0 s.1)]) (fun s => s.2) (fun s => s.1 ≤ refs.length ∧ P2 h bk r g refs s.1 s.2) (fun s => refs.length - s.1) (0, hc ++ [B.row 47 0 0 true []]) ⟨Nat.zero_le _, q.p2⟩ (Weak.sym (x := []) (by simp) q.p2.hl (by simp [hcl]; omega)) (fun s hs => by rw [hs.2.len]; simp [hcl]) ?_
    rintro ⟨i, hc2⟩ ⟨hi, q⟩
    simp only at hi q
    have hbc2 : bk < hc2.length := by rw [q.len]; omega
    obtain ⟨cs, c1, c2, c3⟩ := q.rr
    obtain ⟨fl, ds, d1, d2, d3⟩ := q.all
    by_cases hlt : i < refs.length
    · obtain ⟨x, hx⟩ : ∃ x, refs[i] = x := ⟨_, rfl⟩
      have hx' : refs[i]? = some x := by rw [List.getElem?_eq_getElem hlt, hx]
      have hxl := hlen x (List.mem_of_getElem? hx')
      have hlt' : (i : Int) < refs.length := by omega
      have w1 : IntKind.i64.wrap ((i : Int) + 1) = i + 1 := wI (by omega) (by omega)
      have w2 : IntKind.i64.wrap (-9000 - (i : Int)) = -9000 - i := wI (by omega) (by omega)
      have hci? := c3 i x hx'
      rw [if_neg (by omega)] at hci?
      have hcl2 : i < cs.length := by omega
      have hci : cs[i] = [rv x] := by rw [List.getElem?_eq_getElem hcl2] at hci?; exact Option.some.inj hci?
      have hrow := q.rows i x hx'
      rw [if_neg (by omega)] at hrow
      have hgr := q.grows hx' c1 d1 (-9000 - (i : Int))
      have hst := q.step hx' c1 d1
      have hgn : ∀ k, Go.Proofs.YtgmlimipejcpgaaGreatDoor.grown hc2 r g i cs x (-9000 - (i : Int)) (k + 1) = _ := fun k => grown_succ
      obtain ⟨_, _, _, _, n1, n2, n3, n4, n5, n6⟩ := hgr 0
      have hql := q.len
      have hxc : x.1 < hc2.length := (List.getElem?_eq_some_iff.1 hrow).1
      have hrc : r < hc2.length := (List.getElem?_eq_some_iff.1 c1).1
      have h0 : (hc2.set x.1 (.row 3 x.2.1 (repV x.2.2 (-9000 - (i : Int))).length true (repV x.2.2 (-9000 - (i : Int))))).set r (.row 47 g 0 false (cs.set i ([rv x].set 0 (.vec ((repV x.2.2 (-9000 - (i : Int))).drop 0) x.2.2)))) = Go.Proofs.YtgmlimipejcpgaaGreatDoor.grown hc2 r g i cs x (-9000 - (i : Int)) 0 := by
        rw [List.set_comm _ _ n2]
        simp [Go.Proofs.YtgmlimipejcpgaaGreatDoor.grown, repV]
      repeat' (first
 |refine aK fun K hK=>?_|refine Step.by1 ?_|refine sE (by decide) ?_|refine cz rfl ?_|refine Fork.by2 (fun h=>?_) fun h=>?_
 |(refine aR ?_;simp [q.bk, c1, bookB, hlt, hlt', c2, hci, hcl2])
 |(refine Split.by2 (fun h=>?_) (fun h=>?_)<;>(simp [h, q.bk, c1, bookB, hlt, hlt', c2, hci, hcl2]))
 |(apply hK;clear hK K)|refine AWh ‹_› ?_)
      refine AW_viewrow r i 0 c1 hci? rfl hrow (by simp [repV]) ?_
      rw [h0]
      refine aL [0, 5, 6] (fun k : Nat => [(7, .ref x.1 (x.2.1 + k) 0 (x.2.2 + k)), (8, .int .i64 k)]) (fun k => Go.Proofs.YtgmlimipejcpgaaGreatDoor.grown hc2 r g i cs x (-9000 - (i : Int)) k) (fun k => k ≤ 20) (fun k => 20 - k) 0 (by omega) (Weak.sym (x := []) (by simp) (hgr 0).2.1 (by simp [rv, (hgr 0).1]; omega)) (fun k _ => by rw [(hgr k).1]; exact (hgr 0).1.symm) ?_
      intro k hk
      obtain ⟨g1, g2, g3, g4, _⟩ := hgr k
      by_cases hk20 : k < 20
      · obtain ⟨g5, g6, _⟩ := hgr (k + 1)
        have e1 := hgn k
        generalize Go.Proofs.YtgmlimipejcpgaaGreatDoor.grown hc2 r g i cs x (-9000 - (i : Int)) k = hd at *
        have hxd : x.1 < hd.length := by omega
        have hk20' : (k : Int) < 20 := by omega
        have w3 : IntKind.i64.wrap ((k : Int) + 1) = k + 1 := wI (by omega) (by omega)
        have hby : (x.2.2 + k + 1) * 8 ≤ 140737488355328 := by omega
        have hrl : (repV (x.2.2 + k) (-9000 - (i : Int))).length = x.2.2 + k := by simp [repV]
        have hrs : repV (x.2.2 + k) (-9000 - (i : Int)) ++ [[V.int .i64 (-9000 - (i : Int))]] = repV (x.2.2 + (k + 1)) (-9000 - (i : Int)) := by
          rw [← Nat.add_assoc]; simp [repV, List.replicate_succ']
        repeat' (first
 |refine aK fun K hK=>?_|refine Step.by1 ?_|refine sE (by decide) ?_|refine cz rfl ?_|refine Fork.by2 (fun h=>?_) fun h=>?_
 |(refine aR ?_;simp [g4, get_app hxd, hk20, hk20', w2, w3, hby, hrl, hrs])
 |(refine Split.by2 (fun h=>?_) (fun h=>?_)<;>(simp [h, g4, get_app hxd, hk20, hk20', w2, w3, hby, hrl, hrs]))
 |(apply hK;clear hK K)|refine AWh ‹_› ?_)
        refine ⟨k + 1, by omega, by omega, Weak.sym (x := [.row 3 0 0 true [[V.int .i64 (-9000 - (i : Int))]]]) (by simp [e1, set_app hxd, Nat.add_assoc]) g6 (by simp [Nat.add_assoc, g5]; omega)⟩
      · obtain rfl : k = 20 := by omega
        generalize Go.Proofs.YtgmlimipejcpgaaGreatDoor.grown hc2 r g i cs x (-9000 - (i : Int)) 20 = hd at *
        have hnd : h.length < hd.length := by omega
        have hby : (i + 1) * 24 ≤ 140737488355328 := by omega
        repeat' (first
 |refine aK fun K hK=>?_|refine Step.by1 ?_|refine sE (by decide) ?_|refine cz rfl ?_|refine Fork.by2 (fun h=>?_) fun h=>?_
 |(refine aR ?_;simp [g3, get_app hnd, w1, hby, d2])
 |(refine Split.by2 (fun h=>?_) (fun h=>?_)<;>(simp [h, g3, get_app hnd, w1, hby, d2]))
 |(apply hK;clear hK K)|refine AWh ‹_› ?_)
        refine ⟨i + 1, _, ⟨by omega, hst⟩, by omega, Weak.sym (x := [.row 47 0 0 false [[V.ref x.1 (x.2.1 + 20) 0 (x.2.2 + 20)]]]) (by simp [set_app hnd]) hst.hl (by simp; omega)⟩
    · obtain rfl : i = refs.length := by omega
      have hql := q.len
      repeat' (first
 |refine aK fun K hK=>?_|refine Step.by1 ?_|refine sE (by decide) ?_|refine cz rfl ?_|refine Fork.by2 (fun h=>?_) fun h=>?_
 |(refine aR ?_;simp [q.bk, c1, bookB, c2])
 |(refine Split.by2 (fun h=>?_) (fun h=>?_)<;>(simp [h, q.bk, c1, bookB, c2]))
 |(apply hK;clear hK K)|refine AWh ‹_› ?_)
      refine aL [0, 5] (fun i : Nat => [(9, .int .i64 i)]) (fun _ => hc2) (fun i => i ≤ refs.length) (fun i => refs.length - i) 0 (Nat.zero_le _) (Weak.sym (x := []) (by simp) q.hl (by simp; omega)) (fun _ _ => rfl) ?_
      intro i hi3
      by_cases hlt3 : i < refs.length
      · obtain ⟨x, hx⟩ : ∃ x, refs[i] = x := ⟨_, rfl⟩
        have hx' : refs[i]? = some x := by rw [List.getElem?_eq_getElem hlt3, hx]
        have hxl := hlen x (List.mem_of_getElem? hx')
        have hlt' : (i : Int) < refs.length := by omega
        have w1 : IntKind.i64.wrap ((i : Int) + 1) = i + 1 := wI (by omega) (by omega)
        have w2 : IntKind.i64.wrap (-9000 - (i : Int)) = -9000 - i := wI (by omega) (by omega)
        have hci? := c3 i x hx'
        rw [if_pos hlt3] at hci?
        have hcl2 : i < cs.length := by omega
        have hci : cs[i] = [.vec (repV x.2.2 (-9000 - (i : Int))) x.2.2] := by rw [List.getElem?_eq_getElem hcl2] at hci?; exact Option.some.inj hci?
        have hdi? := d3 i x hlt3 hx'
        have hdl : i < ds.length := by omega
        have hdi : ds[i] = [.ref x.1 (x.2.1 + 20) 0 (x.2.2 + 20)] := by rw [List.getElem?_eq_getElem hdl] at hdi?; exact Option.some.inj hdi?
        have hrow := q.rows i x hx'
        rw [if_pos hlt3] at hrow
        have r1 : (repV (x.2.2 + 20) (-9000 - (i : Int))).length = x.2.2 + 20 := by simp [repV]
        have r2 : (repV x.2.2 (-9000 - (i : Int))).length = x.2.2 := by simp [repV]
        repeat' (first
 |refine aK fun K hK=>?_|refine Step.by1 ?_|refine sE (by decide) ?_|refine cz rfl ?_|refine Fork.by2 (fun h=>?_) fun h=>?_
 |(refine aR ?_;simp [d1, d2, hlt3, hlt', hdi, hdl])
 |(refine Split.by2 (fun h=>?_) (fun h=>?_)<;>(simp [h, d1, d2, hlt3, hlt', hdi, hdl]))
 |(apply hK;clear hK K)|refine AWh ‹_› ?_)
        refine aL [0, 5, 9] (fun k : Nat => [(10, .int .i64 k)]) (fun _ => hc2) (fun k => k ≤ x.2.2 + 20) (fun k => x.2.2 + 20 - k) 0 (Nat.zero_le _) (Weak.sym (x := []) (by simp) q.hl (by simp; omega)) (fun _ _ => rfl) ?_
        intro k hk
        by_cases hkt : k < x.2.2 + 20
        · have hkt' : (k : Int) < (x.2.2 : Int) + 20 := by omega
          have w3 : IntKind.i64.wrap ((k : Int) + 1) = k + 1 := wI (by omega) (by omega)
          have hrk : (repV (x.2.2 + 20) (-9000 - (i : Int)))[k]'(by omega) = [.int .i64 (-9000 - (i : Int))] := by simp [repV]
          repeat' (first
 |refine aK fun K hK=>?_|refine Step.by1 ?_|refine sE (by decide) ?_|refine cz rfl ?_|refine Fork.by2 (fun h=>?_) fun h=>?_
 |(refine aR ?_;simp [d1, d2, hlt3, hlt', hdi, hdl, hrow, r1, hkt, hkt', hrk, w2, w3])
 |(refine Split.by2 (fun h=>?_) (fun h=>?_)<;>(simp [h, d1, d2, hlt3, hlt', hdi, hdl, hrow, r1, hkt, hkt', hrk, w2, w3]))
 |(apply hK;clear hK K)|refine AWh ‹_› ?_)
          exact ⟨k + 1, by omega, by omega, Weak.sym (x := []) (by simp) q.hl (by simp; omega)⟩
        · have hkt' : ¬ (k : Int) < (x.2.2 : Int) + 20 := by omega
          repeat' (first
 |refine aK fun K hK=>?_|refine Step.by1 ?_|refine sE (by decide) ?_|refine cz rfl ?_|refine Fork.by2 (fun h=>?_) fun h=>?_
 |(refine aR ?_;simp [d1, d2, hlt3, hlt', hdi, hdl, hkt, hkt'])
 |(refine Split.by2 (fun h=>?_) (fun h=>?_)<;>(simp [h, d1, d2, hlt3, hlt', hdi, hdl, hkt, hkt']))
 |(apply hK;clear hK K)|refine AWh ‹_› ?_)
          refine aL [0, 5, 9] (fun k : Nat => [(11, .int .i64 k)]) (fun _ => hc2) (fun k => k ≤ x.2.2) (fun k => x.2.2 - k) 0 (Nat.zero_le _) (Weak.sym (x := []) (by simp) q.hl (by simp; omega)) (fun _ _ => rfl) ?_
          intro m hmk
          by_cases hmt : m < x.2.2
          · have hmt' : (m : Int) < x.2.2 := by omega
            have w4 : IntKind.i64.wrap ((m : Int) + 1) = m + 1 := wI (by omega) (by omega)
            have hrm : (repV x.2.2 (-9000 - (i : Int)))[m]'(by omega) = [.int .i64 (-9000 - (i : Int))] := by simp [repV]
            repeat' (first
 |refine aK fun K hK=>?_|refine Step.by1 ?_|refine sE (by decide) ?_|refine cz rfl ?_|refine Fork.by2 (fun h=>?_) fun h=>?_
 |(refine aR ?_;simp [q.bk, bookB, c1, c2, hlt3, hlt', hci, hcl2, r2, hmt, hmt', hrm, w2, w4])
 |(refine Split.by2 (fun h=>?_) (fun h=>?_)<;>(simp [h, q.bk, bookB, c1, c2, hlt3, hlt', hci, hcl2, r2, hmt, hmt', hrm, w2, w4]))
 |(apply hK;clear hK K)|refine AWh ‹_› ?_)
            exact ⟨m + 1, by omega, by omega, Weak.sym (x := []) (by simp) q.hl (by simp; omega)⟩
          · have hmt' : ¬ (m : Int) < x.2.2 := by omega
            repeat' (first
 |refine aK fun K hK=>?_|refine Step.by1 ?_|refine sE (by decide) ?_|refine cz rfl ?_|refine Fork.by2 (fun h=>?_) fun h=>?_
 |(refine aR ?_;simp [q.bk, bookB, c1, c2, hlt3, hlt', hci, hcl2, hmt, hmt', w1])
 |(refine Split.by2 (fun h=>?_) (fun h=>?_)<;>(simp [h, q.bk, bookB, c1, c2, hlt3, hlt', hci, hcl2, hmt, hmt', w1]))
 |(apply hK;clear hK K)|refine AWh ‹_› ?_)
            exact ⟨i + 1, by omega, by omega, Weak.sym (x := []) (by simp) q.hl (by simp; omega)⟩
      · have hlt' : ¬ (i : Int) < refs.length := by omega
        repeat' (first
 |refine aK fun K hK=>?_|refine Step.by1 ?_|refine sE (by decide) ?_|refine cz rfl ?_|refine Fork.by2 (fun h=>?_) fun h=>?_
 |(refine aR ?_;simp [d1, d2, hlt3, hlt'])
 |(refine Split.by2 (fun h=>?_) (fun h=>?_)<;>(simp [h, d1, d2, hlt3, hlt']))
 |(apply hK;clear hK K)|refine AWh ‹_› ?_)
        exact retg1 ⟨rfl, q.bk, q.hl, by omega, q.rest⟩ rfl (Go.AM.Leaves.sym (show h.length ≤ hc2.length by omega) q.hl)
theorem g_aloneBytes {h : List B} {bk r g m : Nat} (h1 : h[bk]? = some (bookB r g m)) : GCall Tryz.prog GV 84 [.ptr bk 0] h (fun v h' => v = .bool true ∧ h' = h) := by
  refine gB1 Tryz.func84 rfl (by decide) Tryz.ntmps84 (by simp) Tryz.results84 ?_
  repeat' (first
 |refine AW_loop0 ?_
 |refine aK fun K hK=>?_|refine Step.by1 ?_|refine sE (by decide) ?_|refine cz rfl ?_|refine Fork.by2 (fun h=>?_) fun h=>?_
 |(refine aR ?_;simp [h1, bookB])
 |(refine Split.by2 (fun h=>?_) (fun h=>?_)<;>(simp [h, h1, bookB]))
 |(apply hK;clear hK K)|refine AWh ‹_› ?_)
  exact retg1 ⟨rfl, rfl⟩ rfl Go.AM.Leaves.refl
theorem g_aloneTexts {h : List B} {bk r g m : Nat} (h1 : h[bk]? = some (bookB r g m)) : GCall Tryz.prog GV 85 [.ptr bk 0] h (fun v h' => v = .bool true ∧ h' = h) := by
  refine gB1 Tryz.func85 rfl (by decide) Tryz.ntmps85 (by simp) Tryz.results85 ?_
  repeat' (first
 |refine AW_loop0 ?_
 |refine aK fun K hK=>?_|refine Step.by1 ?_|refine sE (by decide) ?_|refine cz rfl ?_|refine Fork.by2 (fun h=>?_) fun h=>?_
 |(refine aR ?_;simp [h1, bookB])
 |(refine Split.by2 (fun h=>?_) (fun h=>?_)<;>(simp [h, h1, bookB]))
 |(apply hK;clear hK K)|refine AWh ‹_› ?_)
  exact retg1 ⟨rfl, rfl⟩ rfl Go.AM.Leaves.refl
theorem g_aloneInt64s {h : List B} {bk r g m : Nat} (h1 : h[bk]? = some (bookB r g m)) : GCall Tryz.prog GV 87 [.ptr bk 0] h (fun v h' => v = .bool true ∧ h' = h) := by
  refine gB1 Tryz.func87 rfl (by decide) Tryz.ntmps87 (by simp) Tryz.results87 ?_
  repeat' (first
 |refine AW_loop0 ?_
 |refine aK fun K hK=>?_|refine Step.by1 ?_|refine sE (by decide) ?_|refine cz rfl ?_|refine Fork.by2 (fun h=>?_) fun h=>?_
 |(refine aR ?_;simp [h1, bookB])
 |(refine Split.by2 (fun h=>?_) (fun h=>?_)<;>(simp [h, h1, bookB]))
 |(apply hK;clear hK K)|refine AWh ‹_› ?_)
  exact retg1 ⟨rfl, rfl⟩ rfl Go.AM.Leaves.refl
theorem g_aloneBounds {h : List B} {bk r g m : Nat} (h1 : h[bk]? = some (bookB r g m)) : GCall Tryz.prog GV 88 [.ptr bk 0] h (fun v h' => v = .bool true ∧ h' = h) := by
  refine gB1 Tryz.func88 rfl (by decide) Tryz.ntmps88 (by simp) Tryz.results88 ?_
  repeat' (first
 |refine AW_loop0 ?_
 |refine aK fun K hK=>?_|refine Step.by1 ?_|refine sE (by decide) ?_|refine cz rfl ?_|refine Fork.by2 (fun h=>?_) fun h=>?_
 |(refine aR ?_;simp [h1, bookB])
 |(refine Split.by2 (fun h=>?_) (fun h=>?_)<;>(simp [h, h1, bookB]))
 |(apply hK;clear hK K)|refine AWh ‹_› ?_)
  exact retg1 ⟨rfl, rfl⟩ rfl Go.AM.Leaves.refl
theorem g_aloneRats {h : List B} {bk r g m : Nat} (h1 : h[bk]? = some (bookB r g m)) : GCall Tryz.prog GV 89 [.ptr bk 0] h (fun v h' => v = .bool true ∧ h' = h) := by
  refine gB1 Tryz.func89 rfl (by decide) Tryz.ntmps89 (by simp) Tryz.results89 ?_
  repeat' (first
 |refine AW_loop0 ?_
 |refine aK fun K hK=>?_|refine Step.by1 ?_|refine sE (by decide) ?_|refine cz rfl ?_|refine Fork.by2 (fun h=>?_) fun h=>?_
 |(refine aR ?_;simp [h1, bookB])
 |(refine Split.by2 (fun h=>?_) (fun h=>?_)<;>(simp [h, h1, bookB]))
 |(apply hK;clear hK K)|refine AWh ‹_› ?_)
  exact retg1 ⟨rfl, rfl⟩ rfl Go.AM.Leaves.refl
theorem g_aloneLimits {h : List B} {bk r g m : Nat} (h1 : h[bk]? = some (bookB r g m)) : GCall Tryz.prog GV 90 [.ptr bk 0] h (fun v h' => v = .bool true ∧ h' = h) := by
  refine gB1 Tryz.func90 rfl (by decide) Tryz.ntmps90 (by simp) Tryz.results90 ?_
  repeat' (first
 |refine AW_loop0 ?_
 |refine aK fun K hK=>?_|refine Step.by1 ?_|refine sE (by decide) ?_|refine cz rfl ?_|refine Fork.by2 (fun h=>?_) fun h=>?_
 |(refine aR ?_;simp [h1, bookB])
 |(refine Split.by2 (fun h=>?_) (fun h=>?_)<;>(simp [h, h1, bookB]))
 |(apply hK;clear hK K)|refine AWh ‹_› ?_)
  exact retg1 ⟨rfl, rfl⟩ rfl Go.AM.Leaves.refl
theorem g_aloneGuards {h : List B} {bk r g m : Nat} (h1 : h[bk]? = some (bookB r g m)) : GCall Tryz.prog GV 91 [.ptr bk 0] h (fun v h' => v = .bool true ∧ h' = h) := by
  refine gB1 Tryz.func91 rfl (by decide) Tryz.ntmps91 (by simp) Tryz.results91 ?_
  repeat' (first
 |refine AW_loop0 ?_
 |refine aK fun K hK=>?_|refine Step.by1 ?_|refine sE (by decide) ?_|refine cz rfl ?_|refine Fork.by2 (fun h=>?_) fun h=>?_
 |(refine aR ?_;simp [h1, bookB])
 |(refine Split.by2 (fun h=>?_) (fun h=>?_)<;>(simp [h, h1, bookB]))
 |(apply hK;clear hK K)|refine AWh ‹_› ?_)
  exact retg1 ⟨rfl, rfl⟩ rfl Go.AM.Leaves.refl
theorem g_aloneNodes {h : List B} {bk r g m : Nat} (h1 : h[bk]? = some (bookB r g m)) : GCall Tryz.prog GV 92 [.ptr bk 0] h (fun v h' => v = .bool true ∧ h' = h) := by
  refine gB1 Tryz.func92 rfl (by decide) Tryz.ntmps92 (by simp) Tryz.results92 ?_
  repeat' (first
 |refine AW_loop0 ?_
 |refine aK fun K hK=>?_|refine Step.by1 ?_|refine sE (by decide) ?_|refine cz rfl ?_|refine Fork.by2 (fun h=>?_) fun h=>?_
 |(refine aR ?_;simp [h1, bookB])
 |(refine Split.by2 (fun h=>?_) (fun h=>?_)<;>(simp [h, h1, bookB]))
 |(apply hK;clear hK K)|refine AWh ‹_› ?_)
  exact retg1 ⟨rfl, rfl⟩ rfl Go.AM.Leaves.refl
theorem g_aloneMoves {h : List B} {bk r g m : Nat} (h1 : h[bk]? = some (bookB r g m)) : GCall Tryz.prog GV 93 [.ptr bk 0] h (fun v h' => v = .bool true ∧ h' = h) := by
  refine gB1 Tryz.func93 rfl (by decide) Tryz.ntmps93 (by simp) Tryz.results93 ?_
  repeat' (first
 |refine AW_loop0 ?_
 |refine aK fun K hK=>?_|refine Step.by1 ?_|refine sE (by decide) ?_|refine cz rfl ?_|refine Fork.by2 (fun h=>?_) fun h=>?_
 |(refine aR ?_;simp [h1, bookB])
 |(refine Split.by2 (fun h=>?_) (fun h=>?_)<;>(simp [h, h1, bookB]))
 |(apply hK;clear hK K)|refine AWh ‹_› ?_)
  exact retg1 ⟨rfl, rfl⟩ rfl Go.AM.Leaves.refl
theorem g_aloneDiffs {h : List B} {bk r g m : Nat} (h1 : h[bk]? = some (bookB r g m)) : GCall Tryz.prog GV 94 [.ptr bk 0] h (fun v h' => v = .bool true ∧ h' = h) := by
  refine gB1 Tryz.func94 rfl (by decide) Tryz.ntmps94 (by simp) Tryz.results94 ?_
  repeat' (first
 |refine AW_loop0 ?_
 |refine aK fun K hK=>?_|refine Step.by1 ?_|refine sE (by decide) ?_|refine cz rfl ?_|refine Fork.by2 (fun h=>?_) fun h=>?_
 |(refine aR ?_;simp [h1, bookB])
 |(refine Split.by2 (fun h=>?_) (fun h=>?_)<;>(simp [h, h1, bookB]))
 |(apply hK;clear hK K)|refine AWh ‹_› ?_)
  exact retg1 ⟨rfl, rfl⟩ rfl Go.AM.Leaves.refl
theorem g_aloneSteps {h : List B} {bk r g m : Nat} (h1 : h[bk]? = some (bookB r g m)) : GCall Tryz.prog GV 95 [.ptr bk 0] h (fun v h' => v = .bool true ∧ h' = h) := by
  refine gB1 Tryz.func95 rfl (by decide) Tryz.ntmps95 (by simp) Tryz.results95 ?_
  repeat' (first
 |refine AW_loop0 ?_
 |refine aK fun K hK=>?_|refine Step.by1 ?_|refine sE (by decide) ?_|refine cz rfl ?_|refine Fork.by2 (fun h=>?_) fun h=>?_
 |(refine aR ?_;simp [h1, bookB])
 |(refine Split.by2 (fun h=>?_) (fun h=>?_)<;>(simp [h, h1, bookB]))
 |(apply hK;clear hK K)|refine AWh ‹_› ?_)
  exact retg1 ⟨rfl, rfl⟩ rfl Go.AM.Leaves.refl
theorem g_aloneAts {h : List B} {bk r g m : Nat} (h1 : h[bk]? = some (bookB r g m)) : GCall Tryz.prog GV 96 [.ptr bk 0] h (fun v h' => v = .bool true ∧ h' = h) := by
  refine gB1 Tryz.func96 rfl (by decide) Tryz.ntmps96 (by simp) Tryz.results96 ?_
  repeat' (first
 |refine AW_loop0 ?_
 |refine aK fun K hK=>?_|refine Step.by1 ?_|refine sE (by decide) ?_|refine cz rfl ?_|refine Fork.by2 (fun h=>?_) fun h=>?_
 |(refine aR ?_;simp [h1, bookB])
 |(refine Split.by2 (fun h=>?_) (fun h=>?_)<;>(simp [h, h1, bookB]))
 |(apply hK;clear hK K)|refine AWh ‹_› ?_)
  exact retg1 ⟨rfl, rfl⟩ rfl Go.AM.Leaves.refl
theorem g_aloneBools {h : List B} {bk r g m : Nat} (h1 : h[bk]? = some (bookB r g m)) : GCall Tryz.prog GV 97 [.ptr bk 0] h (fun v h' => v = .bool true ∧ h' = h) := by
  refine gB1 Tryz.func97 rfl (by decide) Tryz.ntmps97 (by simp) Tryz.results97 ?_
  repeat' (first
 |refine AW_loop0 ?_
 |refine aK fun K hK=>?_|refine Step.by1 ?_|refine sE (by decide) ?_|refine cz rfl ?_|refine Fork.by2 (fun h=>?_) fun h=>?_
 |(refine aR ?_;simp [h1, bookB])
 |(refine Split.by2 (fun h=>?_) (fun h=>?_)<;>(simp [h, h1, bookB]))
 |(apply hK;clear hK K)|refine AWh ‹_› ?_)
  exact retg1 ⟨rfl, rfl⟩ rfl Go.AM.Leaves.refl
set_option maxHeartbeats 8000000 in
theorem g_Alone {h : List B} {bk r g : Nat} {refs : List (Nat × Nat × Nat)} (p : Pre h bk r g refs) (hm : refs.length ≤ 5000000000000) (hlen : ∀ x ∈ refs, x.2.2 ≤ 1099511627776) :
    GCall Tryz.prog GV 32 [.ptr bk 0] h (fun v h' => v = .bool true ∧ HL h' ∧ h.length ≤ h'.length ∧ ∀ b, b < h.length → b ≠ r → b ≠ bk → (∀ x ∈ refs, x.1 ≠ b) → h'[b]? = h[b]?) := by
  have hb := p.bk
  have hbk := (List.getElem?_eq_some_iff.1 hb).1
  refine gB1 Tryz.func32 rfl (by decide) Tryz.ntmps32 (by simp) Tryz.results32 ?_
  repeat' (first
 |refine aK fun K hK=>?_|refine Step.by1 ?_|refine sE (by decide) ?_|refine cz rfl ?_|refine Fork.by2 (fun h=>?_) fun h=>?_
 |(refine aR ?_;simp [bookB])
 |(refine Split.by2 (fun h=>?_) (fun h=>?_)<;>(simp [h, bookB]))
 |(refine aG (f := 86) rfl rfl (g_aloneInts p hm hlen) rfl (fun v h' hq => ?_); obtain ⟨rfl, k1, k2, k3, k4⟩ := hq; clear hb; simp)
 |(refine aG (f := 84) rfl rfl (g_aloneBytes (r := r) (g := g) (m := refs.length) (by assumption)) rfl (fun v h' hq => ?_); obtain ⟨rfl, rfl⟩ := hq; simp)
 |(refine aG (f := 85) rfl rfl (g_aloneTexts (r := r) (g := g) (m := refs.length) (by assumption)) rfl (fun v h' hq => ?_); obtain ⟨rfl, rfl⟩ := hq; simp)
 |(refine aG (f := 87) rfl rfl (g_aloneInt64s (r := r) (g := g) (m := refs.length) (by assumption)) rfl (fun v h' hq => ?_); obtain ⟨rfl, rfl⟩ := hq; simp)
 |(refine aG (f := 88) rfl rfl (g_aloneBounds (r := r) (g := g) (m := refs.length) (by assumption)) rfl (fun v h' hq => ?_); obtain ⟨rfl, rfl⟩ := hq; simp)
 |(refine aG (f := 89) rfl rfl (g_aloneRats (r := r) (g := g) (m := refs.length) (by assumption)) rfl (fun v h' hq => ?_); obtain ⟨rfl, rfl⟩ := hq; simp)
 |(refine aG (f := 90) rfl rfl (g_aloneLimits (r := r) (g := g) (m := refs.length) (by assumption)) rfl (fun v h' hq => ?_); obtain ⟨rfl, rfl⟩ := hq; simp)
 |(refine aG (f := 91) rfl rfl (g_aloneGuards (r := r) (g := g) (m := refs.length) (by assumption)) rfl (fun v h' hq => ?_); obtain ⟨rfl, rfl⟩ := hq; simp)
 |(refine aG (f := 92) rfl rfl (g_aloneNodes (r := r) (g := g) (m := refs.length) (by assumption)) rfl (fun v h' hq => ?_); obtain ⟨rfl, rfl⟩ := hq; simp)
 |(refine aG (f := 93) rfl rfl (g_aloneMoves (r := r) (g := g) (m := refs.length) (by assumption)) rfl (fun v h' hq => ?_); obtain ⟨rfl, rfl⟩ := hq; simp)
 |(refine aG (f := 94) rfl rfl (g_aloneDiffs (r := r) (g := g) (m := refs.length) (by assumption)) rfl (fun v h' hq => ?_); obtain ⟨rfl, rfl⟩ := hq; simp)
 |(refine aG (f := 95) rfl rfl (g_aloneSteps (r := r) (g := g) (m := refs.length) (by assumption)) rfl (fun v h' hq => ?_); obtain ⟨rfl, rfl⟩ := hq; simp)
 |(refine aG (f := 96) rfl rfl (g_aloneAts (r := r) (g := g) (m := refs.length) (by assumption)) rfl (fun v h' hq => ?_); obtain ⟨rfl, rfl⟩ := hq; simp)
 |(refine aG (f := 97) rfl rfl (g_aloneBools (r := r) (g := g) (m := refs.length) (by assumption)) rfl (fun v h' hq => ?_); obtain ⟨rfl, rfl⟩ := hq; simp)
 |(apply hK;clear hK K)|refine AWh ‹_› ?_)
  simp only at k3 k4
  simp [k1, bookB]
  repeat' (first
 |refine aK fun K hK=>?_|refine Step.by1 ?_|refine sE (by decide) ?_|refine cz rfl ?_|refine Fork.by2 (fun h=>?_) fun h=>?_
 |(refine aR ?_;simp)
 |(refine Split.by2 (fun h=>?_) (fun h=>?_)<;>(simp [h]))
 |(apply hK;clear hK K)|refine AWh ‹_› ?_)
  have hl2 : HL (h'.set bk (.var [.nils, .nils, .nils, .nils, .nils, .nils, .nils, .nils, .nils, .nils, .nils, .nils, .nils, .nils])) := k2.set (by simp)
  refine retg1 ⟨rfl, hl2, by rw [List.length_set]; exact k3, fun b hb hb1 hb2 hb3 => ?_⟩ rfl (Go.AM.Leaves.sym (by rw [List.length_set]; exact k3) hl2)
  rw [gN (fun e => hb2 e.symm)]; exact k4 b hb hb1 hb3
def lookF (n : NetD) : List (List PartD) → Int
  | [] => 0
  | g :: r => if goalE n g ≠ 0 then goalE n g else lookF n r
theorem lookF_nil {n : NetD} : lookF n [] = 0 := rfl
theorem lookF_cons {n : NetD} {g : List PartD} {r : List (List PartD)} : lookF n (g :: r) = if goalE n g ≠ 0 then goalE n g else lookF n r := rfl
def lookE (n : NetD) (gs : List (List PartD)) : Int := if netE n ≠ 0 then netE n else lookF n gs
def bvs (l : List Bool) : List (List V) := l.map fun b => [V.bool b]
def namedB (c : Int) (l : List GuardD) : Bool := anyL (fun g => decide (g.clock = c)) l
def setsB (c : Int) (l : List SetD) : Bool := anyL (fun s => decide (s.clock = c)) l
/-- A clock that guards name at a location, on an edge from there, or in a goal. -/
def usedPs (c : Int) (X : Bool) : List PartD → Bool
  | [] => X
  | p :: l => namedB c p.guards || usedPs c X l
def usedGs (c : Int) : List (List PartD) → Bool
  | [] => false
  | g :: l => usedPs c (usedGs c l) g
def usedEs (i : Nat) (c : Int) (X : Bool) : List EdgeD → Bool
  | [] => X
  | e :: l => (decide (e.frm = i) && namedB c e.guards) || usedEs i c X l
def usedB (a : AutoD) (gs : List (List PartD)) (i : Nat) (c : Int) : Bool := namedB c (a.locs.getD i default).inv || usedEs i c (usedGs c gs) a.edges
inductive Act (a : AutoD) (gs : List (List PartD)) (c : Int) : Nat → Prop
  | use {i : Nat} (hi : i < a.locs.length) (h : usedB a gs i c = true) : Act a gs c i
  | edge {e : EdgeD} (he : e ∈ a.edges) (hto : Act a gs c e.to.toNat) (hs : setsB c e.sets = false) : Act a gs c e.frm.toNat
open Classical in
noncomputable def actB (a : AutoD) (gs : List (List PartD)) (c : Int) (i : Nat) : Bool := decide (Act a gs c i)
/-- Edges that lead from and to places of the automaton. -/
def okE (a : AutoD) : Prop := ∀ e ∈ a.edges, (0 ≤ e.frm ∧ e.frm < a.locs.length) ∧ (0 ≤ e.to ∧ e.to < a.locs.length)

theorem edges_ok {n : NetD} (h : wholeE n = 0) : ∀ a ∈ n.autos, okE a := by
  unfold wholeE at h
  have h1 := (fZ (fZ (fZ (fZ (fZ (fZ h).2).2).2).2).2).1
  intro a ha e he
  unfold edgesE at h1
  by_cases hb : anyL (fun a => anyL (edgeB n a) a.edges) n.autos = true
  · rw [if_pos hb] at h1; cases h1
  · have h2 : edgeB n a e = false := by
      cases hc : edgeB n a e
      · rfl
      · exact absurd (List.any_eq_true.2 ⟨a, ha, List.any_eq_true.2 ⟨e, he, hc⟩⟩) hb
    simp only [edgeB, isLoc, Bool.or_eq_false_iff, Bool.not_eq_false', decide_eq_true_eq] at h2
    exact ⟨by omega, by omega⟩
/-- The clocks, counted from 1, that are active. -/
noncomputable def actL (a : AutoD) (gs : List (List PartD)) (loc k : Nat) : List Int := ((List.range k).filter fun c : Nat => actB a gs ((c : Int) + 1) loc).map fun c : Nat => (c : Int) + 1
theorem actL_succ {a : AutoD} {gs : List (List PartD)} {loc k : Nat} : actL a gs loc (k + 1) = if actB a gs ((k : Int) + 1) loc = true then actL a gs loc k ++ [(k : Int) + 1] else actL a gs loc k := by
  unfold actL
  rw [List.range_succ, List.filter_append, List.map_append]
  by_cases h : actB a gs ((k : Int) + 1) loc = true <;> simp [h]
def badLoc (n : NetD) (au lo : Int) : Prop := au < 0 ∨ (n.autos.length : Int) ≤ au ∨ lo < 0 ∨ ((n.autos.getD au.toNat default).locs.length : Int) ≤ lo
instance {n : NetD} {au lo : Int} : Decidable (badLoc n au lo) := by unfold badLoc; infer_instance
/-- The clocks and the error: what both tell. -/
noncomputable def clksL (n : NetD) (au lo : Int) (gs : List (List PartD)) : List Int :=
  if lookE n gs ≠ 0 then [] else if badLoc n au lo then [] else actL (n.autos.getD au.toNat default) gs lo.toNat n.clocks.length
def clksE (n : NetD) (au lo : Int) (gs : List (List PartD)) : Int :=
  if lookE n gs ≠ 0 then lookE n gs else if badLoc n au lo then 122 else 0

end Go.Proofs.YtgmlimipejcpgaaGreatDoor
end
section
set_option linter.unusedSimpArgs false
set_option linter.unusedVariables false
namespace Go.AM
open Go.MapKept

end Go.AM
end
section
set_option linter.unusedVariables false
set_option linter.unusedSimpArgs false
namespace Go.AM
section
variable {P : Program} {ge : GEnv} {st : St} {Q : Exit → St → Prop}
theorem AW_loopG {σ : Type} (S : σ → St) (I : σ → Prop) (μ : σ → Nat) {c : Code} {x0 : σ} (h0 : I x0) (hst : Weak st (S x0)) (hlen : ∀ x, I x → st.h.length ≤ (S x).h.length)
    (round : ∀ x, I x → AW P ge c (SThen (fun s => ∃ x', I x' ∧ μ x' < μ x ∧ Weak s (S x')) Q) (S x)) : AW P ge (.loop c) Q st := by
  intro G0 a0 w0 hr0 b k cs
  have key : ∀ (n : Nat) (x : σ) (G : Gh) (a : Act) (w : World), μ x = n → I x → Rep P ge G (S x) a w → Ext G0 st.h w0 G (S x).h w →
      ∃ e a' w', CPost P ge Q G0 st.h w0 e a' w' ∧ Arrives P (lone (b.at a (.code c :: .inLoop c :: k)) cs w) b k cs e a' w' := by
    intro n
    induction n using Nat.strongRecOn with
    | _ n ih =>
      intro x G a w hn hI hr hx
      obtain ⟨e, a1, w1, hq, harr⟩ := round x hI G a w hr b (.inLoop c :: k) cs
      obtain ⟨G', s, q, r, ex⟩ := hq
      cases e with
      | normal =>
        obtain ⟨x', hI', hlt, hw⟩ := q
        have hl := hlen x' hI'
        obtain ⟨e2, a2, w2, hq2, harr2⟩ := ih (μ x') (hn ▸ hlt) x' _ a1 w1 rfl hI' (hw.rep r) (Ext.cut hw (hx.trans ex) (by rw [← hr0.rh.n]; exact hl))
        exact ⟨e2, a2, w2, hq2, .of_steps (Steps.trans harr (.one step_inLoop)) harr2⟩
      | exit id => exact ⟨_, a1, w1, ⟨G', s, q, r, hx.trans ex⟩, .pass (x := .inLoop c) rfl (fun _ _ => .inl (by simp)) harr⟩
      | goto l => exact ⟨_, a1, w1, ⟨G', s, q, r, hx.trans ex⟩, .pass (x := .inLoop c) rfl (fun _ _ => .inl (by simp)) harr⟩
      | ret => exact ⟨_, a1, w1, ⟨G', s, q, r, hx.trans ex⟩, .pass (x := .inLoop c) rfl (fun _ _ => .inl (by simp)) harr⟩
      | panic ch => exact ⟨_, a1, w1, ⟨G', s, q, r, hx.trans ex⟩, .pass (x := .inLoop c) rfl (fun _ _ => .inl (by simp)) harr⟩
      | outgrown => exact ⟨_, a1, w1, ⟨G', s, q, r, hx.trans ex⟩, .pass (x := .inLoop c) rfl (fun _ _ => .inl (by simp)) harr⟩
  obtain ⟨e, a', w', hq, harr⟩ := key _ x0 _ a0 w0 rfl h0 (hst.rep hr0) (Ext.cut hst (.refl _ _ _) (by rw [← hr0.rh.n]; exact hlen x0 h0))
  exact ⟨e, a', w', hq, .of_steps (.one step_loop) harr⟩
theorem AW_loopGL {σ : Type} (L : List Nat) (vs : σ → List (Nat × V)) (H : σ → List B) (I : σ → Prop) (μ : σ → Nat) {c : Code} (x0 : σ) (h0 : I x0)
    (hst : Weak st (headSt st L (vs x0) (H x0))) (hlen : ∀ x, I x → st.h.length ≤ (H x).length)
    (round : ∀ x, I x → AW P ge c (SThen (fun s => ∃ x', I x' ∧ μ x' < μ x ∧ Weak s (headSt st L (vs x') (H x'))) Q) (headSt st L (vs x) (H x))) : AW P ge (.loop c) Q st :=
  AW_loopG (fun x => headSt st L (vs x) (H x)) I μ h0 hst hlen round
end
end Go.AM
end
section
set_option linter.unusedSimpArgs false
set_option linter.unusedVariables false
namespace Go.Proofs.YtgmlimipejcpgaaGreatDoor
open Go Go.AM Fx
/-- Marks: rows of rows. -/
abbrev Marks := List (List Bool)

end Go.Proofs.YtgmlimipejcpgaaGreatDoor
end
section
set_option linter.unusedVariables false
set_option linter.unusedSimpArgs false
namespace Go.Proofs.YtgmlimipejcpgaaGreatDoor
open Go Go.AM Fx
/-- Symbolic heaps: what stands behind. -/
theorem ga1 {h x : List B} {n k : Nat} (e : h.length = n) : (h ++ x)[n + k]? = x[k]? := by subst e; rw [List.getElem?_append_right (by omega)]; simp
theorem ga0 {h x : List B} {n : Nat} (e : h.length = n) : (h ++ x)[n]? = x[0]? := ga1 (k := 0) e
theorem sa1 {h x : List B} {n k : Nat} {y : B} (e : h.length = n) : (h ++ x).set (n + k) y = h ++ x.set k y := by subst e; rw [List.set_append, if_neg (by omega)]; simp
theorem sa0 {h x : List B} {n : Nat} {y : B} (e : h.length = n) : (h ++ x).set n y = h ++ x.set 0 y := sa1 (k := 0) e
theorem HL.app {h x : List B} (hl : HL h) (hx : ∀ y ∈ x, y.lt (h.length + x.length)) : HL (h ++ x) := fun y hy => by
  rw [List.length_append]
  rcases List.mem_append.1 hy with h | h
  · exact B.lt_mono (by omega) (hl y h)
  · exact hx y h
/-- Marks on the heap: a row of rows. -/
def mrefs (ids : List (Nat × Nat)) (N : Nat) : List (List V) := ids.map fun x => [V.ref x.1 x.2 0 N]
structure MR {α : Type} (T0 T : TypeId) (en : List α → List (List V)) (h : List B) (mr gm : Nat) (fl : Bool) (ids : List (Nat × Nat)) (N : Nat) (m : List (List α)) (hc : List B) : Prop where
  ne : T0 ≠ T
  len : hc.length = h.length
  hl : HL hc
  mr : hc[mr]? = some (.row T0 gm 0 fl (mrefs ids N))
  ml : m.length = ids.length
  rows : ∀ (i : Nat) (x : Nat × Nat), ids[i]? = some x → ∃ r, m[i]? = some r ∧ r.length = N ∧ hc[x.1]? = some (.row T x.2 0 true (en r))
  inj : ∀ (i j : Nat) (x y : Nat × Nat), ids[i]? = some x → ids[j]? = some y → x.1 = y.1 → i = j
  rest : ∀ b, (∀ x ∈ ids, x.1 ≠ b) → hc[b]? = h[b]?
section
variable {α : Type} {T0 T : TypeId} {en : List α → List (List V)} {h hc : List B} {mr gm N : Nat} {fl : Bool} {ids : List (Nat × Nat)} {m : List (List α)}
theorem MR.upd (p : MR T0 T en h mr gm fl ids N m hc) {i : Nat} {x : Nat × Nat} (hx : ids[i]? = some x) {r : List α} (hr : r.length = N) : MR T0 T en h mr gm fl ids N (m.set i r) (hc.set x.1 (.row T x.2 0 true (en r))) := by
  obtain ⟨r0, h1, h2, h3⟩ := p.rows i x hx
  have hi := (List.getElem?_eq_some_iff.1 h1).1
  have hne : x.1 ≠ mr := fun e => by
    rw [e, p.mr] at h3
    simp only [Option.some.injEq, B.row.injEq] at h3
    exact p.ne h3.1
  refine ⟨p.ne, by rw [List.length_set]; exact p.len, p.hl.set rowF_lt, by rw [gN hne]; exact p.mr, by rw [List.length_set]; exact p.ml, fun j y hy => ?_, p.inj, fun b hb => by rw [gN (hb x (List.mem_of_getElem? hx))]; exact p.rest b hb⟩
  by_cases e : i = j
  · subst e
    obtain rfl : x = y := by rw [hx] at hy; cases hy; rfl
    exact ⟨r, by rw [List.getElem?_set, if_pos rfl, if_pos hi], hr, get_set_eq h3⟩
  · obtain ⟨r1, k1, k2, k3⟩ := p.rows j y hy
    exact ⟨r1, by rw [List.getElem?_set, if_neg e]; exact k1, k2, by rw [gN (fun e2 => e (p.inj i j x y hx hy e2))]; exact k3⟩
theorem MR.at (p : MR T0 T en h mr gm fl ids N m hc) {i : Nat} (hi : i < ids.length) : ∃ x : Nat × Nat, ids[i]? = some x ∧ (mrefs ids N)[i]'(by simp [mrefs, hi]) = [V.ref x.1 x.2 0 N] :=
  ⟨ids[i], List.getElem?_eq_getElem hi, by simp [mrefs]⟩
end
end Go.Proofs.YtgmlimipejcpgaaGreatDoor
end
section
set_option linter.unusedSimpArgs false
set_option linter.unusedVariables false
namespace Go.Proofs.YtgmlimipejcpgaaGreatDoor
open Go Go.AM Fx


theorem look_ok {n : NetD} {gs : List (List PartD)} (h : lookE n gs = 0) : netE n = 0 ∧ ∀ g ∈ gs, goalE n g = 0 := by
  unfold lookE at h
  by_cases hz : netE n = 0
  · rw [if_neg (by simp [hz])] at h
    refine ⟨hz, ?_⟩
    clear hz
    induction gs with
    | nil => intro g hg; cases hg
    | cons x r ih =>
      rw [lookF_cons] at h
      by_cases hx : goalE n x = 0
      · rw [if_neg (by simp [hx])] at h
        intro g hg
        rcases List.mem_cons.1 hg with rfl | hg
        · exact hx
        · exact ih h g hg
      · rw [if_pos hx] at h; exact absurd h hx
  · rw [if_pos hz] at h; exact absurd h hz
/-- The marks as a value that nobody writes any more. -/
theorem MR.conv {h hc : List B} {mr gm N : Nat} {fl : Bool} {ids : List (Nat × Nat)} {m : Marks} {vs : List (List V)} (p : MR 144 4 bvs h mr gm fl ids N m hc) (hfl : fl = true → ids = []) (hv : vs.length = ids.length) (hm : ∀ (i : Nat) (r : List Bool), m[i]? = some r → vs[i]? = some [V.vec (bvs r) N]) :
    Conv hc (.ref mr gm 0 ids.length) (.vec vs ids.length) := by
  refine .inl ⟨2, ?_, rfl⟩
  have e : vs = if fl = true then (mrefs ids N).drop 0 else ((mrefs ids N).drop 0).map fun x => x.map (frz hc 1) := by
    by_cases hf : fl = true
    · rw [if_pos hf, hfl hf]
      rw [hfl hf] at hv
      simpa [mrefs] using hv
    · rw [if_neg hf]
      apply List.ext_getElem?
      intro i
      rcases Nat.lt_or_ge i ids.length with hi | hi
      · obtain ⟨r, h1, h2, h3⟩ := p.rows i _ (List.getElem?_eq_getElem hi)
        rw [hm i r h1]
        simp [mrefs, hi, frz, h3, bvs, h2]
      · rw [List.getElem?_eq_none (by omega), List.getElem?_eq_none (by simp [mrefs, hi])]
  rw [e]
  simp [frz, p.mr, mrefs]

end Go.Proofs.YtgmlimipejcpgaaGreatDoor
end
