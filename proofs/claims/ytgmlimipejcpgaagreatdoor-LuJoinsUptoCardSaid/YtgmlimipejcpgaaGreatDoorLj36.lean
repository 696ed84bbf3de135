/-
  YtgmlimipejcpgaaGreatDoorLj36: steps of the proof of a law of the program: what these texts prove holds under the hypotheses that their theorems name, and no others.
-/
import Derived.Test.YtgmlimipejcpgaaGreatDoorLj35
import Derived.Test.YtgmlimipejcpgaaGreatDoorLj34
import Derived.Test.YtgmlimipejcpgaaGreatDoorLj22
import Derived.Test.YtgmlimipejcpgaaGreatDoorLj10
import Derived.Test.YtgmlimipejcpgaaGreatDoorLj29
import Derived.Test.YtgmlimipejcpgaaGreatDoorLj31
import Derived.Test.YtgmlimipejcpgaaGreatDoorLj27
section
set_option linter.unusedSimpArgs false
set_option linter.unusedVariables false
namespace Go.Proofs.YtgmlimipejcpgaaGreatDoor
open Go Go.AM Fx
structure JS where
  i : Nat
  hc : List B
set_option maxRecDepth 20000 in
set_option maxHeartbeats 16000000 in
theorem g_Join (a : PlanD) (ha : a.ok) (l : List PlanD) (hl : okPlans l) (he : anyL (unlike a) l = false) {h : List B} (hh : HL h) :
    GCall Tryz.prog GV 48 [.agg a.cells, vl PlanD.cells l] h (fun v h' => ∃ b1 g1 f1 T1 b2 g2 f2 T2, v = .tup [.agg [.ref b1 g1 0 T1.length, .ref b2 g2 0 T2.length], .int .i64 0] ∧ Old h h' ∧ N3 h.length h' b1 g1 f1 T1 (joinH a.lo (l.map (·.lo))) ∧ N3 h.length h' b2 g2 f2 T2 (joinH a.up (l.map (·.up))) ∧ (idsR T1 ++ idsR T2).Nodup) := by
  have hll := hl.1
  have hsh : ∀ b ∈ l, Shp a.lo b.lo ∧ Shp a.up b.up := fun b hb => unlike_no (by
    cases hq : unlike a b
    · rfl
    · have : anyL (unlike a) l = true := List.any_eq_true.2 ⟨b, hb, hq⟩
      rw [he] at this; cases this)
  have hc1 := fun b : PlanD => c_alikeP a.lo b.lo ha.1
  have hc2 := fun b : PlanD => c_alikeP a.up b.up ha.2
  have g0 := fun x : List B => ga0 (h := h) (x := x) rfl
  have g1 := fun (x : List B) (k : Nat) => ga1 (h := h) (x := x) (k := k) rfl
  have hH2 : HL (h ++ [B.var a.cells, B.var [.nils, .nils]]) := hh.app (by simp [PlanD.cells, halfV])
  simp only [halfV] at hc1 hc2
  refine gB1 Tryz.func48 rfl (by decide) Tryz.ntmps48 (by simp) Tryz.results48 ?_
  repeat' (first
 |refine aK fun K hK=>?_|refine Step.by1 ?_|refine sE (by decide) ?_|refine cz rfl ?_|refine Fork.by2 (fun h=>?_) fun h=>?_
 |(refine aR ?_;simp [vl, PlanD.cells, halfV, g0, g1])
 |(refine Split.by2 (fun h=>?_) (fun h=>?_)<;>(simp [h, vl, PlanD.cells, halfV, g0, g1]))
 |(apply hK;clear hK K)|refine AWh ‹_› ?_)
  refine aL [1, 2, 4, 11, 12] (fun i : Nat => [(13, .int .i64 i)]) (fun _ => h ++ [B.var a.cells, B.var [.nils, .nils]]) (fun i => i ≤ l.length) (fun i => l.length - i) 0 (Nat.zero_le _) (Weak.sym (x := []) (by simp [PlanD.cells, halfV]) hH2 (by simp [vl])) (fun _ _ => by simp) ?_
  intro i hi
  by_cases hlt : i < l.length
  · obtain ⟨b, hbb⟩ : ∃ b, l[i] = b := ⟨_, rfl⟩
    have hlt' : (i : Int) < l.length := by omega
    have w1 : IntKind.i64.wrap ((i : Int) + 1) = i + 1 := wI (by omega) (by omega)
    have d1 := hc1 b
    have d2 := hc2 b
    obtain ⟨s1, s2⟩ := hsh b (hbb ▸ List.getElem_mem hlt)
    rw [alikeP_iff.2 s1] at d1
    rw [alikeP_iff.2 s2] at d2
    clear hc1 hc2
    repeat' (first
 |refine aK fun K hK=>?_|refine Step.by1 ?_|refine sE (by decide) ?_|refine cz rfl ?_|refine Fork.by2 (fun h=>?_) fun h=>?_
 |((first|refine aR ?_|refine aC (f:=116) rfl rfl (d1) rfl rfl rfl ?_|refine aC (f:=116) rfl rfl (d2) rfl rfl rfl ?_);simp [vl, PlanD.cells, halfV, hlt, hlt', hbb, w1, g0, g1])
 |(refine Split.by2 (fun h=>?_) (fun h=>?_)<;>(simp [h, vl, PlanD.cells, halfV, hlt, hlt', hbb, w1, g0, g1]))
 |(apply hK;clear hK K)|refine AWh ‹_› ?_)
    exact ⟨i + 1, by omega, by omega, Weak.sym (x := [B.var b.cells]) (by simp [PlanD.cells, halfV]) hH2 (by simp [vl])⟩
  · obtain rfl : i = l.length := by omega
    clear hc1 hc2
    repeat' (first
 |refine aK fun K hK=>?_|refine Step.by1 ?_|refine sE (by decide) ?_|refine cz rfl ?_|refine Fork.by2 (fun h=>?_) fun h=>?_
 |(refine aR ?_;simp [vl])
 |(refine Split.by2 (fun h=>?_) (fun h=>?_)<;>(simp [h, vl]))
 |(apply hK;clear hK K)|refine AWh ‹_› ?_)
    have hrest : ∀ (s : St) (bx : Nat), s.n = 63 → lk s.tm 1 = vl PlanD.cells l → lk s.tm 4 = .ptr (h.length + 1) 0 → lk s.tm 8 = .ptr bx 0 → h.length + 2 ≤ bx → Old (h ++ [B.var a.cells, B.var [.nils, .nils]]) s.h → Two (h.length + 2) s.h bx (joinH a.lo []) (joinH a.up []) → K s := by
      rintro ⟨sn, tm, H⟩ bx hsn t1 t4 t8 hbx hO hT
      refine hK _ ?_
      simp only at hsn t1 t4 t8 hO hT
      subst hsn
      clear hK K
      have hxb := (List.getElem?_eq_some_iff.1 hT.ex.choose_spec.choose_spec.choose_spec.choose_spec.choose_spec.choose_spec.choose_spec.choose_spec.1).1
      simp only [vl] at t1
      repeat' (first
 |refine aK fun K hK=>?_|refine Step.by1 ?_|refine sE (by decide) ?_|refine cz rfl ?_|refine Fork.by2 (fun h=>?_) fun h=>?_
 |(refine aR ?_;simp [t1, t4, t8])
 |(refine Split.by2 (fun h=>?_) (fun h=>?_)<;>(simp [h, t1, t4, t8]))
 |(apply hK;clear hK K)|refine AWh ‹_› ?_)
      refine AW_loopGL [4, 8, 44, 45] (fun s : JS => [(46, .int .i64 s.i)]) (fun s => s.hc) (fun s => s.i ≤ l.length ∧ H.length ≤ s.hc.length ∧ Old (h ++ [B.var a.cells, B.var [.nils, .nils]]) s.hc ∧ Two (h.length + 2) s.hc bx (joinH a.lo ((l.take s.i).map (·.lo))) (joinH a.up ((l.take s.i).map (·.up)))) (fun s => l.length - s.i) ⟨0, H⟩
        ⟨Nat.zero_le _, Nat.le_refl _, hO, hT⟩ (Weak.sym (x := []) (by simp) hO.hl (by have := hO.len; simp at this; simp [t4, t8, vl]; omega)) (fun s hs => by simpa using hs.2.1) ?_
      rintro ⟨i, hc⟩ ⟨hi, hHl, ho, h2⟩
      simp only at hi hHl ho h2
      by_cases hlt : i < l.length
      · obtain ⟨b, hbb⟩ : ∃ b, l[i] = b := ⟨_, rfl⟩
        have hb? : l[i]? = some b := by rw [List.getElem?_eq_getElem hlt, hbb]
        have hlt' : (i : Int) < l.length := by omega
        have w1 : IntKind.i64.wrap ((i : Int) + 1) = i + 1 := wI (by omega) (by omega)
        obtain ⟨s1, s2⟩ := hsh b (List.mem_of_getElem? hb?)
        have k1 : Shp (joinH a.lo ((l.take i).map (·.lo))) b.lo := joinH_shp s1 fun C hC => by obtain ⟨z, hz, rfl⟩ := List.mem_map.1 hC; exact (hsh z (List.mem_of_mem_take hz)).1
        have k2 : Shp (joinH a.up ((l.take i).map (·.up))) b.up := joinH_shp s2 fun C hC => by obtain ⟨z, hz, rfl⟩ := List.mem_map.1 hC; exact (hsh z (List.mem_of_mem_take hz)).2
        have o1 : planOk (joinH a.lo ((l.take i).map (·.lo))) := joinH_ok ha.1
        have o2 : planOk (joinH a.up ((l.take i).map (·.up))) := joinH_ok ha.2
        have n1 : joinH a.lo ((l.take (i + 1)).map (·.lo)) = mxP (joinH a.lo ((l.take i).map (·.lo))) b.lo := by rw [take_map_snoc (f := fun p : PlanD => p.lo) hb?, joinH_snoc]
        have n2 : joinH a.up ((l.take (i + 1)).map (·.up)) = mxP (joinH a.up ((l.take i).map (·.up))) b.up := by rw [take_map_snoc (f := fun p : PlanD => p.up) hb?, joinH_snoc]
        generalize joinH a.lo ((l.take i).map (·.lo)) = X1 at *
        generalize joinH a.up ((l.take i).map (·.up)) = X2 at *
        obtain ⟨b1, e1, f1, T1, b2, e2, f2, T2, hv, p1, p2, hdj⟩ := h2.ex
        have hvl := (List.getElem?_eq_some_iff.1 hv).1
        have hcl : HL hc := h2.hl
        have hap : ∀ (x : List B) k, k < hc.length → (hc ++ x)[k]? = hc[k]? := fun x k hk => List.getElem?_append_left hk
        repeat' (first
 |refine aK fun K hK=>?_|refine Step.by1 ?_|refine sE (by decide) ?_|refine cz rfl ?_|refine Fork.by2 (fun h=>?_) fun h=>?_
 |(refine aR ?_;simp [hlt, hlt', hbb, vl])
 |(refine Split.by2 (fun h=>?_) (fun h=>?_)<;>(simp [h, hlt, hlt', hbb, vl]))
 |(apply hK;clear hK K)|refine AWh ‹_› ?_)
        have hx0 : HL (hc ++ [B.var b.cells]) := hcl.push (by simp [PlanD.cells, halfV])
        have q1 := p1.mono (h' := hc ++ [B.var b.cells]) (hap _)
        have q2 := p2.mono (h' := hc ++ [B.var b.cells]) (hap _)
        have hv0 : (hc ++ [B.var b.cells])[bx]? = some (B.var [.ref b1 e1 0 T1.length, .ref b2 e2 0 T2.length]) := by rw [hap _ _ hvl]; exact hv
        refine AW_freezeCell (b0 := bx) (j := 0) hx0 hv0 rfl q1 fun hd hdl hdn hd0 hd1 => ?_
        have q3 := q2.on (h' := hd) fun k hk => by
          have h3 := not_in fun hk1 => hdj k hk1 hk
          exact hd1 k (fun e => q2.not_var hv0 (e ▸ hk)) h3.1 h3.2.1 h3.2.2
        refine AW_freezeCell (st := ⟨_, _, hd⟩) (b0 := bx) (j := 1) hdl hd0 rfl q3 fun hf hfl hfn hf0 hf1 => ?_
        have hf0 : hf[bx]? = some (B.var [halfV X1, halfV X2]) := hf0
        have hol : h.length + 2 ≤ hc.length := by have := ho.len; simpa using this
        have hfl2 : hf.length = hc.length + 1 := by rw [hfn]; show hd.length = _; rw [hdn]; simp
        have nb1 : ∀ k, (hc ++ [B.var b.cells])[k]? = some (B.var b.cells) → k ≠ bx → hf[k]? = some (B.var b.cells) := fun k hk hne => by
          have h3 := not_in (q1.not_var hk)
          have h4 := not_in (q2.not_var hk)
          rw [hf1 k hne h4.1 h4.2.1 h4.2.2, hd1 k hne h3.1 h3.2.1 h3.2.2]; exact hk
        have hbc := nb1 hc.length (by simp) (by omega)
        have hof : Old (h ++ [B.var a.cells, B.var [.nils, .nils]]) hf := ⟨hfl, by simp; omega, fun k hk => by
          have hk2 : k < h.length + 2 := by simpa using hk
          have hkc : k < hc.length := by omega
          have h3 := not_in (b := b1) (T := T1) (k := k) fun hk1 => by have := q1.in_ge hk1; omega
          have h4 := not_in (b := b2) (T := T2) (k := k) fun hk1 => by have := q2.in_ge hk1; omega
          rw [hf1 k (by omega) h4.1 h4.2.1 h4.2.2, hd1 k (by omega) h3.1 h3.2.1 h3.2.2, hap _ k hkc]; exact ho.old k hk⟩
        clear hd1 hd0 hdl hf1 nb1
        refine AW_region_chain 11 12 [0, 1, 2, 3, 5, 6, 7, 8] (fun H => H[bx]? = some (B.var [halfV X1, halfV X2]) ∧ H[hc.length]? = some (B.var b.cells)) mixed (by decide) (by decide) rfl ⟨hf0, hbc⟩ ?_
        simp only [List.take_succ_cons, List.take_zero]
        refine PX_op (v := .ptr bx 0) rfl rfl rfl rfl (fun H hs => by simp [t8]) ?_
        refine PX_op (v := halfV X1) rfl rfl rfl rfl (fun H hs => by simp [hs.1]) ?_
        refine PX_op (v := .ptr hc.length 0) rfl rfl rfl rfl (fun H hs => by simp) ?_
        refine PX_op (v := halfV b.lo) rfl rfl rfl rfl (fun H hs => by simp [hs.2, PlanD.cells]) ?_
        refine PX_skip rfl ?_
        refine PX_op (v := .ptr bx 1) rfl rfl rfl rfl (fun H hs => by simp [t8]) ?_
        refine PX_op (v := halfV X2) rfl rfl rfl rfl (fun H hs => by simp [hs.1]) ?_
        refine PX_op (v := .ptr hc.length 1) rfl rfl rfl rfl (fun H hs => by simp) ?_
        refine PX_op (v := halfV b.up) rfl rfl rfl rfl (fun H hs => by simp [hs.2, PlanD.cells]) ?_
        refine PX_skip rfl ?_
        refine PX_skip rfl ?_
        refine PX_nil ?_
        refine Ch_1 4 (by decide) (by decide) ?_
        refine ChS_callG (f := 117) rfl rfl rfl rfl (g_greatest X1 b.lo o1 k1 hfl) (fun v h3 hq => ?_)
        obtain ⟨c1, d1, fl1, S1, rfl, ho3, r1⟩ := hq
        have ho3 : Old hf h3 := ho3
        have r1 : N3 hf.length h3 c1 d1 fl1 S1 (mxP X1 b.lo) := r1
        have hlt3 := ho3.len
        refine ⟨⟨ho3.get hf0, ho3.get hbc⟩, ?_⟩
        refine Ch_1 9 (by decide) (by decide) ?_
        refine ChS_callG (f := 117) rfl rfl rfl rfl (g_greatest X2 b.up o2 k2 ho3.hl) (fun v h4 hq => ?_)
        obtain ⟨c2, d2, fl2, S2, rfl, ho4, r2⟩ := hq
        have ho4 : Old h3 h4 := ho4
        have r2 : N3 h3.length h4 c2 d2 fl2 S2 (mxP X2 b.up) := r2
        have hlt4 := ho4.len
        have hbx4 := ho4.get (ho3.get hf0)
        refine ⟨⟨hbx4, ho4.get (ho3.get hbc)⟩, ?_⟩
        refine Ch_1 10 (by decide) (by decide) ?_
        refine cS1 rfl rfl rfl rfl (by simp) ⟨hbx4, ho4.get (ho3.get hbc)⟩ ?_
        simp
        refine Ch_end (by decide) ?_
        refine AS_of_AO ?_
        simp [hbx4, t8]
        have r1' := (r1.mono ho4.old).low' (o' := h.length + 2) (by omega)
        have r2' := r2.low' (o' := h.length + 2) (by omega)
        have hTw := Two.mk' ho4.hl hbx4 r1' r2' fun k hk1 hk2 => by
          have := r1.in_lt hk1
          have := r2.in_ge hk2
          omega
        have hO5 := ((hof.trans ho3).trans ho4).set (b := bx) (y := B.var [.ref c1 d1 0 S1.length, .ref c2 d2 0 S2.length]) (by simp; omega) hTw.hl
        rw [← n1, ← n2, List.map_take, List.map_take] at hTw
        repeat' (first
 |refine aK fun K hK=>?_|refine Step.by1 ?_|refine sE (by decide) ?_|refine cz rfl ?_|refine Fork.by2 (fun h=>?_) fun h=>?_
 |(refine aR ?_;simp [w1])
 |(refine Split.by2 (fun h=>?_) (fun h=>?_)<;>(simp [h, w1]))
 |(apply hK;clear hK K)|refine AWh ‹_› ?_)
        exact ⟨⟨i + 1, _⟩, ⟨by show i + 1 ≤ _; omega, by simp; omega, hO5, hTw⟩, by show _ - (i + 1) < _ - i; omega, Weak.sym (x := []) (by simp) hTw.hl (by simp [vl, t4, t8]; omega)⟩
      · obtain rfl : i = l.length := by omega
        rw [List.take_length] at h2
        obtain ⟨b1, e1, f1, T1, b2, e2, f2, T2, hv, p1, p2, hdj⟩ := h2.ex
        have hv1 : hc[h.length + 1]? = some (B.var [.nils, .nils]) := ho.get (g1 _ 1)
        repeat' (first
 |refine aK fun K hK=>?_|refine Step.by1 ?_|refine sE (by decide) ?_|refine cz rfl ?_|refine Fork.by2 (fun h=>?_) fun h=>?_
 |(refine aR ?_;simp [hv, hv1, t4, t8])
 |(refine Split.by2 (fun h=>?_) (fun h=>?_)<;>(simp [h, hv, hv1, t4, t8]))
 |(apply hK;clear hK K)|refine AWh ‹_› ?_)
        have e2' : (hc.set (h.length + 1) (B.var [V.ref b1 e1 0 T1.length, V.ref b2 e2 0 T2.length]))[h.length + 1]? = some (B.var [V.ref b1 e1 0 T1.length, V.ref b2 e2 0 T2.length]) := get_set_eq hv1
        have hb1 := p1.b_lt
        have hb2 := p2.b_lt
        have hl2 : HL (hc.set (h.length + 1) (B.var [V.ref b1 e1 0 T1.length, V.ref b2 e2 0 T2.length])) := h2.hl.set (by simp; omega)
        have hO : Old h (hc.set (h.length + 1) (B.var [V.ref b1 e1 0 T1.length, V.ref b2 e2 0 T2.length])) := (((Old.rfl hh).app hH2).trans ho).set (Nat.le_add_right _ _) hl2
        exact retg2c (by simp [e2']; exact ⟨rfl, rfl⟩) (by simp) ⟨b1, e1, f1, T1, b2, e2, f2, T2, by simp, hO, (p1.setne hv1).low' (by omega), (p2.setne hv1).low' (by omega), nodup_two p1 p2 hdj⟩ (by simp; omega) (Go.AM.Leaves.sym hO.len hO.hl)
    have fin : ∀ (s : St) (hx : List B) (bx c1 d1 c2 d2 : Nat) (fl1 fl2 : Bool) (S1 S2 : Rows3), s.n = 63 → lk s.tm 1 = vl PlanD.cells l → lk s.tm 4 = .ptr (h.length + 1) 0 → lk s.tm 8 = .ptr bx 0 → s.h = hx.set bx (.var [.ref c1 d1 0 S1.length, .ref c2 d2 0 S2.length]) → h.length + 2 ≤ bx → Old (h ++ [B.var a.cells, B.var [.nils, .nils]]) hx → hx[bx]? = some (B.var [.nils, .nils]) →
        N3 (h.length + 2) hx c1 d1 fl1 S1 (mxP a.lo a.lo) → N3 (h.length + 2) hx c2 d2 fl2 S2 (mxP a.up a.up) → (∀ k, inB c1 S1 k → ¬ inB c2 S2 k) → K s := fun s hx bx c1 d1 c2 d2 fl1 fl2 S1 S2 e1 e2 e3 e4 e5 hbx hO hv p1 p2 hd => by
      have hTw := Two.mk' hO.hl hv p1 p2 hd
      refine hrest s bx e1 e2 e3 e4 hbx ?_ ?_
      · rw [e5]; exact hO.set (by simp; omega) hTw.hl
      · rw [e5]; exact hTw
    have hA2 : (h ++ [B.var a.cells, B.var [.nils, .nils]])[h.length]? = some (B.var a.cells) := g0 _
    refine AW_region_chain 12 14 [0, 1, 2, 3, 5, 6, 7, 8] (fun H => H[h.length]? = some (B.var a.cells)) mixed (by decide) (by decide) rfl (by simp [PlanD.cells, halfV]) ?_
    simp only [List.take_succ_cons, List.take_zero]
    refine PX_op (v := .ptr h.length 0) rfl rfl rfl rfl (fun H hs => by simp) ?_
    refine PX_op (v := halfV a.lo) rfl rfl rfl rfl (fun H hs => by simp [hs, PlanD.cells]) ?_
    refine PX_op (v := .ptr h.length 0) rfl rfl rfl rfl (fun H hs => by simp) ?_
    refine PX_op (v := halfV a.lo) rfl rfl rfl rfl (fun H hs => by simp [hs, PlanD.cells]) ?_
    refine PX_skip rfl ?_
    refine PX_op (v := .ptr h.length 1) rfl rfl rfl rfl (fun H hs => by simp) ?_
    refine PX_op (v := halfV a.up) rfl rfl rfl rfl (fun H hs => by simp [hs, PlanD.cells]) ?_
    refine PX_op (v := .ptr h.length 1) rfl rfl rfl rfl (fun H hs => by simp) ?_
    refine PX_op (v := halfV a.up) rfl rfl rfl rfl (fun H hs => by simp [hs, PlanD.cells]) ?_
    refine PX_skip rfl ?_
    refine PX_skip rfl ?_
    refine PX_skip rfl ?_
    refine PX_nil ?_
    refine Ch_2 4 11 (by decide) (by decide) ?_ ?_
    · refine ChS_callG (f := 117) rfl rfl rfl rfl (g_greatest a.lo a.lo ha.1 shp_self hH2) (fun v h3 hq => ?_)
      obtain ⟨c1, d1, fl1, S1, rfl, ho3, r1⟩ := hq
      have ho3 : Old (h ++ [B.var a.cells, B.var [.nils, .nils]]) h3 := ho3
      have r1 : N3 ((h ++ [B.var a.cells, B.var [.nils, .nils]])).length h3 c1 d1 fl1 S1 (mxP a.lo a.lo) := r1
      have hlt3 := ho3.len
      have hA3 := ho3.get hA2
      refine ⟨hA3, ?_⟩
      refine Ch_2 9 11 (by decide) (by decide) ?_ ?_
      · refine ChS_callG (f := 117) rfl rfl rfl rfl (g_greatest a.up a.up ha.2 shp_self ho3.hl) (fun v h4 hq => ?_)
        obtain ⟨c2, d2, fl2, S2, rfl, ho4, r2⟩ := hq
        have ho4 : Old h3 h4 := ho4
        have r2 : N3 (h3).length h4 c2 d2 fl2 S2 (mxP a.up a.up) := r2
        have hlt4 := ho4.len
        have hA4 := ho4.get hA3
        refine ⟨hA4, ?_⟩
        have j0 := fun x : List B => ga0 (h := h4) (x := x) rfl
        have j1 := fun (x : List B) (y : B) => sa0 (h := h4) (x := x) (y := y) rfl
        have hl4 : HL (h4 ++ [B.var [.nils, .nils]]) := ho4.hl.app (by simp)
        have ap4 : ∀ k, k < h4.length → (h4 ++ [B.var [.nils, .nils]])[k]? = h4[k]? := fun k hk => List.getElem?_append_left hk
        have hA5 := (ap4 h.length (by simp at hlt3; omega)).trans hA4
        refine Ch_2 10 11 (by decide) (by decide) ?_ ?_
        · refine cS1 rfl rfl rfl rfl (by simp) hA4 ?_
          simp
          refine Ch_1 11 (by decide) (by decide) ?_
          refine ChS_op (h' := h4 ++ [B.var [.nils, .nils]]) rfl rfl rfl rfl (by simp) rfl hA5 ?_
          simp
          refine Ch_end (by decide) ?_
          refine AS_of_AO ?_
          simp [j0, j1]
          have hlen3 : h.length + 2 ≤ h3.length := by simpa using hlt3
          exact fin _ (h4 ++ [B.var [.nils, .nils]]) h4.length c1 d1 c2 d2 fl1 fl2 S1 S2 rfl rfl rfl rfl (by rw [j1]; rfl) (by omega) ((ho3.trans ho4).app hl4) (j0 _) (((r1.mono ho4.old).mono ap4).low' (by simp)) ((r2.mono ap4).low' (by omega)) (fun k hk1 hk2 => by have := r1.in_lt hk1; have := r2.in_ge hk2; omega)
        · refine ChS_op (h' := h4 ++ [B.var [.nils, .nils]]) rfl rfl rfl rfl (by simp) rfl hA5 ?_
          simp
          refine Ch_1 10 (by decide) (by decide) ?_
          refine cS1 rfl rfl rfl rfl (by simp) hA5 ?_
          simp
          refine Ch_end (by decide) ?_
          refine AS_of_AO ?_
          simp [j0, j1]
          have hlen3 : h.length + 2 ≤ h3.length := by simpa using hlt3
          exact fin _ (h4 ++ [B.var [.nils, .nils]]) h4.length c1 d1 c2 d2 fl1 fl2 S1 S2 rfl rfl rfl rfl (by rw [j1]; rfl) (by omega) ((ho3.trans ho4).app hl4) (j0 _) (((r1.mono ho4.old).mono ap4).low' (by simp)) ((r2.mono ap4).low' (by omega)) (fun k hk1 hk2 => by have := r1.in_lt hk1; have := r2.in_ge hk2; omega)
      · have hl3 : HL (h3 ++ [B.var [.nils, .nils]]) := ho3.hl.app (by simp)
        have ap3 : ∀ k, k < h3.length → (h3 ++ [B.var [.nils, .nils]])[k]? = h3[k]? := fun k hk => List.getElem?_append_left hk
        have hA4' := (ap3 h.length (by simp at hlt3; omega)).trans hA3
        refine ChS_op (h' := h3 ++ [B.var [.nils, .nils]]) rfl rfl rfl rfl (by simp) rfl hA4' ?_
        simp
        refine Ch_1 9 (by decide) (by decide) ?_
        refine ChS_callG (f := 117) rfl rfl rfl rfl (g_greatest a.up a.up ha.2 shp_self hl3) (fun v h4 hq => ?_)
        obtain ⟨c2, d2, fl2, S2, rfl, ho4, r2⟩ := hq
        have ho4 : Old (h3 ++ [B.var [.nils, .nils]]) h4 := ho4
        have r2 : N3 ((h3 ++ [B.var [.nils, .nils]])).length h4 c2 d2 fl2 S2 (mxP a.up a.up) := r2
        have hlt4 := ho4.len
        have hA4 := ho4.get hA4'
        refine ⟨hA4, ?_⟩
        have hbx := ho4.get (show (h3 ++ [B.var [.nils, .nils]])[h3.length]? = some (B.var [.nils, .nils]) from (ga0 rfl).trans rfl)
        refine Ch_1 10 (by decide) (by decide) ?_
        refine cS1 rfl rfl rfl rfl (by simp) hA4 ?_
        simp
        refine Ch_end (by decide) ?_
        refine AS_of_AO ?_
        simp [hbx]
        have hlen3 : h.length + 2 ≤ h3.length := by simpa using hlt3
        exact fin _ h4 h3.length c1 d1 c2 d2 fl1 fl2 S1 S2 rfl rfl rfl rfl rfl (by omega) ((ho3.app hl3).trans ho4) hbx (((r1.mono ap3).mono ho4.old).low' (by simp)) (r2.low' (by simp; omega)) (fun k hk1 hk2 => by have := r1.in_lt hk1; have := r2.in_ge hk2; simp at this; omega)
    · have hl1 : HL (h ++ [B.var a.cells, B.var [.nils, .nils]] ++ [B.var [.nils, .nils]]) := hH2.app (by simp)
      have ap1 : ∀ k, k < (h ++ [B.var a.cells, B.var [.nils, .nils]]).length → (h ++ [B.var a.cells, B.var [.nils, .nils]] ++ [B.var [.nils, .nils]])[k]? = (h ++ [B.var a.cells, B.var [.nils, .nils]])[k]? := fun k hk => List.getElem?_append_left hk
      have hA1 := (ap1 h.length (by simp)).trans hA2
      refine ChS_op (h' := (h ++ [B.var a.cells, B.var [.nils, .nils]]) ++ [B.var [.nils, .nils]]) rfl rfl rfl rfl (by simp) rfl hA1 ?_
      refine Ch_1 4 (by decide) (by decide) ?_
      refine ChS_callG (f := 117) rfl rfl rfl rfl (g_greatest a.lo a.lo ha.1 shp_self hl1) (fun v h3 hq => ?_)
      obtain ⟨c1, d1, fl1, S1, rfl, ho3, r1⟩ := hq
      have ho3 : Old (h ++ [B.var a.cells, B.var [.nils, .nils]] ++ [B.var [.nils, .nils]]) h3 := ho3
      have r1 : N3 ((h ++ [B.var a.cells, B.var [.nils, .nils]] ++ [B.var [.nils, .nils]])).length h3 c1 d1 fl1 S1 (mxP a.lo a.lo) := r1
      have hlt3 := ho3.len
      have hA3 := ho3.get hA1
      refine ⟨hA3, ?_⟩
      refine Ch_1 9 (by decide) (by decide) ?_
      refine ChS_callG (f := 117) rfl rfl rfl rfl (g_greatest a.up a.up ha.2 shp_self ho3.hl) (fun v h4 hq => ?_)
      obtain ⟨c2, d2, fl2, S2, rfl, ho4, r2⟩ := hq
      have ho4 : Old h3 h4 := ho4
      have r2 : N3 (h3).length h4 c2 d2 fl2 S2 (mxP a.up a.up) := r2
      have hlt4 := ho4.len
      have hA4 := ho4.get hA3
      refine ⟨hA4, ?_⟩
      have hbx := ho4.get (ho3.get (show (h ++ [B.var a.cells, B.var [.nils, .nils]] ++ [B.var [.nils, .nils]])[(h ++ [B.var a.cells, B.var [.nils, .nils]]).length]? = some (B.var [.nils, .nils]) from (ga0 rfl).trans rfl))
      refine Ch_1 10 (by decide) (by decide) ?_
      refine cS1 rfl rfl rfl rfl (by simp) hA4 ?_
      simp
      have hl0 : (h ++ [B.var a.cells, B.var [.nils, .nils]]).length = h.length + 2 := by simp
      have hl1' : (h ++ [B.var a.cells, B.var [.nils, .nils]] ++ [B.var [.nils, .nils]]).length = h.length + 3 := by simp
      refine Ch_end (by decide) ?_
      refine AS_of_AO ?_
      rw [hl0] at hbx
      simp [hbx]
      exact fin _ h4 (h.length + 2) c1 d1 c2 d2 fl1 fl2 S1 S2 rfl rfl rfl rfl rfl (Nat.le_refl _) (((Old.rfl hH2).app hl1 |>.trans ho3).trans ho4) hbx ((r1.mono ho4.old).low' (by omega)) (r2.low' (by omega)) (fun k hk1 hk2 => by have := r1.in_lt hk1; have := r2.in_ge hk2; omega)
set_option maxRecDepth 20000 in
set_option maxHeartbeats 8000000 in
theorem c_HandPlan (p : PlanD) (hp : p.ok) : PC 47 [.agg p.cells] (.agg p.hcells) := by
  have l1 := hp.1.1
  have l2 := hp.2.1
  have ra := rows3V_len (P := p.lo)
  have rb := rows3V_len (P := p.up)
  simp only [PlanD.cells, halfV]
  refine pB Tryz.func47 rfl (by decide) Tryz.ntmps47 (by simp) Tryz.results47 ?_
  repeat' (first
 |refine aK fun K hK=>?_|refine Step.by1 ?_|refine sE (by decide) ?_|refine cz rfl ?_|refine Fork.by2 (fun h=>?_) fun h=>?_
 |(refine aR ?_;simp)
 |(refine Split.by2 (fun h=>?_) (fun h=>?_)<;>(simp [h]))
 |(apply hK;clear hK K)|refine AWh ‹_› ?_)
  refine AW_nilcell 2 0 54 (cs := [.nils, .nils]) rfl rfl (by simp) ?_
  refine AW_nilcell 2 1 54 (cs := [.ref 3 0 0 0, .nils]) rfl rfl (by simp) ?_
  refine aL [1, 2, 3] (fun i : Nat => [(4, .int .i64 i)]) (fun i => [.var [.vec (rows3V p.lo) p.lo.length, .vec (rows3V p.up) p.up.length], .var [.nils, .nils], .var [.ref 3 i 0 i, .ref 4 0 0 0], .row 54 i 0 true (hHalf (p.lo.take i)), .row 54 0 0 true []]) (fun i => i ≤ p.lo.length) (fun i => p.lo.length - i) 0 (Nat.zero_le _) (by apply Weak.mk' <;> simp [hHalf]) (fun _ _ => rfl) ?_
  intro i hi
  by_cases hlt : i < p.lo.length
  · obtain ⟨Q, hQQ⟩ : ∃ Q, p.lo[i] = Q := ⟨_, rfl⟩
    have hQ? : p.lo[i]? = some Q := by rw [List.getElem?_eq_getElem hlt, hQQ]
    have hlt' : (i : Int) < p.lo.length := by omega
    have w1 : IntKind.i64.wrap ((i : Int) + 1) = i + 1 := wI (by omega) (by omega)
    have hby : (i + 1) * 24 ≤ 140737488355328 := by omega
    obtain ⟨k1, k2⟩ := hp.1.2 Q (List.mem_of_getElem? hQ?)
    have hc := c_HandIntLists Q k1 k2
    have a2 := rows3V_get hQ?
    have a3 : (rows3V p.lo)[i]'(by rw [rows3V_len]; exact hlt) = [V.vec (rows2V Q) Q.length] := by have hz := a2; rw [List.getElem?_eq_getElem (by rw [rows3V_len]; exact hlt)] at hz; exact Option.some.inj hz
    have hs := hHalf_take hQ?
    have hl1 : (hHalf (p.lo.take i)).length = i := by simp [hHalf]; omega
    generalize hHalf (p.lo.take i) = R at *
    unfold hQ at hc hs
    repeat' (first
 |refine aK fun K hK=>?_|refine Step.by1 ?_|refine sE (by decide) ?_|refine cz rfl ?_|refine Fork.by2 (fun h=>?_) fun h=>?_
 |((first|refine aR ?_|refine aX (id:=5) 9 mixed (by decide) ?_|refine aP1 (f:=115) rfl rfl (hc) rfl rfl rfl ?_);simp [hlt, hlt', a2, a3, ra, w1, hl1, hby])
 |(refine Split.by2 (fun h=>?_) (fun h=>?_)<;>(simp [h, hlt, hlt', a2, a3, ra, w1, hl1, hby]))
 |(refine AP_lit rfl (by simp [hlt, hlt', a2, a3, ra, w1, hl1, hby]) ?_;simp [hlt, hlt', a2, a3, ra, w1, hl1, hby])
 |(apply hK;clear hK K)|refine AWh ‹_› ?_)
    refine ⟨i + 1, by omega, by omega, ?_⟩
    rw [hs]
    apply Weak.mk' <;> simp
  · obtain rfl : i = p.lo.length := by omega
    rw [List.take_length]
    have hlA := hHalf_len (P := p.lo)
    generalize hRA : hHalf p.lo = RA at *
    repeat' (first
 |refine aK fun K hK=>?_|refine Step.by1 ?_|refine sE (by decide) ?_|refine cz rfl ?_|refine Fork.by2 (fun h=>?_) fun h=>?_
 |(refine aR ?_;simp)
 |(refine Split.by2 (fun h=>?_) (fun h=>?_)<;>(simp [h]))
 |(apply hK;clear hK K)|refine AWh ‹_› ?_)
    refine aL [1, 2, 3] (fun i : Nat => [(5, .int .i64 i)]) (fun i => [.var [.vec (rows3V p.lo) p.lo.length, .vec (rows3V p.up) p.up.length], .var [.nils, .nils], .var [.ref 3 p.lo.length 0 p.lo.length, .ref 4 i 0 i], .row 54 p.lo.length 0 true RA, .row 54 i 0 true (hHalf (p.up.take i))]) (fun i => i ≤ p.up.length) (fun i => p.up.length - i) 0 (Nat.zero_le _) (by apply Weak.mk' <;> simp [hHalf]) (fun _ _ => rfl) ?_
    intro i hi
    by_cases hlt : i < p.up.length
    · obtain ⟨Q, hQQ⟩ : ∃ Q, p.up[i] = Q := ⟨_, rfl⟩
      have hQ? : p.up[i]? = some Q := by rw [List.getElem?_eq_getElem hlt, hQQ]
      have hlt' : (i : Int) < p.up.length := by omega
      have w1 : IntKind.i64.wrap ((i : Int) + 1) = i + 1 := wI (by omega) (by omega)
      have hby : (i + 1) * 24 ≤ 140737488355328 := by omega
      obtain ⟨k1, k2⟩ := hp.2.2 Q (List.mem_of_getElem? hQ?)
      have hc := c_HandIntLists Q k1 k2
      have a2 := rows3V_get hQ?
      have a3 : (rows3V p.up)[i]'(by rw [rows3V_len]; exact hlt) = [V.vec (rows2V Q) Q.length] := by have hz := a2; rw [List.getElem?_eq_getElem (by rw [rows3V_len]; exact hlt)] at hz; exact Option.some.inj hz
      have hs := hHalf_take hQ?
      have hl1 : (hHalf (p.up.take i)).length = i := by simp [hHalf]; omega
      generalize hHalf (p.up.take i) = R at *
      unfold hQ at hc hs
      repeat' (first
 |refine aK fun K hK=>?_|refine Step.by1 ?_|refine sE (by decide) ?_|refine cz rfl ?_|refine Fork.by2 (fun h=>?_) fun h=>?_
 |((first|refine aR ?_|refine aX (id:=9) 9 mixed (by decide) ?_|refine aP1 (f:=115) rfl rfl (hc) rfl rfl rfl ?_);simp [hlt, hlt', a2, a3, rb, w1, hl1, hby])
 |(refine Split.by2 (fun h=>?_) (fun h=>?_)<;>(simp [h, hlt, hlt', a2, a3, rb, w1, hl1, hby]))
 |(refine AP_lit rfl (by simp [hlt, hlt', a2, a3, rb, w1, hl1, hby]) ?_;simp [hlt, hlt', a2, a3, rb, w1, hl1, hby])
 |(apply hK;clear hK K)|refine AWh ‹_› ?_)
      refine ⟨i + 1, by omega, by omega, ?_⟩
      rw [hs]
      apply Weak.mk' <;> simp
    · obtain rfl : i = p.up.length := by omega
      rw [List.take_length]
      have hlC := hHalf_len (P := p.up)
      repeat' (first
 |refine aK fun K hK=>?_|refine Step.by1 ?_|refine sE (by decide) ?_|refine cz rfl ?_|refine Fork.by2 (fun h=>?_) fun h=>?_
 |(refine aR ?_;simp)
 |(refine Split.by2 (fun h=>?_) (fun h=>?_)<;>(simp [h]))
 |(apply hK;clear hK K)|refine AWh ‹_› ?_)
      exact retqc rfl (by simp) (.inl ⟨3, by simp [Go.AM.frz, PlanD.hcells, hP, hlA, hlC, *], rfl⟩)
theorem zco54 : Tryz.prog.cellsOf 54 = 1 := by kernel_rfl
theorem zco80 : Tryz.prog.cellsOf 80 = 1 := by kernel_rfl
theorem zco82 : Tryz.prog.cellsOf 82 = 2 := by kernel_rfl
theorem zco47j : Tryz.prog.cellsOf 47 = 1 := by kernel_rfl
theorem rnIntsJ : RdN KB Tryz.prog 47 (fun l : List Int => [V.vec (ivs l) l.length]) (fun l => l.length ≤ 1048576) :=
  (RdN_slice Tryz.underlying47 (by rw [zco3]; decide) (RdN_int Tryz.underlying3) (fun _ => by rw [zco3]; rfl)).map id (fun _ => rfl) (fun l h => h.1)
theorem rnRows2 : RdN KB Tryz.prog 54 (fun Q : List (List Int) => [V.vec (rows2V Q) Q.length]) (fun Q => Q.length ≤ 1048576 ∧ ∀ r ∈ Q, r.length ≤ 1048576) :=
  (RdN_slice Tryz.underlying54 (by rw [zco47j]; decide) rnIntsJ (fun _ => by rw [zco47j]; rfl)).map id (fun _ => rfl) (fun l h => h)
theorem rnHalf : RdN KB Tryz.prog 80 (fun P : List (List (List Int)) => [halfV P]) planOk :=
  (RdN_slice Tryz.underlying80 (by rw [zco54]; decide) rnRows2 (fun _ => by rw [zco54]; rfl)).map id (fun _ => rfl) (fun l h => h)
theorem rnPlanD : RdN KB Tryz.prog 82 PlanD.cells PlanD.ok :=
  (RdN_struct Tryz.underlying82 zco82 (rC rfl zco80 rnHalf (fun _ => rfl) (rC rfl zco80 rnHalf (fun _ => rfl) (RdNs_nil rfl)))).map
    (fun p => ⟨p.1, p.2.1⟩) (fun _ => rfl) (fun p h => ⟨h.1, h.2.1⟩)
theorem rnPlans : RdN KB Tryz.prog 94 (fun l : List PlanD => [vl PlanD.cells l]) okPlans :=
  (RdN_slice Tryz.underlying94 (by rw [zco82]; decide) rnPlanD (fun _ => by rw [zco82]; rfl)).map id (fun _ => rfl) (fun l h => h)

end Go.Proofs.YtgmlimipejcpgaaGreatDoor
end
section
set_option linter.unusedSimpArgs false
set_option linter.unusedVariables false
namespace Go.AM

end Go.AM
end
section
set_option linter.unusedSimpArgs false
set_option linter.unusedVariables false
namespace Go.Proofs.YtgmlimipejcpgaaGreatDoor
open Go Go.AM Fx
theorem N2.len_eq {o b g : Nat} {h : List B} {fl : Bool} {ids : List (Nat × Nat × Nat)} {P : List (List Int)} (p : N2 o h b g fl ids P) {i : Nat} {x : Nat × Nat × Nat} {r : List Int} (hx : ids[i]? = some x) (hr : P[i]? = some r) :
    r.length = x.2.2 ∧ h[x.1]? = some (.row 3 x.2.1 0 true (ivs r)) := by
  obtain ⟨ns, h1, h2, h3⟩ := p.rows i x hx
  rw [hr] at h1; cases h1
  exact ⟨h2, h3⟩
set_option maxHeartbeats 8000000 in
theorem g_SameIntLists {h : List B} (hl : HL h) {o b g : Nat} {fl : Bool} {ids : List (Nat × Nat × Nat)} {P : List (List Int)} (p : N2 o h b g fl ids P) (hP : P.length ≤ 1048576) (hr : ∀ r ∈ P, r.length ≤ 1048576) :
    GCall Tryz.prog GV 169 [.ref b g 0 ids.length, .vec (rows2V P) P.length] h (fun v h' => v = .bool true ∧ h' = h) := by
  have hpl := p.len
  have hb := p.b_lt
  have hrl : (rows2V P).length = P.length := rows2V_len
  have hlt0 : V.lts h.length [V.vec (rows2V P) P.length] = true := by simp
  refine gB1 Tryz.func169 rfl (by decide) Tryz.ntmps169 (by simp) Tryz.results169 ?_
  repeat' (first
 |refine aK fun K hK=>?_|refine Step.by1 ?_|refine sE (by decide) ?_|refine cz rfl ?_|refine Fork.by2 (fun h=>?_) fun h=>?_
 |(refine aR ?_;simp [hpl])
 |(refine Split.by2 (fun h=>?_) (fun h=>?_)<;>(simp [h, hpl]))
 |(apply hK;clear hK K)|refine AWh ‹_› ?_)
  refine aL [0, 1] (fun i : Nat => [(5, .int .i64 i)]) (fun _ => h) (fun i => i ≤ ids.length) (fun i => ids.length - i) 0 (Nat.zero_le _) (Weak.sym (x := []) (by simp) hl (by simp [hb])) (fun _ _ => rfl) ?_
  intro i hi
  by_cases hlt : i < ids.length
  · obtain ⟨x, hx⟩ : ∃ x, ids[i] = x := ⟨_, rfl⟩
    have hx' : ids[i]? = some x := by rw [List.getElem?_eq_getElem hlt, hx]
    have hlt' : (i : Int) < ids.length := by omega
    have hip : i < P.length := by omega
    obtain ⟨r, hrr⟩ : ∃ r, P[i] = r := ⟨_, rfl⟩
    have hr' : P[i]? = some r := by rw [List.getElem?_eq_getElem hip, hrr]
    have w1 : IntKind.i64.wrap ((i : Int) + 1) = i + 1 := wI (by omega) (by omega)
    have c0 := p.at0
    have c1 : (ids.map fun x => [rv x])[i]? = some [.ref x.1 x.2.1 0 x.2.2] := by simp [hx', rv]
    have c2 := rows2V_get hr'
    obtain ⟨hlx, hrow⟩ := p.len_eq hx' hr'
    have hrb := hr r (List.mem_of_getElem? hr')
    have sa := c_SameInts r (by omega)
    have c3 : (rows2V P)[i]'(by omega) = [V.vec (ivs r) r.length] := by rw [List.getElem?_eq_getElem (by omega)] at c2; exact Option.some.inj c2
    have hil : (ivs r).length = r.length := by simp [ivs]
    simp only [isV] at sa
    rw [show (r.map fun k => [V.int .i64 k]) = ivs r from rfl] at sa
    repeat' (first
 |refine aK fun K hK=>?_|refine Step.by1 ?_|refine sE (by decide) ?_|refine cz rfl ?_|refine Fork.by2 (fun h=>?_) fun h=>?_
 |((first|refine aR ?_|refine aX (id:=6) 9 mixed (by decide) ?_);simp [c0, c1, c2, c3, hlt, hlt', hx, w1, hrl, hpl, hip, hrow, hlx, rv, hil])
 |(refine Split.by2 (fun h=>?_) (fun h=>?_)<;>(simp [h, c0, c1, c2, c3, hlt, hlt', hx, w1, hrl, hpl, hip, hrow, hlx, rv, hil]))
 |(refine AP_scall (f:=26) rfl ?_ (sa) rfl rfl rfl ?_;(focus (first|rfl|(simp [seenV, c0, c1, c2, c3, hlt, hlt', hx, w1, hrl, hpl, hip, hrow, hlx, rv, hil];done)));simp [c0, c1, c2, c3, hlt, hlt', hx, w1, hrl, hpl, hip, hrow, hlx, rv, hil])
 |(apply hK;clear hK K)|refine AWh ‹_› ?_)
    refine ⟨i + 1, by omega, by omega, Weak.sym (x := []) (by simp) hl (by simp [hb])⟩
  · obtain rfl : i = ids.length := by omega
    repeat' (first
 |refine aK fun K hK=>?_|refine Step.by1 ?_|refine sE (by decide) ?_|refine cz rfl ?_|refine Fork.by2 (fun h=>?_) fun h=>?_
 |(refine aR ?_;simp)
 |(refine Split.by2 (fun h=>?_) (fun h=>?_)<;>(simp [h]))
 |(apply hK;clear hK K)|refine AWh ‹_› ?_)
    exact retg1 ⟨rfl, rfl⟩ rfl (Go.AM.Leaves.sym (Nat.le_refl _) hl)
set_option maxHeartbeats 8000000 in
theorem g_sameRows {h : List B} (hl : HL h) {o b g : Nat} {fl : Bool} {T : Rows3} {P : List (List (List Int))} (p : N3 o h b g fl T P) (hP : P.length ≤ 1048576) (hr : ∀ Q ∈ P, Q.length ≤ 1048576 ∧ ∀ r ∈ Q, r.length ≤ 1048576) :
    GCall Tryz.prog GV 109 [.ref b g 0 T.length, halfV P] h (fun v h' => v = .bool true ∧ h' = h) := by
  have hpl := p.len
  have hb := p.b_lt
  have hrl : (rows3V P).length = P.length := rows3V_len
  refine gB1 Tryz.func109 rfl (by decide) Tryz.ntmps109 (by simp) Tryz.results109 ?_
  repeat' (first
 |refine aK fun K hK=>?_|refine Step.by1 ?_|refine sE (by decide) ?_|refine cz rfl ?_|refine Fork.by2 (fun h=>?_) fun h=>?_
 |(refine aR ?_;simp [hpl, halfV])
 |(refine Split.by2 (fun h=>?_) (fun h=>?_)<;>(simp [h, hpl, halfV]))
 |(apply hK;clear hK K)|refine AWh ‹_› ?_)
  refine aL [0, 1] (fun i : Nat => [(5, .int .i64 i)]) (fun _ => h) (fun i => i ≤ T.length) (fun i => T.length - i) 0 (Nat.zero_le _) (Weak.sym (x := []) (by simp) hl (by simp [hb, halfV])) (fun _ _ => rfl) ?_
  intro i hi
  by_cases hlt : i < T.length
  · obtain ⟨y, hy⟩ : ∃ y, T[i] = y := ⟨_, rfl⟩
    have hy' : T[i]? = some y := by rw [List.getElem?_eq_getElem hlt, hy]
    have hlt' : (i : Int) < T.length := by omega
    have hip : i < P.length := by omega
    have w1 : IntKind.i64.wrap ((i : Int) + 1) = i + 1 := wI (by omega) (by omega)
    have c0 := p.at0
    have c1 : (T.map fun y => [V.ref y.1 y.2.1 0 y.2.2.2.length])[i]? = some [.ref y.1 y.2.1 0 y.2.2.2.length] := by simp [hy']
    obtain ⟨Q, hQ, hN⟩ := p.rows i y hy'
    have c2 := rows3V_get hQ
    have c3 : (rows3V P)[i]'(by omega) = [V.vec (rows2V Q) Q.length] := by rw [List.getElem?_eq_getElem (by omega)] at c2; exact Option.some.inj c2
    obtain ⟨q1, q2⟩ := hr Q (List.mem_of_getElem? hQ)
    have sa := g_SameIntLists hl hN q1 q2
    repeat' (first
 |refine aK fun K hK=>?_|refine Step.by1 ?_|refine sE (by decide) ?_|refine cz rfl ?_|refine Fork.by2 (fun h=>?_) fun h=>?_
 |((first|refine aR ?_|refine aX (id:=6) 8 mixed (by decide) ?_);simp [c0, c1, c2, c3, hlt, hlt', hy, w1, hrl, hpl, hip, halfV])
 |(refine Split.by2 (fun h=>?_) (fun h=>?_)<;>(simp [h, c0, c1, c2, c3, hlt, hlt', hy, w1, hrl, hpl, hip, halfV]))
 |(refine aG (f := 169) rfl rfl sa rfl (fun v h' hq => ?_); obtain ⟨rfl, rfl⟩ := hq; simp)
 |(apply hK;clear hK K)|refine AWh ‹_› ?_)
    refine ⟨i + 1, by omega, by omega, Weak.sym (x := []) (by simp) hl (by simp [hb, halfV])⟩
  · obtain rfl : i = T.length := by omega
    repeat' (first
 |refine aK fun K hK=>?_|refine Step.by1 ?_|refine sE (by decide) ?_|refine cz rfl ?_|refine Fork.by2 (fun h=>?_) fun h=>?_
 |(refine aR ?_;simp)
 |(refine Split.by2 (fun h=>?_) (fun h=>?_)<;>(simp [h]))
 |(apply hK;clear hK K)|refine AWh ‹_› ?_)
    exact retg1 ⟨rfl, rfl⟩ rfl (Go.AM.Leaves.sym (Nat.le_refl _) hl)
set_option maxHeartbeats 8000000 in
theorem g_SamePlan {h : List B} (hl : HL h) {o1 b1 g1 o2 b2 g2 : Nat} {fl1 fl2 : Bool} {T1 T2 : Rows3} {P1 P2 : List (List (List Int))} (p1 : N3 o1 h b1 g1 fl1 T1 P1) (p2 : N3 o2 h b2 g2 fl2 T2 P2)
    (hP1 : P1.length ≤ 1048576) (hr1 : ∀ Q ∈ P1, Q.length ≤ 1048576 ∧ ∀ r ∈ Q, r.length ≤ 1048576) (hP2 : P2.length ≤ 1048576) (hr2 : ∀ Q ∈ P2, Q.length ≤ 1048576 ∧ ∀ r ∈ Q, r.length ≤ 1048576) :
    GCall Tryz.prog GV 41 [.agg [.ref b1 g1 0 T1.length, .ref b2 g2 0 T2.length], .agg [halfV P1, halfV P2]] h (fun v h' => v = .bool true ∧ h' = h) := by
  have g0 := fun x : List B => ga0 (h := h) (x := x) rfl
  have g1' := fun (x : List B) (k : Nat) => ga1 (h := h) (x := x) (k := k) rfl
  have hb1 := p1.b_lt
  have hb2 := p2.b_lt
  obtain ⟨e, he⟩ : ∃ e, e = [B.var [V.ref b1 g1 0 T1.length, V.ref b2 g2 0 T2.length], B.var [halfV P1, halfV P2]] := ⟨_, rfl⟩
  have hle : HL (h ++ e) := hl.app (by subst he; simp [halfV]; omega)
  have hap : ∀ k, k < h.length → (h ++ e)[k]? = h[k]? := fun k hk => List.getElem?_append_left hk
  have s1 := g_sameRows hle (p1.mono hap) hP1 hr1
  have s2 := g_sameRows hle (p2.mono hap) hP2 hr2
  rw [he] at s1 s2
  refine gB1 Tryz.func41 rfl (by decide) Tryz.ntmps41 (by simp) Tryz.results41 ?_
  repeat' (first
 |refine aK fun K hK=>?_|refine Step.by1 ?_|refine sE (by decide) ?_|refine cz rfl ?_|refine Fork.by2 (fun h=>?_) fun h=>?_
 |(refine aR ?_;simp [g0, g1'])
 |(refine Split.by2 (fun h=>?_) (fun h=>?_)<;>(simp [h, g0, g1']))
 |(refine aG (f := 109) rfl rfl s1 rfl (fun v h' hq => ?_); obtain ⟨rfl, rfl⟩ := hq; simp [g0, g1'])
 |(refine aG (f := 109) rfl rfl s2 rfl (fun v h' hq => ?_); obtain ⟨rfl, rfl⟩ := hq; simp [g0, g1'])
 |(apply hK;clear hK K)|refine AWh ‹_› ?_)
  exact retg1 ⟨rfl, rfl⟩ rfl (Go.Proofs.YtgmlimipejcpgaaGreatDoor.Leaves.symx (Nat.le_refl _) hl)
theorem c_sameRowsNil : PC 109 [.nils, .nils] (.bool true) := by
  refine pB Tryz.func109 rfl (by decide) Tryz.ntmps109 (by simp) Tryz.results109 ?_
  repeat' (first
 |refine AW_loop0 ?_
 |refine aK fun K hK=>?_|refine Step.by1 ?_|refine sE (by decide) ?_|refine cz rfl ?_|refine Fork.by2 (fun h=>?_) fun h=>?_
 |(refine aR ?_;simp)
 |(refine Split.by2 (fun h=>?_) (fun h=>?_)<;>(simp [h]))
 |(apply hK;clear hK K)|refine AWh ‹_› ?_)
  exact r1q (cE rfl rfl)
theorem c_SamePlanNil : PC 41 [.agg [.nils, .nils], .agg [.nils, .nils]] (.bool true) := by
  have h0 := c_sameRowsNil
  refine pB Tryz.func41 rfl (by decide) Tryz.ntmps41 (by simp) Tryz.results41 ?_
  repeat' (first
 |refine aK fun K hK=>?_|refine Step.by1 ?_|refine sE (by decide) ?_|refine cz rfl ?_|refine Fork.by2 (fun h=>?_) fun h=>?_
 |((first|refine aR ?_|refine aC (f:=109) rfl rfl (h0) rfl rfl rfl ?_);simp)
 |(refine Split.by2 (fun h=>?_) (fun h=>?_)<;>(simp [h]))
 |(apply hK;clear hK K)|refine AWh ‹_› ?_)
  exact r1q (cE rfl rfl)
theorem net_small : netE smallN = 0 := by kernel_rfl
def smallA : AutoD := smallN.autos.getD 0 default
theorem look_small : lookE smallN [] = 0 := by simp [lookE, net_small, lookF]
theorem act_small0 : actB smallA [] 1 0 = true := by
  simp only [actB, decide_eq_true_eq]
  exact .use (by decide) (by kernel_rfl)
theorem act_small1 : actB smallA [] 1 1 = false := by
  simp only [actB, decide_eq_false_iff_not]
  intro h
  generalize hi : 1 = i at h
  cases h with
  | use hi2 h => subst hi; revert h; decide
  | @edge e he _ _ =>
    simp [smallA, smallN] at he
    subst he
    simp at hi
theorem clks_small0 : clksL smallN 0 0 [] = [1] ∧ clksE smallN 0 0 [] = 0 := by
  have h : ¬ badLoc smallN 0 0 := by unfold badLoc; decide
  have ha := act_small0
  refine ⟨?_, by simp [clksE, look_small, h]⟩
  simp only [clksL, look_small, h, if_false, ne_eq, not_true_eq_false]
  show actL smallA [] 0 (0 + 1) = [1]
  rw [actL_succ, if_pos (by simpa using ha)]; rfl
theorem clks_small1 : clksL smallN 0 1 [] = [] ∧ clksE smallN 0 1 [] = 0 := by
  have h : ¬ badLoc smallN 0 1 := by unfold badLoc; decide
  have ha := act_small1
  refine ⟨?_, by simp [clksE, look_small, h]⟩
  simp only [clksL, look_small, h, if_false, ne_eq, not_true_eq_false]
  show actL smallA [] 1 (0 + 1) = []
  rw [actL_succ, if_neg (by simpa using ha)]; rfl
end Go.Proofs.YtgmlimipejcpgaaGreatDoor
end
