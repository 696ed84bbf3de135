/-
  YtgmlimipejcpgaaDoorLo07: steps of the proof of a law of the program: what these texts prove holds under the hypotheses that their theorems name, and no others.
-/
import Derived.Test.YtgmlimipejcpgaaDoorLo06
section
set_option linter.unusedSimpArgs false
set_option linter.unusedVariables false
namespace Go.Proofs.YtgmlimipejcpgaaDoor
open Go Go.AM Fx
structure PQ where
  i : Nat
  hc : List B
  f1 : Bool
  T1 : Rows3
  f2 : Bool
  T2 : Rows3
structure PQI (n : NetD) (gs : List (List PartD)) (h : List B) (s : PQ) : Prop where
  i : s.i ≤ n.autos.length
  p : PH n h ((luP n lowB gs).take s.i) ((luP n upB gs).take s.i) s.i s.i s.hc s.f1 s.T1 s.f2 s.T2
theorem Old.rfl' {h hc : List B} (p : Old h hc) : Old hc hc := ⟨p.hl, Nat.le_refl _, fun _ _ => Eq.refl _⟩
set_option maxRecDepth 20000 in
set_option maxHeartbeats 16000000 in
theorem c_luPlan (n : NetD) (hn : n.ok) (gs : List (List PartD)) (hgl : gs.length ≤ 1048577) (hgs : ∀ g ∈ gs, okGoal g) (he : lookE n gs = 0) {h : List B} (hl : HL h) :
    GCall Tryd.prog GV 58 [.agg n.cells, gsV gs] h (fun v h' => ∃ b1 g1 f1 T1 b2 g2 f2 T2, v = .tup [.agg [.ref b1 g1 0 T1.length, .ref b2 g2 0 T2.length], .int .i64 0] ∧ Old h h' ∧ N3 h.length h' b1 g1 f1 T1 (luP n lowB gs) ∧ N3 h.length h' b2 g2 f2 T2 (luP n upB gs) ∧ (idsR T1 ++ idsR T2).Nodup) := by
  have hc := c_luLook n hn gs hgl hgs
  rw [he] at hc
  have hal := hn.2.2.2.1
  have g0 := fun x : List B => ga0 (h := h) (x := x) rfl
  have g1 := fun (x : List B) (k : Nat) => ga1 (h := h) (x := x) (k := k) rfl
  have s1 := fun (x : List B) (k : Nat) (y : B) => sa1 (h := h) (x := x) (k := k) (y := y) rfl
  simp only [NetD.cells, vl, gsV] at hc
  refine gB1 Tryd.func58 rfl (by decide) Tryd.ntmps58 (by simp) Tryd.results58 ?_
  repeat' (first
 |refine aK fun K hK=>?_|refine Step.by1 ?_|refine sE (by decide) ?_|refine cz rfl ?_|refine Fork.by2 (fun h=>?_) fun h=>?_
 |((first|refine aR ?_|refine aC (f:=96) rfl rfl (hc) rfl rfl rfl ?_);simp [NetD.cells, vl, gsV, g0, g1, s1])
 |(refine Split.by2 (fun h=>?_) (fun h=>?_)<;>(simp [h, NetD.cells, vl, gsV, g0, g1, s1]))
 |(apply hK;clear hK K)|refine AWh ‹_› ?_)
  refine AW_nilcell (h.length + 2) 0 57 (cs := [.nils, .nils]) (by simp [g1]) rfl (by simp) ?_
  refine AW_nilcell (h.length + 2) 1 57 (cs := [.ref (h.length + 3) 0 0 0, .nils]) (by simp [g1, s1]) rfl (by simp) ?_
  have hH : HL (h ++ [B.var n.cells, B.var [.nils, .nils], B.var [.ref (h.length + 3) 0 0 0, .ref (h.length + 4) 0 0 0], B.row 57 0 0 true [], B.row 57 0 0 true []]) := hl.app (by simp [NetD.cells, vl])
  have hP0 : PH n h [] [] 0 0 (h ++ [B.var n.cells, B.var [.nils, .nils], B.var [.ref (h.length + 3) 0 0 0, .ref (h.length + 4) 0 0 0], B.row 57 0 0 true [], B.row 57 0 0 true []]) true [] true [] :=
    ⟨(Old.rfl hl).app hH, g0 _, g1 _ 1, g1 _ 2, rfl, rfl, ⟨g1 _ 3, fun _ => rfl, rfl, fun i y hy => by simp at hy, by omega, by simp⟩, ⟨g1 _ 4, fun _ => rfl, rfl, fun i y hy => by simp at hy, by omega, by simp⟩, by simp [idsR]⟩
  refine AW_loopGL [1, 2, 4, 7, 18, 19] (fun s : PQ => [(20, .int .i64 s.i)]) (fun s => s.hc) (PQI n gs h) (fun s => n.autos.length - s.i) ⟨0, _, true, [], true, []⟩ ⟨Nat.zero_le _, hP0⟩
    (Weak.sym (x := []) (by simp [NetD.cells, vl, g1, s1]) hH (by simp [vl])) (fun s hs => by have := hs.p.p2.b_lt; simp [NetD.cells]; omega) ?_
  clear hP0 hH
  rintro ⟨i, hc, f1, T1, f2, T2⟩ ⟨hi, hp⟩
  simp only at hi hp
  by_cases hlt : i < n.autos.length
  · obtain ⟨a, haa⟩ : ∃ a, n.autos[i] = a := ⟨_, rfl⟩
    have ham : a ∈ n.autos := haa ▸ List.getElem_mem hlt
    have hlt' : (i : Int) < n.autos.length := by omega
    have w1 : IntKind.i64.wrap ((i : Int) + 1) = i + 1 := wI (by omega) (by omega)
    have hof := fun {hx : List B} (hlx : HL hx) (fso : Nat) (so : Int → Bool) (hso : ∀ c, PC fso [.int .u8 c] (.bool (so c))) => c_luOf n hn a ham gs hgl hgs he fso so hso hlx
    have a0 := fun x : List B => ga0 (h := hc) (x := x) rfl
    have k0 := hp.c0
    have hby : (i + 1) * 24 ≤ 140737488355328 := by omega
    have l0 := (List.getElem?_eq_some_iff.1 k0).1
    have l2 := (List.getElem?_eq_some_iff.1 hp.c2).1
    have hb3 := hp.p1.b_lt
    have hb4 := hp.p2.b_lt
    have hxl : HL (hc ++ [B.var a.cells]) := hp.ho.hl.app (by simp [AutoD.cells, vl])
    have hx : (hc ++ [B.var a.cells])[h.length]? = some (B.var n.cells) ∧ (hc ++ [B.var a.cells])[h.length + 2]? = some (B.var [.ref (h.length + 3) i 0 i, .ref (h.length + 4) i 0 i]) ∧ (hc ++ [B.var a.cells])[hc.length]? = some (B.var a.cells) := ⟨by rw [get_app l0]; exact hp.c0, by rw [get_app l2]; exact hp.c2, a0 _⟩
    repeat' (first
 |refine aK fun K hK=>?_|refine Step.by1 ?_|refine sE (by decide) ?_|refine cz rfl ?_|refine Fork.by2 (fun h=>?_) fun h=>?_
 |(refine aR ?_;simp [vl, gsV, hlt, hlt', haa, a0])
 |(refine Split.by2 (fun h=>?_) (fun h=>?_)<;>(simp [h, vl, gsV, hlt, hlt', haa, a0]))
 |(apply hK;clear hK K)|refine AWh ‹_› ?_)
    refine AW_region_chain 8 9 [0, 1, 2, 3, 4] (fun H => H[h.length]? = some (B.var n.cells) ∧ H[h.length + 2]? = some (B.var [.ref (h.length + 3) i 0 i, .ref (h.length + 4) i 0 i]) ∧ H[hc.length]? = some (B.var a.cells)) mixed (by decide) (by decide) rfl hx ?_
    simp only [List.take_succ_cons, List.take_zero]
    refine PX_op (v := .ptr (h.length + 2) 0) rfl rfl rfl rfl (fun H hs => by simp) ?_
    refine PX_op (v := .ref (h.length + 3) i 0 i) rfl rfl rfl rfl (fun H hs => by simp [hs.2.1]) ?_
    refine PX_op (v := .agg n.cells) rfl rfl rfl rfl (fun H hs => by simp [hs.1, NetD.cells]) ?_
    refine PX_op (v := .agg a.cells) rfl rfl rfl rfl (fun H hs => by simp [hs.2.2, AutoD.cells]) ?_
    refine PX_op rfl rfl rfl rfl (fun H hs => ⟨trivial, rfl⟩) ?_
    refine PX_skip rfl ?_
    refine PX_skip rfl ?_
    refine PX_skip rfl ?_
    refine PX_nil ?_
    refine Ch_1 5 (by decide) (by decide) ?_
    refine ChS_callG (f := 97) rfl rfl rfl rfl (hof hxl 98 lowB c_isBelow) (fun v h1 hq => ?_)
    obtain ⟨b, g, fl, ids, rfl, ho1, hr⟩ := hq
    have hpe := hp.ext ((hp.ho.rfl').app hxl |>.trans ho1)
    have kb := fun x : List B => (get_app (x := x) hpe.p1.b_lt).trans hpe.p1.at0
    have sb := fun (x : List B) (y : B) => set_app (x := x) (y := y) hpe.p1.b_lt
    have kc := fun x : List B => (get_app (x := x) (List.getElem?_eq_some_iff.1 hpe.c2).1).trans hpe.c2
    have ka := ho1.get hx.2.2
    have la := (List.getElem?_eq_some_iff.1 ka).1
    have hg0 := fun x : List B => ga0 (h := h1) (x := x) rfl
    have hml : (T1.map fun y => [V.ref y.1 y.2.1 0 y.2.2.2.length]).length = i := by simp [hp.t1]
    refine ⟨⟨hpe.c0, hpe.c2, ka⟩, ?_⟩
    refine Ch_1 6 (by decide) (by decide) ?_
    refine ChS_op rfl rfl rfl rfl (by simp) rfl ⟨(get_app (List.getElem?_eq_some_iff.1 hpe.c0).1).trans hpe.c0, kc _, (get_app la).trans ka⟩ ?_
    simp
    refine Ch_1 7 (by decide) (by decide) ?_
    have n0 : ∀ {x : List B} {y : B}, (h1.set (h.length + 3) y ++ x)[h.length]? = some (B.var n.cells) := fun {x y} => by rw [get_app (by rw [List.length_set]; exact (List.getElem?_eq_some_iff.1 hpe.c0).1), gN (by omega)]; exact hpe.c0
    have n2 : ∀ {x : List B} {y : B}, (h1.set (h.length + 3) y ++ x)[h.length + 2]? = some (B.var [.ref (h.length + 3) i 0 i, .ref (h.length + 4) i 0 i]) := fun {x y} => by rw [get_app (by rw [List.length_set]; exact (List.getElem?_eq_some_iff.1 hpe.c2).1), gN (by omega)]; exact hpe.c2
    have na : ∀ {x : List B} {y : B}, (h1.set (h.length + 3) y ++ x)[hc.length]? = some (B.var a.cells) := fun {x y} => by rw [get_app (by rw [List.length_set]; exact la), gN (by omega)]; exact ka
    refine ChS_op (v := .ref (h.length + 3) (i + 1) 0 (i + 1)) (h' := h1.set (h.length + 3) (.row 57 (i + 1) 0 false (T1.map (fun y => [V.ref y.1 y.2.1 0 y.2.2.2.length]) ++ [[V.ref b g 0 ids.length]])) ++ [B.row 57 0 0 false [[V.ref b g 0 ids.length]]]) rfl rfl rfl rfl (by simp [kb, hg0, hml, hby, hp.t1]) (by simp [kb, hg0, hml, sb, hp.t1]) ⟨n0, n2, na⟩ ?_
    refine Ch_end (by decide) ?_
    refine AS_of_AO ?_
    simp [n2]
    have hp2 := hp.lo (hp.ho.rfl'.app hxl |>.trans ho1) hr (by simp)
    unfold loH at hp2
    have hAn : ((h1.set (h.length + 3) (.row 57 (i + 1) 0 false (T1.map (fun y => [V.ref y.1 y.2.1 0 y.2.2.2.length]) ++ [[V.ref b g 0 ids.length]])) ++ [B.row 57 0 0 false [[V.ref b g 0 ids.length]]]).set (h.length + 2) (.var [.ref (h.length + 3) (i + 1) 0 (i + 1), .ref (h.length + 4) i 0 i]))[hc.length]? = some (B.var a.cells) := by rw [gN (by omega)]; exact na
    generalize (h1.set (h.length + 3) (.row 57 (i + 1) 0 false (T1.map (fun y => [V.ref y.1 y.2.1 0 y.2.2.2.length]) ++ [[V.ref b g 0 ids.length]])) ++ [B.row 57 0 0 false [[V.ref b g 0 ids.length]]]).set (h.length + 2) (.var [.ref (h.length + 3) (i + 1) 0 (i + 1), .ref (h.length + 4) i 0 i]) = hd at *
    refine hK _ ?_
    clear hK K ho1 hr hpe kb sb kc ka la hg0 hml n0 n2 na hx hxl k0 l0 l2
    have hyl : HL hd := hp2.ho.hl
    have hy : hd[h.length]? = some (B.var n.cells) ∧ hd[h.length + 2]? = some (B.var [.ref (h.length + 3) (i + 1) 0 (i + 1), .ref (h.length + 4) i 0 i]) ∧ hd[hc.length]? = some (B.var a.cells) := ⟨hp2.c0, hp2.c2, hAn⟩
    repeat' (first
 |refine aK fun K hK=>?_|refine Step.by1 ?_|refine sE (by decide) ?_|refine cz rfl ?_|refine Fork.by2 (fun h=>?_) fun h=>?_
 |(refine aR ?_;simp)
 |(refine Split.by2 (fun h=>?_) (fun h=>?_)<;>(simp [h]))
 |(apply hK;clear hK K)|refine AWh ‹_› ?_)

    refine AW_region_chain 8 9 [0, 1, 2, 3, 4] (fun H => H[h.length]? = some (B.var n.cells) ∧ H[h.length + 2]? = some (B.var [.ref (h.length + 3) (i + 1) 0 (i + 1), .ref (h.length + 4) i 0 i]) ∧ H[hc.length]? = some (B.var a.cells)) mixed (by decide) (by decide) rfl hy ?_
    simp only [List.take_succ_cons, List.take_zero]
    refine PX_op (v := .ptr (h.length + 2) 1) rfl rfl rfl rfl (fun H hs => by simp) ?_
    refine PX_op (v := .ref (h.length + 4) i 0 i) rfl rfl rfl rfl (fun H hs => by simp [hs.2.1]) ?_
    refine PX_op (v := .agg n.cells) rfl rfl rfl rfl (fun H hs => by simp [hs.1, NetD.cells]) ?_
    refine PX_op (v := .agg a.cells) rfl rfl rfl rfl (fun H hs => by simp [hs.2.2, AutoD.cells]) ?_
    refine PX_op rfl rfl rfl rfl (fun H hs => ⟨trivial, rfl⟩) ?_
    refine PX_skip rfl ?_
    refine PX_skip rfl ?_
    refine PX_skip rfl ?_
    refine PX_nil ?_
    refine Ch_1 5 (by decide) (by decide) ?_
    refine ChS_callG (f := 97) rfl rfl rfl rfl (hof hyl 99 upB c_isAbove) (fun v h2 hq => ?_)
    obtain ⟨b2, g2, fl2, ids2, rfl, ho2, hr2⟩ := hq
    have hp2e := hp2.ext ho2
    have kb := fun x : List B => (get_app (x := x) hp2e.p2.b_lt).trans hp2e.p2.at0
    have sb := fun (x : List B) (y : B) => set_app (x := x) (y := y) hp2e.p2.b_lt
    have kc := fun x : List B => (get_app (x := x) (List.getElem?_eq_some_iff.1 hp2e.c2).1).trans hp2e.c2
    have ka := ho2.get hy.2.2
    have la := (List.getElem?_eq_some_iff.1 ka).1
    have hg0 := fun x : List B => ga0 (h := h2) (x := x) rfl
    have hml : (T2.map fun y => [V.ref y.1 y.2.1 0 y.2.2.2.length]).length = i := by simp [hp2.t2]
    refine ⟨⟨hp2e.c0, hp2e.c2, ka⟩, ?_⟩
    refine Ch_1 6 (by decide) (by decide) ?_
    refine ChS_op rfl rfl rfl rfl (by simp) rfl ⟨(get_app (List.getElem?_eq_some_iff.1 hp2e.c0).1).trans hp2e.c0, kc _, (get_app la).trans ka⟩ ?_
    simp
    refine Ch_1 7 (by decide) (by decide) ?_
    have n0 : ∀ {x : List B} {y : B}, (h2.set (h.length + 4) y ++ x)[h.length]? = some (B.var n.cells) := fun {x y} => by rw [get_app (by rw [List.length_set]; exact (List.getElem?_eq_some_iff.1 hp2e.c0).1), gN (by omega)]; exact hp2e.c0
    have n2 : ∀ {x : List B} {y : B}, (h2.set (h.length + 4) y ++ x)[h.length + 2]? = some (B.var [.ref (h.length + 3) (i + 1) 0 (i + 1), .ref (h.length + 4) i 0 i]) := fun {x y} => by rw [get_app (by rw [List.length_set]; exact (List.getElem?_eq_some_iff.1 hp2e.c2).1), gN (by omega)]; exact hp2e.c2
    have na : ∀ {x : List B} {y : B}, (h2.set (h.length + 4) y ++ x)[hc.length]? = some (B.var a.cells) := fun {x y} => by rw [get_app (by rw [List.length_set]; exact la), gN (by omega)]; exact ka
    refine ChS_op (v := .ref (h.length + 4) (i + 1) 0 (i + 1)) (h' := h2.set (h.length + 4) (.row 57 (i + 1) 0 false (T2.map (fun y => [V.ref y.1 y.2.1 0 y.2.2.2.length]) ++ [[V.ref b2 g2 0 ids2.length]])) ++ [B.row 57 0 0 false [[V.ref b2 g2 0 ids2.length]]]) rfl rfl rfl rfl (by simp [kb, hg0, hml, hby, hp2.t2]) (by simp [kb, hg0, hml, sb, hp2.t2]) ⟨n0, n2, na⟩ ?_
    refine Ch_end (by decide) ?_
    refine AS_of_AO ?_
    simp [n2]
    have hp3 := hp2.up ho2 hr2 (Nat.le_refl _)
    unfold upH at hp3
    have hA3 : ((h2.set (h.length + 4) (.row 57 (i + 1) 0 false (T2.map (fun y => [V.ref y.1 y.2.1 0 y.2.2.2.length]) ++ [[V.ref b2 g2 0 ids2.length]])) ++ [B.row 57 0 0 false [[V.ref b2 g2 0 ids2.length]]]).set (h.length + 2) (.var [.ref (h.length + 3) (i + 1) 0 (i + 1), .ref (h.length + 4) (i + 1) 0 (i + 1)]))[hc.length]? = some (B.var a.cells) := by rw [gN (by omega)]; exact na
    generalize (h2.set (h.length + 4) (.row 57 (i + 1) 0 false (T2.map (fun y => [V.ref y.1 y.2.1 0 y.2.2.2.length]) ++ [[V.ref b2 g2 0 ids2.length]])) ++ [B.row 57 0 0 false [[V.ref b2 g2 0 ids2.length]]]).set (h.length + 2) (.var [.ref (h.length + 3) (i + 1) 0 (i + 1), .ref (h.length + 4) (i + 1) 0 (i + 1)]) = hf at *
    repeat' (first
 |refine aK fun K hK=>?_|refine Step.by1 ?_|refine sE (by decide) ?_|refine cz rfl ?_|refine Fork.by2 (fun h=>?_) fun h=>?_
 |(refine aR ?_;simp [w1])
 |(refine Split.by2 (fun h=>?_) (fun h=>?_)<;>(simp [h, w1]))
 |(apply hK;clear hK K)|refine AWh ‹_› ?_)
    have hpa1 := luP_at (so := lowB) (gs := gs) hlt
    have hpa2 := luP_at (so := upB) (gs := gs) hlt
    rw [haa] at hpa1 hpa2
    rw [← hpa1, ← hpa2] at hp3
    exact ⟨⟨i + 1, hf, _, _, _, _⟩, ⟨by show i + 1 ≤ _; omega, hp3⟩, by show _ - (i + 1) < _ - i; omega, Weak.sym (x := []) (by simp) hp3.ho.hl (by have := hp3.p2.b_lt; simp [vl]; omega)⟩
  · obtain rfl : i = n.autos.length := by omega
    have k1 := hp.c1
    have k2 := hp.c2
    have e1 : (luP n lowB gs).take n.autos.length = luP n lowB gs := List.take_of_length_le (by simp [luP])
    have e2 : (luP n upB gs).take n.autos.length = luP n upB gs := List.take_of_length_le (by simp [luP])
    rw [e1, e2] at hp
    repeat' (first
 |refine aK fun K hK=>?_|refine Step.by1 ?_|refine sE (by decide) ?_|refine cz rfl ?_|refine Fork.by2 (fun h=>?_) fun h=>?_
 |(refine aR ?_;simp [vl, k1, k2])
 |(refine Split.by2 (fun h=>?_) (fun h=>?_)<;>(simp [h, vl, k1, k2]))
 |(apply hK;clear hK K)|refine AWh ‹_› ?_)
    have hb3 := hp.p1.b_lt
    have hb4 := hp.p2.b_lt
    have hlX : HL (hc.set (h.length + 1) (B.var [V.ref (h.length + 3) n.autos.length 0 n.autos.length, V.ref (h.length + 4) n.autos.length 0 n.autos.length])) := hp.ho.hl.set (by simp; omega)
    have eX := get_set_eq (y := B.var [V.ref (h.length + 3) n.autos.length 0 n.autos.length, V.ref (h.length + 4) n.autos.length 0 n.autos.length]) k1
    have hO := hp.ho.set (b := h.length + 1) (by omega) hlX
    exact retg2c (by simp [eX]; exact ⟨rfl, rfl⟩) (by simp) ⟨h.length + 3, n.autos.length, f1, T1, h.length + 4, n.autos.length, f2, T2, by simp [hp.t1, hp.t2], hO, hp.p1.setne k1, hp.p2.setne k1, hp.dj⟩ (by simp; omega) (Go.AM.Leaves.sym hO.len hO.hl)
end Go.Proofs.YtgmlimipejcpgaaDoor
end
section
set_option linter.unusedVariables false
set_option linter.unusedSimpArgs false
namespace Go.Proofs.YtgmlimipejcpgaaDoor
open Go Go.AM Fx
section
variable {a : AutoD} {N : Nat} {b : Nat → Nat → Int}
theorem lu_ex : ∀ (k : Nat) {m : List (List Int)}, nM a b m ≤ k → LS a N b m → ∃ m', IsLu a N b m'
  | k, m, hk, hs => by
    by_cases hc : ∀ e ∈ a.edges, ∀ c, c < N → nclos m e c
    · exact ⟨m, hs, hc⟩
    · simp only [Classical.not_forall] at hc
      obtain ⟨e, he, c, hc, hn⟩ := hc
      unfold nclos at hn
      simp only [Classical.not_forall] at hn
      obtain ⟨u, v, hu, hsb, hv, huv⟩ := hn
      obtain ⟨r, hr, hrv⟩ := nget_some hv
      obtain ⟨j, h1, h2⟩ := hs.snd _ _ _ hu
      have hlt := nM_set (a := a) (b := b) hr (rkR_set (a := a) (b := b) hrv (rk_lt h1.lt h2 (show v < u by omega)))
      have hst := hs.step he hr hu hsb hrv (by omega)
      match k with
      | 0 => omega
      | k + 1 => exact lu_ex k (by omega) hst
theorem luM_is {m : List (List Int)} (hs : LS a N b m) : IsLu a N b (luM a N b) := by
  have h := lu_ex (nM a b m) (Nat.le_refl _) hs
  unfold Go.Proofs.YtgmlimipejcpgaaDoor.luM
  rw [dif_pos h]
  exact h.choose_spec
theorem luM_ok {so : Int → Bool} {gs : List (List PartD)} : IsLu a N (luB a N so gs) (luM a N (luB a N so gs)) := by
  refine luM_is (m := (List.range a.locs.length).map (luBase a N so gs)) (L3.ls ⟨by simp, fun i hi => ?_⟩)
  simp [hi, luBase]
theorem luM_len {so : Int → Bool} {gs : List (List PartD)} : (luM a N (luB a N so gs)).length = a.locs.length := luM_ok.s.len
end
noncomputable def luAtL (n : NetD) (so : Int → Bool) (au lo : Int) (gs : List (List PartD)) : List Int :=
  if lookE n gs ≠ 0 then [] else if badLoc n au lo then [] else (luM (n.autos.getD au.toNat default) n.clocks.length (luB (n.autos.getD au.toNat default) n.clocks.length so gs)).getD lo.toNat []
theorem PCall.nil2 {f : Nat} {args : List V} {v : V} (hc : PCall Tryd.prog GV f args (.tup [.nils, .nils, v])) (hv : v.isOwn = false) : PCall Tryd.prog GV f args (.tup [.own 3 [], .own 3 [], v]) :=
  ⟨hc.1, fun G w cargs ha hg => (hc.2 G w cargs ha hg).mono fun e w' ⟨c, G', h1, h2, arr, h3, h4, h5, h6⟩ => ⟨c, G', h1, h2, arr, h3, h4, fun i u hi => by
    rcases i with _ | _ | i
    · simp at hi; subst hi
      have h7 : R G' w' true .nils (arr.getD 0 undef) := h5 0 .nils (by simp)
      generalize arr.getD 0 undef = x at *
      cases h7
      exact ⟨by simp, .inl ⟨rfl, rfl⟩⟩
    · simp at hi; subst hi
      have h7 : R G' w' true .nils (arr.getD 1 undef) := h5 1 .nils (by simp)
      show RO1 _ _ _ _ _ (arr.getD 1 undef)
      generalize arr.getD 1 undef = x at *
      cases h7
      exact ⟨by simp, .inl ⟨rfl, rfl⟩⟩
    · exact h5 (i + 2) u (by simpa using hi), fun i j u w k hi hj hu hw hk hk' => by
    have h0 : R G' w' true .nils (arr.getD 0 undef) := h5 0 .nils (by simp)
    have h1 : R G' w' true .nils (arr.getD 1 undef) := h5 1 .nils (by simp)
    rcases i with _ | _ | i
    · generalize arr.getD 0 undef = x at *
      cases h0; simp [blkOf] at hk
    · have hk : blkOf (arr.getD 1 undef) = some k := hk
      generalize arr.getD 1 undef = x at *
      cases h1; simp [blkOf] at hk
    · have : u = v := by
        rcases i with _ | i
        · simpa using hi.symm
        · simp at hi
      rw [this, hv] at hu; cases hu⟩⟩
end Go.Proofs.YtgmlimipejcpgaaDoor
end
