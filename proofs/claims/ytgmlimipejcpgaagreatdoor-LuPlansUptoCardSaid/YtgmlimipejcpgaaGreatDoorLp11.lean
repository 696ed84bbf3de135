/-
  YtgmlimipejcpgaaGreatDoorLp11: steps of the proof of a law of the program: what these texts prove holds under the hypotheses that their theorems name, and no others.
-/
import Derived.Test.YtgmlimipejcpgaaGreatDoorLp10
section
set_option linter.unusedSimpArgs false
set_option linter.unusedVariables false
namespace Go.Proofs.YtgmlimipejcpgaaGreatDoor
open Go Go.AM Fx
theorem getD_len {N : Nat} {l : List (List Int)} (h : ∀ (i : Nat) (r : List Int), l[i]? = some r → r.length = N) (i : Nat) : (l.getD i []).length ≤ N := by
  cases hr : l[i]? with
  | none => simp [List.getD, hr]
  | some r => simp [List.getD, hr, h i r hr]
theorem luAtL_len {n : NetD} {so : Int → Bool} {au lo : Int} {gs : List (List PartD)} : (luAtL n so au lo gs).length ≤ n.clocks.length := by
  unfold luAtL
  split
  · simp
  · split
    · simp
    · exact getD_len (fun i r hr => luM_ok.s.row i r hr) _
set_option maxRecDepth 40000 in
set_option maxHeartbeats 16000000 in
theorem c_LuPlansBad (n : NetD) (hn : n.ok) (p : PlaceD) (hp : p.ok) (gs : List (List PartD)) (hg : okGoals gs) (he : lookE n gs ≠ 0) : PC 7 [.agg n.cells, .agg p.cells, gsV gs] (.bool true) := by
  have h0 := c_HandNet n hn
  have ha := PCall.trim (args := [.agg n.hcells, .int .i64 p.au, .int .i64 p.lo, gsV gs]) (c_luAt n hn p.au p.lo gs hg.1 hg.2) (by rw [trims_netArg]; simp [V.trims, V.trim, trim_gsV])
  have hb := r_At26 n hn p.au p.lo gs hg.1 hg.2
  have hx := PCall.trim (args := [.agg n.hcells, gsV gs]) (c_luPlanBad n hn gs hg.1 hg.2 he) (by rw [trims_netArg]; simp [V.trims, trim_gsV])
  have hy := r_PlanBad26 n hn gs hg.1 hg.2 he
  have h3 := c_live26
  have h6 := c_KeptNet n hn
  have hA := luAtL_len (n := n) (so := lowB) (au := p.au) (lo := p.lo) (gs := gs)
  have hC := luAtL_len (n := n) (so := upB) (au := p.au) (lo := p.lo) (gs := gs)
  have hnl := hn.1.1
  generalize luAtL n lowB p.au p.lo gs = A at *
  generalize luAtL n upB p.au p.lo gs = C at *
  generalize clksE n p.au p.lo gs = E at *
  generalize lookE n gs = E2 at *
  have sa := c_SameInts A (by omega)
  have sc := c_SameInts C (by omega)
  have sp := c_SamePlanNil
  refine pB Tryz.func7 rfl (by decide) Tryz.ntmps7 (by simp) Tryz.results7 ?_
  simp only [NetD.cells, PlaceD.cells, vl, gsV, isV, ivs, NetD.hcells] at h0 ha hb hx hy h6 sa sc ⊢
  repeat' (first
 |refine AW_nilcell 7 2 47 rfl rfl (by simp) ?_
 |refine aK fun K hK=>?_|refine Step.by1 ?_|refine sE (by decide) ?_|refine cz rfl ?_|refine Fork.by2 (fun h=>?_) fun h=>?_
 |((first|refine aR ?_|refine aC (f:=11) rfl rfl (h0) rfl rfl rfl ?_|refine AS_callT (f:=36) rfl rfl (ha) rfl rfl ?_|refine aC (f:=37) rfl rfl (hb) rfl rfl rfl ?_|refine aC (f:=38) rfl rfl (hx) rfl rfl rfl ?_|refine aC (f:=39) rfl rfl (hy) rfl rfl rfl ?_|refine aC (f:=40) rfl rfl (h3) rfl rfl rfl ?_|refine aC (f:=41) rfl rfl (sp) rfl rfl rfl ?_|refine aC (f:=17) rfl rfl (h6) rfl rfl rfl ?_);simp [bookB, vl, handV])
 |(refine Split.by2 (fun h=>?_) (fun h=>?_)<;>(simp [h, bookB, vl, handV]))
 |(refine AS_seen1 (f:=26) rfl ?_ (sa) rfl rfl rfl ?_;(focus (first|rfl|(simp [seenV, bookB, vl, handV];done)));simp [bookB, vl, handV])
 |(refine AS_seen1 (f:=26) rfl ?_ (sc) rfl rfl rfl ?_;(focus (first|rfl|(simp [seenV, bookB, vl, handV];done)));simp [bookB, vl, handV])
 |(refine aG (f := 31) rfl rfl (g_Take (by simp [HL, vl, handV]) rfl rfl (by simp) rfl (by simp) (by simp)) rfl (fun v h' hq => ?_); obtain ⟨rfl, rfl⟩ := hq; simp [bookB])
 |(refine aG (f := 42) rfl rfl (g_TakePlanNil (by simp [HL, vl, handV]) (by simp)) rfl (fun v h' hq => ?_); obtain ⟨rfl, rfl⟩ := hq; simp [bookB])
 |(apply hK;clear hK K)|refine AWh ‹_› ?_)
  refine aG (f := 32) rfl rfl (g_Alone (bk := 7) (r := 8) (g := 2) (refs := [(3, 0, A.length), (4, 0, C.length)]) ?_ (by simp) (by simp; omega)) rfl (fun v h' hq => ?_)
  · refine ⟨by simp [HL, vl, handV], rfl, rfl, fun j x hx => ?_, inj_of_nodup (by simp)⟩
    rcases j with _ | _ | j <;> simp at hx <;> subst hx
    · exact ⟨A, rfl, rfl⟩
    · exact ⟨C, rfl, rfl⟩
  · obtain ⟨rfl, _, _, hk⟩ := hq
    have z0 := hk 0 (by simp) (by simp) (by simp) (by simp)
    have z2 := hk 2 (by simp) (by simp) (by simp) (by simp)
    simp at z0 z2
    simp [z0, z2, vl, handV]
    repeat' (first
 |refine aK fun K hK=>?_|refine Step.by1 ?_|refine sE (by decide) ?_|refine cz rfl ?_|refine Fork.by2 (fun h=>?_) fun h=>?_
 |((first|refine aR ?_|refine aC (f:=17) rfl rfl (h6) rfl rfl rfl ?_);simp [z0, z2, vl, handV])
 |(refine Split.by2 (fun h=>?_) (fun h=>?_)<;>(simp [h, z0, z2, vl, handV]))
 |(apply hK;clear hK K)|refine AWh ‹_› ?_)
    exact r1q (cE rfl rfl)
set_option maxRecDepth 40000 in
set_option maxHeartbeats 32000000 in
theorem c_LuPlansOk (n : NetD) (hn : n.ok) (p : PlaceD) (hp : p.ok) (gs : List (List PartD)) (hg : okGoals gs) (he : lookE n gs = 0) : PC 7 [.agg n.cells, .agg p.cells, gsV gs] (.bool true) := by
  have h0 := c_HandNet n hn
  have ha := PCall.trim (args := [.agg n.hcells, .int .i64 p.au, .int .i64 p.lo, gsV gs]) (c_luAt n hn p.au p.lo gs hg.1 hg.2) (by rw [trims_netArg]; simp [V.trims, V.trim, trim_gsV])
  have hb := r_At26 n hn p.au p.lo gs hg.1 hg.2
  have hx := fun {h : List B} (hl : HL h) => GCall.trim (args := [.agg n.hcells, gsV gs]) (c_luPlan n hn gs hg.1 hg.2 he hl) (by rw [trims_netArg]; simp [V.trims, trim_gsV])
  have hy := r_Plan26 n hn gs hg.1 hg.2 he
  have h3 := c_live26
  have hkn := c_KeptNet n hn
  have hA := luAtL_len (n := n) (so := lowB) (au := p.au) (lo := p.lo) (gs := gs)
  have hC := luAtL_len (n := n) (so := upB) (au := p.au) (lo := p.lo) (gs := gs)
  have ok1 := luP_ok hn (so := lowB) (gs := gs)
  have ok2 := luP_ok hn (so := upB) (gs := gs)
  have hnl := hn.1.1
  generalize luP n lowB gs = P1 at *
  generalize luP n upB gs = P2 at *
  generalize luAtL n lowB p.au p.lo gs = A at *
  generalize luAtL n upB p.au p.lo gs = C at *
  generalize clksE n p.au p.lo gs = E at *
  have sa : PC 26 [.vec (ivs A) A.length, .vec (ivs A) A.length] (.bool true) := c_SameInts A (by omega)
  have sc : PC 26 [.vec (ivs C) C.length, .vec (ivs C) C.length] (.bool true) := c_SameInts C (by omega)
  have hb : PC 37 [.agg n.cells, .int .i64 p.au, .int .i64 p.lo, gsV gs] (.tup [.vec (ivs A) A.length, .vec (ivs C) C.length, .int .i64 E]) := hb
  have la : (ivs A).length = A.length := by simp [ivs]
  have lc : (ivs C).length = C.length := by simp [ivs]
  have hH5 : HL [B.var n.cells, B.var p.cells, B.var n.hcells, B.row 3 0 0 true (ivs A), B.row 3 0 0 true (ivs C)] := by simp [HL, NetD.cells, PlaceD.cells, NetD.hcells, vl, handV]
  have hx5 := hx hH5
  have q1 : ∀ {h1 : List B}, Old [B.var n.cells, B.var p.cells, B.var n.hcells, B.row 3 0 0 true (ivs A), B.row 3 0 0 true (ivs C)] h1 → h1[0]? = some (B.var n.cells) ∧ h1[2]? = some (B.var n.hcells) ∧ h1[3]? = some (B.row 3 0 0 true (ivs A)) ∧ h1[4]? = some (B.row 3 0 0 true (ivs C)) ∧ 5 ≤ h1.length :=
    fun ho => ⟨ho.get rfl, ho.get rfl, ho.get rfl, ho.get rfl, by simpa using ho.len⟩
  simp only [NetD.cells, PlaceD.cells, vl, gsV, NetD.hcells] at h0 ha hb hx hx5 hy hkn q1 ⊢
  refine pB Tryz.func7 rfl (by decide) Tryz.ntmps7 (by simp) Tryz.results7 ?_
  repeat' (first
 |refine aK fun K hK=>?_|refine Step.by1 ?_|refine sE (by decide) ?_|refine cz rfl ?_|refine Fork.by2 (fun h=>?_) fun h=>?_
 |((first|refine aR ?_|refine aC (f:=11) rfl rfl (h0) rfl rfl rfl ?_|refine AS_callT (f:=36) rfl rfl (ha) rfl rfl ?_|refine aC (f:=37) rfl rfl (hb) rfl rfl rfl ?_);simp [vl, handV, la, lc])
 |(refine Split.by2 (fun h=>?_) (fun h=>?_)<;>(simp [h, vl, handV, la, lc]))
 |(apply hK;clear hK K)|refine AWh ‹_› ?_)
  refine aG (f := 38) rfl rfl hx5 rfl (fun v h1 hq => ?_)
  obtain ⟨b1, g1, f1, T1, b2, g2, f2, T2, rfl, ho1, p1, p2, nd1⟩ := hq
  obtain ⟨z0, z2, z3, z4, hl1⟩ := q1 ho1
  have g0 := fun x : List B => ga0 (h := h1) (x := x) rfl
  have g1' := fun (x : List B) (k : Nat) => ga1 (h := h1) (x := x) (k := k) rfl
  have s1' := fun (x : List B) (k : Nat) (y : B) => sa1 (h := h1) (x := x) (k := k) (y := y) rfl
  have y0 := fun x : List B => (get_app (h := h1) (x := x) (i := 0) (by omega)).trans z0
  have y2 := fun x : List B => (get_app (h := h1) (x := x) (i := 2) (by omega)).trans z2
  have y3 := fun x : List B => (get_app (h := h1) (x := x) (i := 3) (by omega)).trans z3
  have y4 := fun x : List B => (get_app (h := h1) (x := x) (i := 4) (by omega)).trans z4
  have x0 := fun (x : List B) (hx : 0 < (h1 ++ x).length) => getke (y0 x) hx
  have x2 := fun (x : List B) (hx : 2 < (h1 ++ x).length) => getke (y2 x) hx
  have x3 := fun (x : List B) (hx : 3 < (h1 ++ x).length) => getke (y3 x) hx
  have x4 := fun (x : List B) (hx : 4 < (h1 ++ x).length) => getke (y4 x) hx
  have hb1 := p1.b_lt
  have hb2 := p2.b_lt
  have hle : HL (h1 ++ [B.var [.ref b1 g1 0 T1.length, .ref b2 g2 0 T2.length], B.var [halfV P1, halfV P2]]) := ho1.hl.app (by simp [halfV]; omega)
  have hap : ∀ (x : List B) k, k < h1.length → (h1 ++ x)[k]? = h1[k]? := fun x k hk => List.getElem?_append_left hk
  have sp := g_SamePlan hle (p1.mono (hap _)) (p2.mono (hap _)) ok1.1 ok1.2 ok2.1 ok2.2
  simp only [halfV] at sp hy hle
  simp
  repeat' (first
 |refine AW_nilcell (h1.length + 2) 2 47 (cs := [.nils, .nils, .nils, .nils, .nils, .nils, .nils, .nils, .nils, .nils, .nils, .nils, .nils, .nils]) ((g1' _ 2).trans rfl) rfl (by simp) ?_
 |refine aK fun K hK=>?_|refine Step.by1 ?_|refine sE (by decide) ?_|refine cz rfl ?_|refine Fork.by2 (fun h=>?_) fun h=>?_
 |((first|refine aR ?_|refine aC (f:=39) rfl rfl (hy) rfl rfl rfl ?_|refine aC (f:=40) rfl rfl (h3) rfl rfl rfl ?_);simp [vl, handV, la, lc, g0, g1', s1', y0, y2, y3, y4, x0, x2, x3, x4])
 |(refine Split.by2 (fun h=>?_) (fun h=>?_)<;>(simp [h, vl, handV, la, lc, g0, g1', s1', y0, y2, y3, y4, x0, x2, x3, x4]))
 |(refine AS_seen1 (f:=26) rfl ?_ (sa) rfl rfl rfl ?_;(focus (first|rfl|(simp [seenV, vl, handV, la, lc, g0, g1', s1', y0, y2, y3, y4, x0, x2, x3, x4];done)));simp [vl, handV, la, lc, g0, g1', s1', y0, y2, y3, y4, x0, x2, x3, x4])
 |(refine AS_seen1 (f:=26) rfl ?_ (sc) rfl rfl rfl ?_;(focus (first|rfl|(simp [seenV, vl, handV, la, lc, g0, g1', s1', y0, y2, y3, y4, x0, x2, x3, x4];done)));simp [vl, handV, la, lc, g0, g1', s1', y0, y2, y3, y4, x0, x2, x3, x4])
 |(refine aG (f := 41) rfl rfl sp rfl (fun v h' hq => ?_); obtain ⟨rfl, rfl⟩ := hq; simp [g0, g1'])
 |(apply hK;clear hK K)|refine AWh ‹_› ?_)
  have hHb : HL (h1 ++ [B.var [.ref b1 g1 0 T1.length, .ref b2 g2 0 T2.length], B.var [.vec (rows3V P1) P1.length, .vec (rows3V P2) P2.length], bookB (h1.length + 3) 0 0, B.row 47 0 0 true []]) := ho1.hl.app (by simp [bookB]; omega)
  have k0 := BK.init (bk := h1.length + 2) (r := h1.length + 3) hHb ((g1' _ 2).trans rfl) ((g1' _ 3).trans rfl)
  have keep : ∀ {hh : List B} {g : Nat} {refs : List (Nat × Nat × Nat)}, BK (h1 ++ [B.var [.ref b1 g1 0 T1.length, .ref b2 g2 0 T2.length], B.var [.vec (rows3V P1) P1.length, .vec (rows3V P2) P2.length], bookB (h1.length + 3) 0 0, B.row 47 0 0 true []]) hh (h1.length + 2) (h1.length + 3) g refs →
      hh.length = h1.length + 4 ∧ (∀ k, k < h1.length → hh[k]? = h1[k]?) ∧ hh[h1.length]? = some (B.var [.ref b1 g1 0 T1.length, .ref b2 g2 0 T2.length]) :=
    fun k => ⟨by simpa using k.len, fun j hj => by rw [k.rest j (by omega) (by omega)]; exact hap _ j hj, by rw [k.rest _ (by omega) (by omega)]; exact (g0 _).trans rfl⟩
  refine aG (f := 31) rfl rfl (g_TakeB k0 (x := (3, 0, A.length)) (by simp) (by simp)) rfl (fun v h2 hq => ?_)
  obtain ⟨rfl, k1⟩ := hq
  obtain ⟨n1, o1, v1⟩ := keep k1
  simp
  repeat' (first
 |refine aK fun K hK=>?_|refine Step.by1 ?_|refine sE (by decide) ?_|refine cz rfl ?_|refine Fork.by2 (fun h=>?_) fun h=>?_
 |(refine aR ?_;simp)
 |(refine Split.by2 (fun h=>?_) (fun h=>?_)<;>(simp [h]))
 |(apply hK;clear hK K)|refine AWh ‹_› ?_)
  refine aG (f := 31) rfl rfl (g_TakeB k1 (x := (4, 0, C.length)) (by simp [n1]; omega) (by simp)) rfl (fun v h3 hq => ?_)
  obtain ⟨rfl, k2⟩ := hq
  obtain ⟨n2, o2, v2⟩ := keep k2
  have hr1 : ∀ {o b g fl} {T : Rows3} {P : List (List (List Int))}, N3 o h1 b g fl T P → ∀ y ∈ T, y.1 ≠ h1.length + 3 := fun q y hy => by have := q.hi_row.1 y hy; omega
  have i1 := p1.ids3_len ok1.1 fun Q hQ => (ok1.2 Q hQ).1
  have i2 := p2.ids3_len ok2.1 fun Q hQ => (ok2.2 Q hQ).1
  have t1 : T1.length ≤ 1048576 := by rw [← p1.len]; exact ok1.1
  have t2 : T2.length ≤ 1048576 := by rw [← p2.len]; exact ok2.1
  simp
  repeat' (first
 |refine aK fun K hK=>?_|refine Step.by1 ?_|refine sE (by decide) ?_|refine cz rfl ?_|refine Fork.by2 (fun h=>?_) fun h=>?_
 |(refine aR ?_;simp [v2])
 |(refine Split.by2 (fun h=>?_) (fun h=>?_)<;>(simp [h, v2]))
 |(apply hK;clear hK K)|refine AWh ‹_› ?_)
  refine aG (f := 42) rfl rfl (g_TakePlan k2 (p1.mono o2) (p2.mono o2) (hr1 p1) (hr1 p2) (by simp [n2]; omega) (by simp; omega) t1 t2) rfl (fun v h4 hq => ?_)
  obtain ⟨rfl, k3⟩ := hq
  obtain ⟨n3, o3, v3⟩ := keep k3
  have z2' := (o3 2 (by omega)).trans z2
  simp
  repeat' (first
 |refine aK fun K hK=>?_|refine Step.by1 ?_|refine sE (by decide) ?_|refine cz rfl ?_|refine Fork.by2 (fun h=>?_) fun h=>?_
 |(refine aR ?_;simp [z2', vl, handV])
 |(refine Split.by2 (fun h=>?_) (fun h=>?_)<;>(simp [h, z2', vl, handV]))
 |(apply hK;clear hK K)|refine AWh ‹_› ?_)
  refine aG (f := 38) rfl rfl (hx k3.hl) rfl (fun v h5 hq => ?_)
  obtain ⟨b3, g3, f3, T3, b4, g4, f4, T4, rfl, ho5, p3, p4, nd2⟩ := hq
  have ho5 : Old h4 h5 := ho5
  have p3 : N3 h4.length h5 b3 g3 f3 T3 P1 := p3
  have p4 : N3 h4.length h5 b4 g4 f4 T4 P2 := p4
  have j0 := fun x : List B => ga0 (h := h5) (x := x) rfl
  have l5 := ho5.len
  have hb3 := p3.b_lt
  have hb4 := p4.b_lt
  have hl5 : HL (h5 ++ [B.var [.ref b3 g3 0 T3.length, .ref b4 g4 0 T4.length]]) := ho5.hl.app (by simp; omega)
  have hO5 := ho5.app hl5
  have k4 := k3.old hO5
  have hap5 : ∀ k, k < h5.length → (h5 ++ [B.var [.ref b3 g3 0 T3.length, .ref b4 g4 0 T4.length]])[k]? = h5[k]? := fun k hk => List.getElem?_append_left hk
  have i3 := p3.ids3_len ok1.1 fun Q hQ => (ok1.2 Q hQ).1
  have i4 := p4.ids3_len ok2.1 fun Q hQ => (ok2.2 Q hQ).1
  have t3 : T3.length ≤ 1048576 := by rw [← p3.len]; exact ok1.1
  have t4 : T4.length ≤ 1048576 := by rw [← p4.len]; exact ok2.1
  have hr3 : ∀ {b g fl} {T : Rows3} {P : List (List (List Int))}, N3 h4.length h5 b g fl T P → ∀ y ∈ T, y.1 ≠ h1.length + 3 := fun q y hy => by have := q.low_row.1 y hy; omega
  have hrl : ∀ x ∈ ([] ++ [(3, 0, A.length)] ++ [(4, 0, C.length)] ++ (ids3 T1 ++ ids3 T2) : List (Nat × Nat × Nat)), x.1 < h1.length := fun x hx => by
    rcases List.mem_append.1 hx with hx | hx
    · simp at hx; rcases hx with rfl | rfl <;> simp <;> omega
    · rcases List.mem_append.1 hx with hx | hx
      · exact p1.hi_row.2 x hx
      · exact p2.hi_row.2 x hx
  simp
  repeat' (first
 |refine aK fun K hK=>?_|refine Step.by1 ?_|refine sE (by decide) ?_|refine cz rfl ?_|refine Fork.by2 (fun h=>?_) fun h=>?_
 |(refine aR ?_;simp [j0])
 |(refine Split.by2 (fun h=>?_) (fun h=>?_)<;>(simp [h, j0]))
 |(apply hK;clear hK K)|refine AWh ‹_› ?_)
  refine aG (f := 42) rfl rfl (g_TakePlan k4 (p3.mono hap5) (p4.mono hap5) (hr3 p3) (hr3 p4) (fun x hx => by have := hrl x hx; simp; omega) (by simp; omega) t3 t4) rfl (fun v h6 hq => ?_)
  obtain ⟨rfl, k5⟩ := hq
  have n6 : h6.length = h5.length + 1 := by simpa using k5.len
  have lo : ∀ j, j < h1.length → h6[j]? = h1[j]? := fun j hj => by rw [k5.rest j (by omega) (by omega), hap5 j (by omega), ho5.old j (by omega)]; exact o3 j hj
  have hi : ∀ j, h4.length ≤ j → j < h5.length → h6[j]? = h5[j]? := fun j h1' h2' => by rw [k5.rest j (by omega) (by omega)]; exact hap5 j h2'
  have hrows : ∀ x ∈ ([] ++ [(3, 0, A.length)] ++ [(4, 0, C.length)] ++ (ids3 T1 ++ ids3 T2) ++ (ids3 T3 ++ ids3 T4) : List (Nat × Nat × Nat)), (∃ ns, h6[x.1]? = some (.row 3 x.2.1 0 true (ivs ns)) ∧ ns.length = x.2.2) ∧ x.2.2 ≤ 1099511627776 ∧ 3 ≤ x.1 := fun x hx => by
    have old : ∀ {b g fl} {T : Rows3} {P : List (List (List Int))}, N3 5 h1 b g fl T P → planOk P → x ∈ ids3 T → (∃ ns, h6[x.1]? = some (.row 3 x.2.1 0 true (ivs ns)) ∧ ns.length = x.2.2) ∧ x.2.2 ≤ 1099511627776 ∧ 3 ≤ x.1 := fun q hP hx => by
      obtain ⟨ns, Q, hQ, hn, hr, hl⟩ := q.mem_row hx
      have := (hP.2 Q hQ).2 ns hn
      have := q.low_row.2 x hx
      exact ⟨⟨ns, by rw [lo _ (q.hi_row.2 x hx)]; exact hr, hl⟩, by omega, by omega⟩
    have new : ∀ {b g fl} {T : Rows3} {P : List (List (List Int))}, N3 h4.length h5 b g fl T P → planOk P → x ∈ ids3 T → (∃ ns, h6[x.1]? = some (.row 3 x.2.1 0 true (ivs ns)) ∧ ns.length = x.2.2) ∧ x.2.2 ≤ 1099511627776 ∧ 3 ≤ x.1 := fun q hP hx => by
      obtain ⟨ns, Q, hQ, hn, hr, hl⟩ := q.mem_row hx
      have := (hP.2 Q hQ).2 ns hn
      have hlo := q.low_row.2 x hx
      exact ⟨⟨ns, by rw [hi _ hlo (q.hi_row.2 x hx)]; exact hr, hl⟩, by omega, by omega⟩
    rcases List.mem_append.1 hx with hx | hx
    · rcases List.mem_append.1 hx with hx | hx
      · simp at hx
        rcases hx with rfl | rfl
        · exact ⟨⟨A, (lo 3 (by omega)).trans z3, rfl⟩, by simp; omega, by simp⟩
        · exact ⟨⟨C, (lo 4 (by omega)).trans z4, rfl⟩, by simp; omega, by simp⟩
      · rcases List.mem_append.1 hx with hx | hx
        · exact old p1 ok1 hx
        · exact old p2 ok2 hx
    · rcases List.mem_append.1 hx with hx | hx
      · exact new p3 ok1 hx
      · exact new p4 ok2 hx
  have hnd : (([] ++ [(3, 0, A.length)] ++ [(4, 0, C.length)] ++ (ids3 T1 ++ ids3 T2) ++ (ids3 T3 ++ ids3 T4) : List (Nat × Nat × Nat)).map (·.1)).Nodup := by
    have m1 : ((ids3 T1 ++ ids3 T2).map (·.1)).Nodup := by rw [List.map_append]; exact nd1
    have m2 : ((ids3 T3 ++ ids3 T4).map (·.1)).Nodup := by rw [List.map_append]; exact nd2
    have a1 : ∀ x ∈ ids3 T1 ++ ids3 T2, 5 ≤ x.1 ∧ x.1 < h1.length := fun x hx => by
      rcases List.mem_append.1 hx with hx | hx
      · exact ⟨p1.low_row.2 x hx, p1.hi_row.2 x hx⟩
      · exact ⟨p2.low_row.2 x hx, p2.hi_row.2 x hx⟩
    have a2 : ∀ x ∈ ids3 T3 ++ ids3 T4, h4.length ≤ x.1 := fun x hx => by
      rcases List.mem_append.1 hx with hx | hx
      · exact p3.low_row.2 x hx
      · exact p4.low_row.2 x hx
    rw [List.map_append, List.map_append]
    refine List.nodup_append.2 ⟨List.nodup_append.2 ⟨by simp, m1, fun u hu w hw e => ?_⟩, m2, fun u hu w hw e => ?_⟩
    · obtain ⟨y, hy, rfl⟩ := List.mem_map.1 hw
      have := a1 y hy
      simp at hu; omega
    · obtain ⟨y, hy, rfl⟩ := List.mem_map.1 hw
      have h7 := a2 y hy
      rcases List.mem_append.1 hu with hu | hu
      · simp at hu; omega
      · obtain ⟨z, hz, rfl⟩ := List.mem_map.1 hu
        have := a1 z hz; omega
  have hpre := k5.pre (by simp) (fun x hx => (hrows x hx).1) hnd
  simp
  repeat' (first
 |refine aK fun K hK=>?_|refine Step.by1 ?_|refine sE (by decide) ?_|refine cz rfl ?_|refine Fork.by2 (fun h=>?_) fun h=>?_
 |(refine aR ?_;simp)
 |(refine Split.by2 (fun h=>?_) (fun h=>?_)<;>(simp [h]))
 |(apply hK;clear hK K)|refine AWh ‹_› ?_)
  refine aG (f := 32) rfl rfl (g_Alone hpre (by simp; omega) (fun x hx => (hrows x hx).2.1)) rfl (fun v h7 hq => ?_)
  obtain ⟨rfl, _, _, hk⟩ := hq
  have hk : ∀ b, b < h6.length → b ≠ h1.length + 3 → b ≠ h1.length + 2 → (∀ x ∈ ([] ++ [(3, 0, A.length)] ++ [(4, 0, C.length)] ++ (ids3 T1 ++ ids3 T2) ++ (ids3 T3 ++ ids3 T4) : List (Nat × Nat × Nat)), x.1 ≠ b) → h7[b]? = h6[b]? := hk
  have w0 := ((hk 0 (by omega) (by omega) (by omega) (fun x hx => by have := (hrows x hx).2.2; omega)).trans (lo 0 (by omega))).trans z0
  have w2 := ((hk 2 (by omega) (by omega) (by omega) (fun x hx => by have := (hrows x hx).2.2; omega)).trans (lo 2 (by omega))).trans z2
  simp [w0, w2, vl, handV]
  repeat' (first
 |refine aK fun K hK=>?_|refine Step.by1 ?_|refine sE (by decide) ?_|refine cz rfl ?_|refine Fork.by2 (fun h=>?_) fun h=>?_
 |((first|refine aR ?_|refine aC (f:=17) rfl rfl (hkn) rfl rfl rfl ?_);simp [w0, w2, vl, handV])
 |(refine Split.by2 (fun h=>?_) (fun h=>?_)<;>(simp [h, w0, w2, vl, handV]))
 |(apply hK;clear hK K)|refine AWh ‹_› ?_)
  exact r1q (cE rfl rfl)
theorem zco76 : Tryz.prog.cellsOf 76 = 2 := by kernel_rfl
theorem rnPlaceD26 : RdN KB Tryz.prog 76 PlaceD.cells PlaceD.ok :=
  (RdN_struct Tryz.underlying76 zco76 (rC rfl zco3 (RdN_int Tryz.underlying3) (fun _ => rfl) (rC rfl zco3 (RdN_int Tryz.underlying3) (fun _ => rfl) (RdNs_nil rfl)))).map
    (fun p => ⟨p.1, p.2.1⟩) (fun _ => rfl) (fun p h => ⟨wf64 h.1, wf64 h.2.1⟩)
theorem c_LuPlans (n : NetD) (hn : n.ok) (p : PlaceD) (hp : p.ok) (gs : List (List PartD)) (hg : okGoals gs) : PC 7 [.agg n.cells, .agg p.cells, gsV gs] (.bool true) := by
  by_cases he : lookE n gs = 0
  · exact c_LuPlansOk n hn p hp gs hg he
  · exact c_LuPlansBad n hn p hp gs hg he
end Go.Proofs.YtgmlimipejcpgaaGreatDoor
end
