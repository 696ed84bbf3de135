/-
  YtgmlimipejcpgaaGreatDoorAp10: steps of the proof of a law of the program: what these texts prove holds under the hypotheses that their theorems name, and no others.
-/
import Derived.Test.YtgmlimipejcpgaaGreatDoorAp09
import Derived.Test.YtgmlimipejcpgaaGreatDoorCo35
section
set_option linter.unusedSimpArgs false
set_option linter.unusedVariables false
namespace Go.Proofs.YtgmlimipejcpgaaGreatDoor
open Go Go.AM Fx
set_option maxRecDepth 20000 in
set_option maxHeartbeats 4000000 in
theorem r_Plan24 (n : NetD) (hn : n.ok) (gs : List (List PartD)) (hgl : gs.length ≤ 1048576) (hgs : ∀ g ∈ gs, okGoal g) (he : lookE n gs = 0) :
    PC 44 [.agg n.cells, gsV gs] (.tup [.agg [halfV (planP n gs (bigM n (fun _ => true) gs)), halfV (planP n gs (bigM n (fun _ => true) gs))], .int .i64 0]) := by
  have hb := r_Bad n hn gs hgl hgs
  have hc := r_rows24 n hn gs hgl hgs he
  rw [he] at hb
  unfold halfV at hc ⊢
  generalize rows3V (planP n gs (bigM n (fun _ => true) gs)) = X at *
  generalize (planP n gs (bigM n (fun _ => true) gs)).length = k at *
  simp only [NetD.cells, vl, gsV] at hb hc
  refine pB Tryz.func44 rfl (by decide) Tryz.ntmps44 (by simp) Tryz.results44 ?_
  repeat' (first
 |refine aK fun K hK=>?_|refine Step.by1 ?_|refine sE (by decide) ?_|refine cz rfl ?_|refine Fork.by2 (fun h=>?_) fun h=>?_
 |((first|refine aR ?_|refine aC (f:=100) rfl rfl (hb) rfl rfl rfl ?_|refine aX (id:=4) 7 mixed (by decide) ?_|refine aP1 (f:=112) rfl rfl (hc) rfl rfl rfl ?_);simp [NetD.cells, vl, gsV])
 |(refine Split.by2 (fun h=>?_) (fun h=>?_)<;>(simp [h, NetD.cells, vl, gsV]))
 |(apply hK;clear hK K)|refine AWh ‹_› ?_)
  exact retq2ct rfl (by simp) (cE (by simp) (by simp))
theorem r_PlanBad24 (n : NetD) (hn : n.ok) (gs : List (List PartD)) (hgl : gs.length ≤ 1048576) (hgs : ∀ g ∈ gs, okGoal g) (he : lookE n gs ≠ 0) :
    PC 44 [.agg n.cells, gsV gs] (.tup [.agg [.nils, .nils], .int .i64 (lookE n gs)]) := by
  have hb := r_Bad n hn gs hgl hgs
  generalize lookE n gs = e at *
  simp only [NetD.cells, vl, gsV] at hb
  refine pB Tryz.func44 rfl (by decide) Tryz.ntmps44 (by simp) Tryz.results44 ?_
  repeat' (first
 |refine aK fun K hK=>?_|refine Step.by1 ?_|refine sE (by decide) ?_|refine cz rfl ?_|refine Fork.by2 (fun h=>?_) fun h=>?_
 |((first|refine aR ?_|refine aC (f:=100) rfl rfl (hb) rfl rfl rfl ?_);simp [NetD.cells, vl, gsV, he])
 |(refine Split.by2 (fun h=>?_) (fun h=>?_)<;>(simp [h, NetD.cells, vl, gsV, he]))
 |(apply hK;clear hK K)|refine AWh ‹_› ?_)
  exact retq2ct rfl (by simp) (cE (by simp) (by simp))
theorem planP_shape {n : NetD} (hn : n.ok) {gs : List (List PartD)} : planOk (planP n gs (bigM n (fun _ => true) gs)) := by
  refine ⟨by simp [planP]; exact hn.2.2.2.1, fun Q hQ => ?_⟩
  obtain ⟨a, ha, rfl⟩ := List.mem_map.1 hQ
  have hl := (hn.2.2.2.2 a ha).2.1.1
  refine ⟨by simp [planA]; omega, fun r hr => ?_⟩
  obtain ⟨k, _, rfl⟩ := List.mem_map.1 hr
  have := hn.1.1
  simp [planRow, bigM_len]; omega
theorem idleL_len {n : NetD} {s : StateD} {gs : List (List PartD)} : (idleL n s gs).length ≤ n.clocks.length := by
  unfold idleL
  split
  · simp
  · split
    · simp
    · exact idleLk_len
theorem zco90 : Tryz.prog.cellsOf 90 = 2 := by kernel_rfl
theorem zco47 : Tryz.prog.cellsOf 47 = 1 := by kernel_rfl
theorem rnInts : RdN KB Tryz.prog 47 (fun l : List Int => [V.vec (ivs l) l.length]) (fun l => l.length ≤ 1048576) :=
  (RdN_slice Tryz.underlying47 (by rw [zco3]; decide) (RdN_int Tryz.underlying3) (fun _ => by rw [zco3]; rfl)).map id (fun _ => rfl) (fun l h => h.1)
theorem rnStateD : RdN KB Tryz.prog 90 StateD.cells StateD.ok :=
  (RdN_struct Tryz.underlying90 zco90 (rC rfl zco47 rnInts (fun _ => rfl) (rC rfl zco47 rnInts (fun _ => rfl) (RdNs_nil rfl)))).map
    (fun p => ⟨p.1, p.2.1⟩) (fun _ => rfl) (fun p h => ⟨h.1, h.2.1⟩)
theorem num_small : numbE smallN (fun _ => true) [] = some [5] := by kernel_rfl
set_option maxRecDepth 20000 in
set_option maxHeartbeats 4000000 in
theorem c_small24 : PC 102 [] (.agg smallN.cells) := by
  have h : PC 102 [] (.agg [.vec [[.str ⟨#[120]⟩]] 1, .nils, .nils, .vec [[.str ⟨#[65]⟩, .vec [[.str ⟨#[97]⟩, .int .u8 0, .vec [[.int .i64 1, .int .i64 0, .int .u8 2, .int .i64 5]] 1], [.str ⟨#[98]⟩, .int .u8 0, .nils]] 2, .vec [[.int .i64 0, .int .i64 1, .vec [[.int .i64 1, .int .i64 0, .int .u8 4, .int .i64 3]] 1, .nils, .int .i64 0, .bool false, .vec [[.int .i64 1, .int .i64 0, .int .i64 0, .nils]] 1]] 1]] 1]) := by
    refine pB Tryz.func102 rfl (by decide) Tryz.ntmps102 (by simp) Tryz.results102 ?_
    repeat' (first
 |(refine AW_region_AOL (id := 1) ?_;simp)
 |refine aK fun K hK=>?_|refine Step.by1 ?_|refine sE (by decide) ?_|refine cz rfl ?_|refine Fork.by2 (fun h=>?_) fun h=>?_
 |(refine aR ?_;simp)
 |(refine Split.by2 (fun h=>?_) (fun h=>?_)<;>(simp [h]))
 |(apply hK;clear hK K)|refine AWh ‹_› ?_)
    exact retqc rfl (by simp) (cE (by simp) (by simp))
  exact h.dnr rfl rfl (fun _ _ h => by cases h) (fun _ h => by cases h)
theorem plan_small : planP smallN [] [5] = [[[5], [-1]]] := by
  have h0 := act_small0
  have h1 := act_small1
  have e : planP smallN [] [5] = [planA [] [5] smallA] := rfl
  rw [e]
  have e2 : planA [] [5] smallA = [planRow smallA [] [5] 0, planRow smallA [] [5] 1] := rfl
  rw [e2]
  have e3 : ∀ i, planRow smallA [] [5] i = [if actB smallA [] 1 i = true then 5 else -1] := fun i => rfl
  rw [e3, e3, h0, h1]; rfl
set_option maxRecDepth 20000 in
set_option maxHeartbeats 4000000 in
theorem c_live24 : PC 35 [] (.bool true) := by
  have h0 := c_small24
  have h1 := c_Clocks24 smallN small_ok 0 0 [] (by simp) (by simp)
  have h2 := c_Clocks24 smallN small_ok 0 1 [] (by simp) (by simp)
  have h3 := c_PlanF smallN small_ok [] (by simp) (by simp) look_small [5] num_small
  rw [clks_small0.1, clks_small0.2] at h1
  rw [clks_small1.1, clks_small1.2] at h2
  rw [plan_small] at h3
  have h1' := PCall.denil (args := [.agg smallN.cells, .int .i64 0, .int .i64 0, .nils]) h1 rfl
  have h2' := PCall.denil (args := [.agg smallN.cells, .int .i64 0, .int .i64 1, .nils]) h2 rfl
  have h3' := PCall.denil (args := [.agg smallN.cells, .nils]) h3 rfl
  clear h1 h2 h3
  have hcs : smallN.cells = [.vec [[.str ⟨#[120]⟩]] 1, .vec [] 0, .vec [] 0, .vec [[.str ⟨#[65]⟩, .vec [[.str ⟨#[97]⟩, .int .u8 0, .vec [[.int .i64 1, .int .i64 0, .int .u8 2, .int .i64 5]] 1], [.str ⟨#[98]⟩, .int .u8 0, .vec [] 0]] 2, .vec [[.int .i64 0, .int .i64 1, .vec [[.int .i64 1, .int .i64 0, .int .u8 4, .int .i64 3]] 1, .vec [] 0, .int .i64 0, .bool false, .vec [[.int .i64 1, .int .i64 0, .int .i64 0, .vec [] 0]] 1]] 1]] 1] := rfl
  simp only [halfV, rows3V, rows2V, ivs, List.map_cons, List.map_nil, List.length_cons, List.length_nil, Nat.zero_add] at h1' h2' h3'
  rw [hcs] at h0 h1' h2' h3'
  refine pB Tryz.func35 rfl (by decide) Tryz.ntmps35 (by simp) Tryz.results35 ?_
  repeat' (first
 |refine aK fun K hK=>?_|refine Step.by1 ?_|refine sE (by decide) ?_|refine cz rfl ?_|refine Fork.by2 (fun h=>?_) fun h=>?_
 |((first|refine aR ?_|refine aC (f:=102) rfl rfl (h0) rfl rfl rfl ?_|refine AS_callT (f:=33) rfl rfl (h1') rfl rfl ?_|refine AS_callT (f:=33) rfl rfl (h2') rfl rfl ?_|refine aC (f:=43) rfl rfl (h3') rfl rfl rfl ?_);simp)
 |(refine Split.by2 (fun h=>?_) (fun h=>?_)<;>(simp [h]))
 |(apply hK;clear hK K)|refine AWh ‹_› ?_)
  exact r1q (cE rfl rfl)
theorem trim_ivs (l : List Int) : (V.vec (ivs l) l.length).trim = V.vec (ivs l) l.length := by
  have e : V.vec (ivs l) l.length = vl (fun k : Int => [V.int .i64 k]) l := rfl
  rw [e]
  exact trim_vl' fun y _ => by simp [V.trims, V.trim]
theorem trim_state (s : StateD) : (V.agg s.cells).trim = .agg s.cells := by
  rw [show (V.agg s.cells).trim = V.agg [(V.vec (ivs s.locs) s.locs.length).trim, (V.vec (ivs s.vars) s.vars.length).trim] from rfl, trim_ivs, trim_ivs]; rfl
theorem c_PlanN (n : NetD) (hn : n.ok) (gs : List (List PartD)) (hgl : gs.length ≤ 1048576) (hgs : ∀ g ∈ gs, okGoal g) (he : lookE n gs = 0) {h : List B} (hl : HL h) :
    GCall Tryz.prog GV 43 [.agg n.cells, gsV gs] h (fun v h' => ∃ b1 g1 f1 T1 b2 g2 f2 T2, v = .tup [.agg [.ref b1 g1 0 T1.length, .ref b2 g2 0 T2.length], .int .i64 0] ∧ Old h h' ∧ N3 h.length h' b1 g1 f1 T1 (planP n gs (bigM n (fun _ => true) gs)) ∧ N3 h.length h' b2 g2 f2 T2 (planP n gs (bigM n (fun _ => true) gs)) ∧ (idsR T1 ++ idsR T2).Nodup) :=
  (c_Plan n hn gs hgl hgs he _ (numb_eq he) hl).mono fun v h' ⟨b1, g1, f1, T1, b2, g2, f2, T2, o, hv, hO, p1, p2, ho, hlt⟩ =>
    ⟨b1, g1, f1, T1, b2, g2, f2, T2, hv, hO, p1, p2.low' ho, List.nodup_append.2 ⟨p1.nodup, p2.nodup, fun u hu w hw e => by
      obtain ⟨x, hx, rfl⟩ := List.mem_map.1 hu
      obtain ⟨y, hy, hxy⟩ := List.mem_flatMap.1 hx
      obtain ⟨z, hz, rfl⟩ := List.mem_map.1 hw
      have h1 := hlt y hy x hxy
      have h2 := p2.low_row.2 z hz
      omega⟩⟩
set_option maxRecDepth 40000 in
set_option maxHeartbeats 16000000 in
theorem c_ActivePlansBad (n : NetD) (hn : n.ok) (s : StateD) (hs : s.ok) (gs : List (List PartD)) (hg : okGoals gs) (he : lookE n gs ≠ 0) : PC 8 [.agg n.cells, .agg s.cells, gsV gs] (.bool true) := by
  have h0 := c_HandNet n hn
  have hx := PCall.trim (args := [.agg n.hcells, gsV gs]) (c_PlanBad n hn gs hg.1 hg.2 he) (by rw [trims_netArg]; simp [V.trims, trim_gsV])
  have hy := r_PlanBad24 n hn gs hg.1 hg.2 he
  have ha := PCall.trim (args := [.agg n.hcells, .agg s.cells, gsV gs]) (c_Idle24 n hn s hs gs hg.1 hg.2) (by rw [trims_netArg]; simp [V.trims, trim_gsV, trim_state])
  have hb := r_Idle24 n hn s hs gs hg.1 hg.2
  have h3 := c_live24
  have h6 := c_KeptNet n hn
  have hC := idleL_len (n := n) (s := s) (gs := gs)
  have hnl := hn.1.1
  generalize idleL n s gs = C at *
  generalize idleE n s gs = E at *
  generalize lookE n gs = E2 at *
  have sc := c_SameInts C (by omega)
  have sp := c_SamePlanNil
  refine pB Tryz.func8 rfl (by decide) Tryz.ntmps8 (by simp) Tryz.results8 ?_
  have ic : (ivs s.locs).length = s.locs.length := ivs_len
  simp only [NetD.cells, StateD.cells, vl, gsV, isV, NetD.hcells] at h0 ha hb hx hy h6 sc ⊢
  generalize ivs s.locs = SL at *
  generalize ivs s.vars = SV at *
  simp only [ivs] at ha hb sc
  repeat' (first
 |refine AW_nilcell 7 2 47 rfl rfl (by simp) ?_
 |refine aK fun K hK=>?_|refine Step.by1 ?_|refine sE (by decide) ?_|refine cz rfl ?_|refine Fork.by2 (fun h=>?_) fun h=>?_
 |((first|refine aR ?_|refine aC (f:=11) rfl rfl (h0) rfl rfl rfl ?_|refine aC (f:=43) rfl rfl (hx) rfl rfl rfl ?_|refine aC (f:=44) rfl rfl (hy) rfl rfl rfl ?_|refine AS_callT (f:=45) rfl rfl (ha) rfl rfl ?_|refine AS_callT (f:=46) rfl rfl (hb) rfl rfl ?_|refine aC (f:=35) rfl rfl (h3) rfl rfl rfl ?_|refine aC (f:=41) rfl rfl (sp) rfl rfl rfl ?_|refine aC (f:=17) rfl rfl (h6) rfl rfl rfl ?_);simp [bookB, vl, handV])
 |(refine Split.by2 (fun h=>?_) (fun h=>?_)<;>(simp [h, bookB, vl, handV]))
 |(refine AS_seen1 (f:=26) rfl ?_ (sc) rfl rfl rfl ?_;(focus (first|rfl|(simp [seenV, bookB, vl, handV];done)));simp [bookB, vl, handV])
 |(refine aG (f := 31) rfl rfl (g_Take (by simp [HL, vl, handV]) rfl rfl (by simp) rfl (by simp) (by simp)) rfl (fun v h' hq => ?_); obtain ⟨rfl, rfl⟩ := hq; simp [bookB])
 |(refine aG (f := 42) rfl rfl (g_TakePlanNil (by simp [HL, vl, handV]) (by simp)) rfl (fun v h' hq => ?_); obtain ⟨rfl, rfl⟩ := hq; simp [bookB])
 |(apply hK;clear hK K)|refine AWh ‹_› ?_)
  refine aG (f := 32) rfl rfl (g_Alone (bk := 7) (r := 8) (g := 1) (refs := [(5, 0, C.length)]) ?_ (by simp) (by simp; omega)) rfl (fun v h' hq => ?_)
  · refine ⟨by simp [HL, vl, handV], rfl, rfl, fun j x hx => ?_, inj_of_nodup (by simp)⟩
    rcases j with _ | j <;> simp at hx <;> subst hx
    exact ⟨C, rfl, rfl⟩
  · obtain ⟨rfl, _, _, hk⟩ := hq
    have z0 := hk 0 (by simp) (by simp) (by simp) (by simp)
    have z2 := hk 2 (by simp) (by simp) (by simp) (by simp)
    simp at z0 z2
    simp [z0, z2, vl, handV]
    repeat' (first
 |refine aK fun K hK=>?_|refine Step.by1 ?_|refine sE (by decide) ?_|refine cz rfl ?_|refine Fork.by2 (fun h=>?_) fun h=>?_
 |((first|refine aR ?_|refine aC (f:=17) rfl rfl (h6) rfl rfl rfl ?_);simp [z0, z2, vl, handV])
 |(refine Split.by2 (fun h=>?_) (fun h=>?_)<;>(simp [h, z0, z2, vl, handV]))
 |(apply hK;clear hK K)|refine AWh ‹_› ?_)
    exact r1q (cE rfl rfl)
set_option maxRecDepth 40000 in
set_option maxHeartbeats 32000000 in
theorem c_ActivePlansOk (n : NetD) (hn : n.ok) (s : StateD) (hs : s.ok) (gs : List (List PartD)) (hg : okGoals gs) (he : lookE n gs = 0) : PC 8 [.agg n.cells, .agg s.cells, gsV gs] (.bool true) := by
  have h0 := c_HandNet n hn
  have hx := fun {h : List B} (hl : HL h) => GCall.trim (args := [.agg n.hcells, gsV gs]) (c_PlanN n hn gs hg.1 hg.2 he hl) (by rw [trims_netArg]; simp [V.trims, trim_gsV])
  have hy := r_Plan24 n hn gs hg.1 hg.2 he
  have ha := PCall.trim (args := [.agg n.hcells, .agg s.cells, gsV gs]) (c_Idle24 n hn s hs gs hg.1 hg.2) (by rw [trims_netArg]; simp [V.trims, trim_gsV, trim_state])
  have hb := r_Idle24 n hn s hs gs hg.1 hg.2
  have h3 := c_live24
  have hkn := c_KeptNet n hn
  have hC := idleL_len (n := n) (s := s) (gs := gs)
  have ok1 := planP_shape hn (gs := gs)
  have hnl := hn.1.1
  generalize planP n gs (bigM n (fun _ => true) gs) = P1 at *
  generalize idleL n s gs = C at *
  generalize idleE n s gs = E at *
  have sc : PC 26 [.vec (ivs C) C.length, .vec (ivs C) C.length] (.bool true) := c_SameInts C (by omega)
  have lc : (ivs C).length = C.length := by simp [ivs]
  have hH5 : HL [B.var n.cells, B.var s.cells, B.var n.hcells] := by simp [HL, NetD.cells, StateD.cells, NetD.hcells, vl, handV]
  have hx5 := hx hH5
  have q1 : ∀ {h1 : List B}, Old [B.var n.cells, B.var s.cells, B.var n.hcells] h1 → h1[0]? = some (B.var n.cells) ∧ h1[1]? = some (B.var s.cells) ∧ h1[2]? = some (B.var n.hcells) ∧ 3 ≤ h1.length :=
    fun ho => ⟨ho.get rfl, ho.get rfl, ho.get rfl, by simpa using ho.len⟩
  simp only [NetD.cells, StateD.cells, vl, gsV, NetD.hcells] at h0 ha hb hx hx5 hy hkn q1 ⊢
  generalize ivs s.locs = SL at *
  generalize ivs s.vars = SV at *
  refine pB Tryz.func8 rfl (by decide) Tryz.ntmps8 (by simp) Tryz.results8 ?_
  repeat' (first
 |refine aK fun K hK=>?_|refine Step.by1 ?_|refine sE (by decide) ?_|refine cz rfl ?_|refine Fork.by2 (fun h=>?_) fun h=>?_
 |((first|refine aR ?_|refine aC (f:=11) rfl rfl (h0) rfl rfl rfl ?_);simp [vl, handV, lc])
 |(refine Split.by2 (fun h=>?_) (fun h=>?_)<;>(simp [h, vl, handV, lc]))
 |(apply hK;clear hK K)|refine AWh ‹_› ?_)
  refine aG (f := 43) rfl rfl hx5 rfl (fun v h1 hq => ?_)
  obtain ⟨b1, g1, f1, T1, b2, g2, f2, T2, rfl, ho1, p1, p2, nd1⟩ := hq
  obtain ⟨z0, z1, z2, hl1⟩ := q1 ho1
  have p1 : N3 3 h1 b1 g1 f1 T1 P1 := p1
  have p2 : N3 3 h1 b2 g2 f2 T2 P1 := p2
  have g0 := fun x : List B => ga0 (h := h1) (x := x) rfl
  have g1' := fun (x : List B) (k : Nat) => ga1 (h := h1) (x := x) (k := k) rfl
  have s1' := fun (x : List B) (k : Nat) (y : B) => sa1 (h := h1) (x := x) (k := k) (y := y) rfl
  have y0 := fun x : List B => (get_app (h := h1) (x := x) (i := 0) (by omega)).trans z0
  have y1 := fun x : List B => (get_app (h := h1) (x := x) (i := 1) (by omega)).trans z1
  have y2 := fun x : List B => (get_app (h := h1) (x := x) (i := 2) (by omega)).trans z2
  have x0 := fun (x : List B) (hx : 0 < (h1 ++ x).length) => getke (y0 x) hx
  have x1 := fun (x : List B) (hx : 1 < (h1 ++ x).length) => getke (y1 x) hx
  have x2 := fun (x : List B) (hx : 2 < (h1 ++ x).length) => getke (y2 x) hx
  have hb1 := p1.b_lt
  have hb2 := p2.b_lt
  have hle : HL (h1 ++ [B.var [.ref b1 g1 0 T1.length, .ref b2 g2 0 T2.length], B.var [halfV P1, halfV P1], B.row 3 0 0 true (ivs C), B.row 3 0 0 true (ivs C)]) := ho1.hl.app (by simp [halfV]; omega)
  have hap : ∀ (x : List B) k, k < h1.length → (h1 ++ x)[k]? = h1[k]? := fun x k hk => List.getElem?_append_left hk
  have sp := g_SamePlan hle (p1.mono (hap _)) (p2.mono (hap _)) ok1.1 ok1.2 ok1.1 ok1.2
  simp only [halfV] at sp hy hle
  simp [y0, x0]
  repeat' (first
 |refine AW_nilcell (h1.length + 4) 2 47 (cs := [.nils, .nils, .nils, .nils, .nils, .nils, .nils, .nils, .nils, .nils, .nils, .nils, .nils, .nils]) ((g1' _ 4).trans rfl) rfl (by simp) ?_
 |refine aK fun K hK=>?_|refine Step.by1 ?_|refine sE (by decide) ?_|refine cz rfl ?_|refine Fork.by2 (fun h=>?_) fun h=>?_
 |((first|refine aR ?_|refine aC (f:=44) rfl rfl (hy) rfl rfl rfl ?_|refine AS_callT (f:=45) rfl rfl (ha) rfl rfl ?_|refine AS_callT (f:=46) rfl rfl (hb) rfl rfl ?_|refine aC (f:=35) rfl rfl (h3) rfl rfl rfl ?_);simp [vl, handV, lc, g0, g1', s1', y0, y1, y2, x0, x1, x2])
 |(refine Split.by2 (fun h=>?_) (fun h=>?_)<;>(simp [h, vl, handV, lc, g0, g1', s1', y0, y1, y2, x0, x1, x2]))
 |(refine AS_seen1 (f:=26) rfl ?_ (sc) rfl rfl rfl ?_;(focus (first|rfl|(simp [seenV, vl, handV, lc, g0, g1', s1', y0, y1, y2, x0, x1, x2];done)));simp [vl, handV, lc, g0, g1', s1', y0, y1, y2, x0, x1, x2])
 |(refine aG (f := 41) rfl rfl sp rfl (fun v h' hq => ?_); obtain ⟨rfl, rfl⟩ := hq; simp [g0, g1', lc])
 |(apply hK;clear hK K)|refine AWh ‹_› ?_)
  have hHb : HL (h1 ++ [B.var [.ref b1 g1 0 T1.length, .ref b2 g2 0 T2.length], B.var [.vec (rows3V P1) P1.length, .vec (rows3V P1) P1.length], B.row 3 0 0 true (ivs C), B.row 3 0 0 true (ivs C), bookB (h1.length + 5) 0 0, B.row 47 0 0 true []]) := ho1.hl.app (by simp [bookB]; omega)
  have k0 := BK.init (bk := h1.length + 4) (r := h1.length + 5) hHb ((g1' _ 4).trans rfl) ((g1' _ 5).trans rfl)
  have keep : ∀ {hh : List B} {g : Nat} {refs : List (Nat × Nat × Nat)}, BK (h1 ++ [B.var [.ref b1 g1 0 T1.length, .ref b2 g2 0 T2.length], B.var [.vec (rows3V P1) P1.length, .vec (rows3V P1) P1.length], B.row 3 0 0 true (ivs C), B.row 3 0 0 true (ivs C), bookB (h1.length + 5) 0 0, B.row 47 0 0 true []]) hh (h1.length + 4) (h1.length + 5) g refs →
      hh.length = h1.length + 6 ∧ (∀ k, k < h1.length → hh[k]? = h1[k]?) ∧ hh[h1.length + 2]? = some (B.row 3 0 0 true (ivs C)) :=
    fun k => ⟨by simpa using k.len, fun j hj => by rw [k.rest j (by omega) (by omega)]; exact hap _ j hj, by rw [k.rest _ (by omega) (by omega)]; exact (g1' _ 2).trans rfl⟩
  have hr1 : ∀ {o b g fl} {T : Rows3} {P : List (List (List Int))}, N3 o h1 b g fl T P → ∀ y ∈ T, y.1 ≠ h1.length + 5 := fun q y hy => by have := q.hi_row.1 y hy; omega
  have hok : ∀ Q ∈ P1, Q.length ≤ 1048576 := fun Q hQ => (ok1.2 Q hQ).1
  have i1 := p1.ids3_len ok1.1 hok
  have i2 := p2.ids3_len ok1.1 hok
  have t1 : T1.length ≤ 1048576 := by rw [← p1.len]; exact ok1.1
  have t2 : T2.length ≤ 1048576 := by rw [← p2.len]; exact ok1.1
  refine aG (f := 42) rfl rfl (g_TakePlan k0 (p1.mono (hap _)) (p2.mono (hap _)) (hr1 p1) (hr1 p2) (by simp) (by simp; omega) t1 t2) rfl (fun v h2 hq => ?_)
  obtain ⟨rfl, k1⟩ := hq
  obtain ⟨n1, o1, v1⟩ := keep k1
  simp
  repeat' (first
 |refine aK fun K hK=>?_|refine Step.by1 ?_|refine sE (by decide) ?_|refine cz rfl ?_|refine Fork.by2 (fun h=>?_) fun h=>?_
 |(refine aR ?_;simp)
 |(refine Split.by2 (fun h=>?_) (fun h=>?_)<;>(simp [h]))
 |(apply hK;clear hK K)|refine AWh ‹_› ?_)
  refine aG (f := 31) rfl rfl (g_TakeB k1 (x := (h1.length + 2, 0, C.length)) (by simp [n1]) (by simp; omega)) rfl (fun v h3' hq => ?_)
  obtain ⟨rfl, k2⟩ := hq
  obtain ⟨n2, o2, v2⟩ := keep k2
  have z2' := (o2 2 (by omega)).trans z2
  simp
  repeat' (first
 |refine aK fun K hK=>?_|refine Step.by1 ?_|refine sE (by decide) ?_|refine cz rfl ?_|refine Fork.by2 (fun h=>?_) fun h=>?_
 |(refine aR ?_;simp [z2', vl, handV])
 |(refine Split.by2 (fun h=>?_) (fun h=>?_)<;>(simp [h, z2', vl, handV]))
 |(apply hK;clear hK K)|refine AWh ‹_› ?_)
  refine aG (f := 43) rfl rfl (hx k2.hl) rfl (fun v h4 hq => ?_)
  obtain ⟨b3, g3, f3, T3, b4, g4, f4, T4, rfl, ho4, p3, p4, nd2⟩ := hq
  have ho4 : Old h3' h4 := ho4
  have p3 : N3 h3'.length h4 b3 g3 f3 T3 P1 := p3
  have p4 : N3 h3'.length h4 b4 g4 f4 T4 P1 := p4
  have j0 := fun x : List B => ga0 (h := h4) (x := x) rfl
  have l4 := ho4.len
  have hb3 := p3.b_lt
  have hb4 := p4.b_lt
  have hl4 : HL (h4 ++ [B.var [.ref b3 g3 0 T3.length, .ref b4 g4 0 T4.length]]) := ho4.hl.app (by simp; omega)
  have hO4 := ho4.app hl4
  have k4 := k2.old hO4
  have hap4 : ∀ k, k < h4.length → (h4 ++ [B.var [.ref b3 g3 0 T3.length, .ref b4 g4 0 T4.length]])[k]? = h4[k]? := fun k hk => List.getElem?_append_left hk
  have i3 := p3.ids3_len ok1.1 hok
  have i4 := p4.ids3_len ok1.1 hok
  have t3 : T3.length ≤ 1048576 := by rw [← p3.len]; exact ok1.1
  have t4 : T4.length ≤ 1048576 := by rw [← p4.len]; exact ok1.1
  have hr3 : ∀ {b g fl} {T : Rows3} {P : List (List (List Int))}, N3 h3'.length h4 b g fl T P → ∀ y ∈ T, y.1 ≠ h1.length + 5 := fun q y hy => by have := q.low_row.1 y hy; omega
  have hrl : ∀ x ∈ ([] ++ (ids3 T1 ++ ids3 T2) ++ [(h1.length + 2, 0, C.length)] : List (Nat × Nat × Nat)), x.1 < h3'.length := fun x hx => by
    rcases List.mem_append.1 hx with hx | hx
    · rcases List.mem_append.1 hx with hx | hx
      · cases hx
      · rcases List.mem_append.1 hx with hx | hx
        · have := p1.hi_row.2 x hx; omega
        · have := p2.hi_row.2 x hx; omega
    · simp at hx; subst hx; simp; omega
  simp
  repeat' (first
 |refine aK fun K hK=>?_|refine Step.by1 ?_|refine sE (by decide) ?_|refine cz rfl ?_|refine Fork.by2 (fun h=>?_) fun h=>?_
 |(refine aR ?_;simp [j0])
 |(refine Split.by2 (fun h=>?_) (fun h=>?_)<;>(simp [h, j0]))
 |(apply hK;clear hK K)|refine AWh ‹_› ?_)
  refine aG (f := 42) rfl rfl (g_TakePlan k4 (p3.mono hap4) (p4.mono hap4) (hr3 p3) (hr3 p4) (fun x hx => by have := hrl x hx; simp; omega) (by simp; omega) t3 t4) rfl (fun v h6 hq => ?_)
  obtain ⟨rfl, k5⟩ := hq
  have n6 : h6.length = h4.length + 1 := by simpa using k5.len
  have lo : ∀ j, j < h1.length → h6[j]? = h1[j]? := fun j hj => by rw [k5.rest j (by omega) (by omega), hap4 j (by omega), ho4.old j (by omega)]; exact o2 j hj
  have hi : ∀ j, h3'.length ≤ j → j < h4.length → h6[j]? = h4[j]? := fun j h1' h2' => by rw [k5.rest j (by omega) (by omega)]; exact hap4 j h2'
  have hrows : ∀ x ∈ ([] ++ (ids3 T1 ++ ids3 T2) ++ [(h1.length + 2, 0, C.length)] ++ (ids3 T3 ++ ids3 T4) : List (Nat × Nat × Nat)), (∃ ns, h6[x.1]? = some (.row 3 x.2.1 0 true (ivs ns)) ∧ ns.length = x.2.2) ∧ x.2.2 ≤ 1099511627776 ∧ 3 ≤ x.1 := fun x hx => by
    have old : ∀ {b g fl} {T : Rows3} {P : List (List (List Int))}, N3 3 h1 b g fl T P → planOk P → x ∈ ids3 T → (∃ ns, h6[x.1]? = some (.row 3 x.2.1 0 true (ivs ns)) ∧ ns.length = x.2.2) ∧ x.2.2 ≤ 1099511627776 ∧ 3 ≤ x.1 := fun q hP hx => by
      obtain ⟨ns, Q, hQ, hn, hr, hl⟩ := q.mem_row hx
      have := (hP.2 Q hQ).2 ns hn
      have := q.low_row.2 x hx
      exact ⟨⟨ns, by rw [lo _ (q.hi_row.2 x hx)]; exact hr, hl⟩, by omega, by omega⟩
    have new : ∀ {b g fl} {T : Rows3} {P : List (List (List Int))}, N3 h3'.length h4 b g fl T P → planOk P → x ∈ ids3 T → (∃ ns, h6[x.1]? = some (.row 3 x.2.1 0 true (ivs ns)) ∧ ns.length = x.2.2) ∧ x.2.2 ≤ 1099511627776 ∧ 3 ≤ x.1 := fun q hP hx => by
      obtain ⟨ns, Q, hQ, hn, hr, hl⟩ := q.mem_row hx
      have := (hP.2 Q hQ).2 ns hn
      have hlo := q.low_row.2 x hx
      exact ⟨⟨ns, by rw [hi _ hlo (q.hi_row.2 x hx)]; exact hr, hl⟩, by omega, by omega⟩
    rcases List.mem_append.1 hx with hx | hx
    · rcases List.mem_append.1 hx with hx | hx
      · rcases List.mem_append.1 hx with hx | hx
        · cases hx
        · rcases List.mem_append.1 hx with hx | hx
          · exact old p1 ok1 hx
          · exact old p2 ok1 hx
      · simp at hx
        subst hx
        exact ⟨⟨C, by rw [k5.rest _ (by simp) (by simp), hap4 _ (by simp; omega), ho4.old _ (by simp; omega)]; exact v2, rfl⟩, by simp; omega, by simp; omega⟩
    · rcases List.mem_append.1 hx with hx | hx
      · exact new p3 ok1 hx
      · exact new p4 ok1 hx
  have hnd : (([] ++ (ids3 T1 ++ ids3 T2) ++ [(h1.length + 2, 0, C.length)] ++ (ids3 T3 ++ ids3 T4) : List (Nat × Nat × Nat)).map (·.1)).Nodup := by
    have m1 : ((ids3 T1 ++ ids3 T2).map (·.1)).Nodup := by rw [List.map_append]; exact nd1
    have m2 : ((ids3 T3 ++ ids3 T4).map (·.1)).Nodup := by rw [List.map_append]; exact nd2
    have a1 : ∀ x ∈ ids3 T1 ++ ids3 T2, x.1 < h1.length := fun x hx => by
      rcases List.mem_append.1 hx with hx | hx
      · exact p1.hi_row.2 x hx
      · exact p2.hi_row.2 x hx
    have a2 : ∀ x ∈ ids3 T3 ++ ids3 T4, h3'.length ≤ x.1 := fun x hx => by
      rcases List.mem_append.1 hx with hx | hx
      · exact p3.low_row.2 x hx
      · exact p4.low_row.2 x hx
    rw [List.map_append, List.map_append]
    refine List.nodup_append.2 ⟨List.nodup_append.2 ⟨by simpa using m1, by simp, fun u hu w hw e => ?_⟩, m2, fun u hu w hw e => ?_⟩
    · rw [List.nil_append] at hu
      obtain ⟨y, hy, rfl⟩ := List.mem_map.1 hu
      have := a1 y hy
      simp at hw; omega
    · obtain ⟨y, hy, rfl⟩ := List.mem_map.1 hw
      have h7 := a2 y hy
      rcases List.mem_append.1 hu with hu | hu
      · rw [List.nil_append] at hu
        obtain ⟨z, hz, rfl⟩ := List.mem_map.1 hu
        have := a1 z hz; omega
      · simp at hu; omega
  have hpre := k5.pre (by simp) (fun x hx => (hrows x hx).1) hnd
  simp
  repeat' (first
 |refine aK fun K hK=>?_|refine Step.by1 ?_|refine sE (by decide) ?_|refine cz rfl ?_|refine Fork.by2 (fun h=>?_) fun h=>?_
 |(refine aR ?_;simp)
 |(refine Split.by2 (fun h=>?_) (fun h=>?_)<;>(simp [h]))
 |(apply hK;clear hK K)|refine AWh ‹_› ?_)
  refine aG (f := 32) rfl rfl (g_Alone hpre (by simp; omega) (fun x hx => (hrows x hx).2.1)) rfl (fun v h7 hq => ?_)
  obtain ⟨rfl, _, _, hk⟩ := hq
  have hk : ∀ b, b < h6.length → b ≠ h1.length + 5 → b ≠ h1.length + 4 → (∀ x ∈ ([] ++ (ids3 T1 ++ ids3 T2) ++ [(h1.length + 2, 0, C.length)] ++ (ids3 T3 ++ ids3 T4) : List (Nat × Nat × Nat)), x.1 ≠ b) → h7[b]? = h6[b]? := hk
  have w0 := ((hk 0 (by omega) (by omega) (by omega) (fun x hx => by have := (hrows x hx).2.2; omega)).trans (lo 0 (by omega))).trans z0
  have w2 := ((hk 2 (by omega) (by omega) (by omega) (fun x hx => by have := (hrows x hx).2.2; omega)).trans (lo 2 (by omega))).trans z2
  simp [w0, w2, vl, handV]
  repeat' (first
 |refine aK fun K hK=>?_|refine Step.by1 ?_|refine sE (by decide) ?_|refine cz rfl ?_|refine Fork.by2 (fun h=>?_) fun h=>?_
 |((first|refine aR ?_|refine aC (f:=17) rfl rfl (hkn) rfl rfl rfl ?_);simp [w0, w2, vl, handV])
 |(refine Split.by2 (fun h=>?_) (fun h=>?_)<;>(simp [h, w0, w2, vl, handV]))
 |(apply hK;clear hK K)|refine AWh ‹_› ?_)
  exact r1q (cE rfl rfl)
theorem c_ActivePlans (n : NetD) (hn : n.ok) (s : StateD) (hs : s.ok) (gs : List (List PartD)) (hg : okGoals gs) : PC 8 [.agg n.cells, .agg s.cells, gsV gs] (.bool true) := by
  by_cases he : lookE n gs = 0
  · exact c_ActivePlansOk n hn s hs gs hg he
  · exact c_ActivePlansBad n hn s hs gs hg he
end Go.Proofs.YtgmlimipejcpgaaGreatDoor
end
