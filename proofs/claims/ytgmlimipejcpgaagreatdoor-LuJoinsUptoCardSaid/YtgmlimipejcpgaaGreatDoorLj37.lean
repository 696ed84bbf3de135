/-
  YtgmlimipejcpgaaGreatDoorLj37: steps of the proof of a law of the program: what these texts prove holds under the hypotheses that their theorems name, and no others.
-/
import Derived.Test.YtgmlimipejcpgaaGreatDoorLj30
import Derived.Test.YtgmlimipejcpgaaGreatDoorLj36
import Derived.Test.YtgmlimipejcpgaaGreatDoorLj34
import Derived.Test.YtgmlimipejcpgaaGreatDoorLj21
import Derived.Test.YtgmlimipejcpgaaGreatDoorLj20
section
set_option linter.unusedSimpArgs false
set_option linter.unusedVariables false
namespace Go.Proofs.YtgmlimipejcpgaaGreatDoor
open Go Go.AM Fx
theorem smallA_E : okE smallA := by
  intro e he
  simp [smallA, smallN] at he
  subst he
  simp [smallA, smallN]
theorem luM_small (so : Int → Bool) : luM smallA 1 (luB smallA 1 so []) = (List.range 2).map (luBase smallA 1 so []) := by
  refine (IsLu.luM smallA_E ⟨L3.ls ⟨by simp [smallA, smallN], fun i hi => ?_⟩, fun e he c hc u v hu hs hv => ?_⟩).symm
  · have hi2 : i < 2 := hi
    simp [hi2, luBase]
  · exfalso
    simp [smallA, smallN] at he
    subst he
    have : c = 0 := by omega
    subst this
    revert hs; decide
theorem base_smallL : (List.range 2).map (luBase smallA 1 lowB []) = [[3], [-1]] := by kernel_rfl
theorem base_smallU : (List.range 2).map (luBase smallA 1 upB []) = [[5], [-1]] := by kernel_rfl
theorem luP_smallL : luP smallN lowB [] = [[[3], [-1]]] := by
  have : luP smallN lowB [] = [luM smallA 1 (luB smallA 1 lowB [])] := rfl
  rw [this, luM_small, base_smallL]
theorem luP_smallU : luP smallN upB [] = [[[5], [-1]]] := by
  have : luP smallN upB [] = [luM smallA 1 (luB smallA 1 upB [])] := rfl
  rw [this, luM_small, base_smallU]
theorem luAt_small0 (so : Int → Bool) : luAtL smallN so 0 0 [] = (luM smallA 1 (luB smallA 1 so [])).getD 0 [] := by
  have h : ¬ badLoc smallN 0 0 := by unfold badLoc; decide
  unfold luAtL
  rw [if_neg (by simp [look_small]), if_neg h]; rfl
theorem luAt_small1 (so : Int → Bool) : luAtL smallN so 0 1 [] = (luM smallA 1 (luB smallA 1 so [])).getD 1 [] := by
  have h : ¬ badLoc smallN 0 1 := by unfold badLoc; decide
  unfold luAtL
  rw [if_neg (by simp [look_small]), if_neg h]; rfl
theorem luAt_s0L : luAtL smallN lowB 0 0 [] = [3] := by rw [luAt_small0, luM_small, base_smallL]; rfl
theorem luAt_s0U : luAtL smallN upB 0 0 [] = [5] := by rw [luAt_small0, luM_small, base_smallU]; rfl
theorem luAt_s1L : luAtL smallN lowB 0 1 [] = [-1] := by rw [luAt_small1, luM_small, base_smallL]; rfl
theorem luAt_s1U : luAtL smallN upB 0 1 [] = [-1] := by rw [luAt_small1, luM_small, base_smallU]; rfl
theorem c_luPlanF (n : NetD) (hn : n.ok) (gs : List (List PartD)) (hgl : gs.length ≤ 1048576) (hgs : ∀ g ∈ gs, okGoal g) (he : lookE n gs = 0) :
    PC 38 [.agg n.cells, gsV gs] (.tup [.agg [halfV (luP n lowB gs), halfV (luP n upB gs)], .int .i64 0]) :=
  PCall_of_GCall (c_luPlan n hn gs hgl hgs he (h := []) (by simp [HL])) fun v h' ⟨b1, g1, f1, T1, b2, g2, f2, T2, hv, hO, p1, p2, _⟩ => .inl ⟨5, by
    rw [hv]
    show _ = V.tup [V.agg [Go.AM.frz h' 3 (.ref b1 g1 0 T1.length), Go.AM.frz h' 3 (.ref b2 g2 0 T2.length)], Go.AM.frz h' 4 (.int .i64 0)]
    rw [p1.frz, p2.frz]
    rfl, rfl⟩
set_option maxRecDepth 20000 in
set_option maxHeartbeats 4000000 in
theorem c_small26 : PC 108 [] (.agg smallN.cells) := by
  have h : PC 108 [] (.agg [.vec [[.str ⟨#[120]⟩]] 1, .nils, .nils, .vec [[.str ⟨#[65]⟩, .vec [[.str ⟨#[97]⟩, .int .u8 0, .vec [[.int .i64 1, .int .i64 0, .int .u8 2, .int .i64 5]] 1], [.str ⟨#[98]⟩, .int .u8 0, .nils]] 2, .vec [[.int .i64 0, .int .i64 1, .vec [[.int .i64 1, .int .i64 0, .int .u8 4, .int .i64 3]] 1, .nils, .int .i64 0, .bool false, .vec [[.int .i64 1, .int .i64 0, .int .i64 0, .nils]] 1]] 1]] 1]) := by
    refine pB Tryz.func108 rfl (by decide) Tryz.ntmps108 (by simp) Tryz.results108 ?_
    repeat' (first
 |(refine AW_region_AOL (id := 1) ?_;simp)
 |refine aK fun K hK=>?_|refine Step.by1 ?_|refine sE (by decide) ?_|refine cz rfl ?_|refine Fork.by2 (fun h=>?_) fun h=>?_
 |(refine aR ?_;simp)
 |(refine Split.by2 (fun h=>?_) (fun h=>?_)<;>(simp [h]))
 |(apply hK;clear hK K)|refine AWh ‹_› ?_)
    exact retqc rfl (by simp) (cE (by simp) (by simp))
  exact h.dnr rfl rfl (fun _ _ h => by cases h) (fun _ h => by cases h)
theorem right_small1 : rightPE smallN [[[3], [-1]]] [[[5], [-1]]] = true := by kernel_rfl
theorem right_small0 : rightPE smallN [] [] = false := by kernel_rfl
set_option maxRecDepth 20000 in
set_option maxHeartbeats 4000000 in
theorem c_live26 : PC 40 [] (.bool true) := by
  have h0 := c_small26
  have h1 := c_luAt smallN small_ok 0 0 [] (by simp) (by simp)
  have h2 := c_luAt smallN small_ok 0 1 [] (by simp) (by simp)
  have h3 := c_luPlanF smallN small_ok [] (by simp) (by simp) look_small
  have h4 := c_luRight smallN small_ok [[[3], [-1]]] [[[5], [-1]]] (by simp [planOk]) (by simp [planOk])
  have h5 := c_luRight smallN small_ok [] [] (by simp [planOk]) (by simp [planOk])
  rw [luAt_s0L, luAt_s0U, clks_small0.2] at h1
  rw [luAt_s1L, luAt_s1U, clks_small1.2] at h2
  rw [luP_smallL, luP_smallU] at h3
  rw [right_small1] at h4
  rw [right_small0] at h5
  have h1' := PCall.denil (args := [.agg smallN.cells, .int .i64 0, .int .i64 0, .nils]) h1 rfl
  have h2' := PCall.denil (args := [.agg smallN.cells, .int .i64 0, .int .i64 1, .nils]) h2 rfl
  have h3' := PCall.denil (args := [.agg smallN.cells, .nils]) h3 rfl
  have h5' := PCall.dn (args := [.agg smallN.cells, .agg [.nils, .nils]]) h5 rfl
  have s3 := c_SameInts [3] (by simp)
  have s5 := c_SameInts [5] (by simp)
  have s1 := c_SameInts [-1] (by simp)
  clear h1 h2 h3 h5
  have hcs : smallN.cells = [.vec [[.str ⟨#[120]⟩]] 1, .vec [] 0, .vec [] 0, .vec [[.str ⟨#[65]⟩, .vec [[.str ⟨#[97]⟩, .int .u8 0, .vec [[.int .i64 1, .int .i64 0, .int .u8 2, .int .i64 5]] 1], [.str ⟨#[98]⟩, .int .u8 0, .vec [] 0]] 2, .vec [[.int .i64 0, .int .i64 1, .vec [[.int .i64 1, .int .i64 0, .int .u8 4, .int .i64 3]] 1, .vec [] 0, .int .i64 0, .bool false, .vec [[.int .i64 1, .int .i64 0, .int .i64 0, .vec [] 0]] 1]] 1]] 1] := rfl
  simp only [halfV, rows3V, rows2V, ivs, isV, List.map_cons, List.map_nil, List.length_cons, List.length_nil, Nat.zero_add] at h1' h2' h3' h4 s3 s5 s1
  rw [hcs] at h0 h1' h2' h3' h4 h5'
  refine pB Tryz.func40 rfl (by decide) Tryz.ntmps40 (by simp) Tryz.results40 ?_
  repeat' (first
 |refine aK fun K hK=>?_|refine Step.by1 ?_|refine sE (by decide) ?_|refine cz rfl ?_|refine Fork.by2 (fun h=>?_) fun h=>?_
 |((first|refine aR ?_|refine aX (id:=4) 42 mixed (by decide) ?_|refine aC (f:=108) rfl rfl (h0) rfl rfl rfl ?_|refine aP1 (f:=108) rfl rfl (h0) rfl rfl rfl ?_|refine AS_callT (f:=36) rfl rfl (h1') rfl rfl ?_|refine AS_callT (f:=36) rfl rfl (h2') rfl rfl ?_|refine aC (f:=38) rfl rfl (h3') rfl rfl rfl ?_|refine aP1 (f:=50) rfl rfl (h4) rfl rfl rfl ?_|refine aP1 (f:=50) rfl rfl (h5') rfl rfl rfl ?_);simp)
 |(refine Split.by2 (fun h=>?_) (fun h=>?_)<;>(simp [h]))
 |(refine AP_lit rfl (by simp) ?_;simp)
 |(refine AP_scall (f:=26) rfl ?_ (s3) rfl rfl rfl ?_;(focus (first|rfl|(simp [seenV];done)));simp)
 |(refine AP_scall (f:=26) rfl ?_ (s5) rfl rfl rfl ?_;(focus (first|rfl|(simp [seenV];done)));simp)
 |(refine AP_scall (f:=26) rfl ?_ (s1) rfl rfl rfl ?_;(focus (first|rfl|(simp [seenV];done)));simp)
 |(apply hK;clear hK K)|refine AWh ‹_› ?_)
  exact r1q (cE rfl rfl)




def PartD.hcells (p : PartD) : List V := [handV AtD.cells markAts p.locs, handV GuardD.cells markGuards p.guards, handV NodeD.cells markNodes p.test]
theorem inj_of_nodup {refs : List (Nat × Nat × Nat)} (h : (refs.map (·.1)).Nodup) (i j : Nat) (x y : Nat × Nat × Nat) (hx : refs[i]? = some x) (hy : refs[j]? = some y) (e : x.1 = y.1) : i = j := by
  have hi : i < (refs.map (·.1)).length := by have := (List.getElem?_eq_some_iff.1 hx).1; simpa using this
  refine (List.getElem?_inj hi h).1 ?_
  rw [List.getElem?_map, List.getElem?_map, hx, hy]; simp [e]
theorem GCall.trim {P : Program} {ge : GEnv} {f : Nat} {args args' : List V} {h : List B} {Q : V → List B → Prop} (hc : GCall P ge f args' h Q) (ha : V.trims args = args') : GCall P ge f args h Q := by
  subst ha
  refine ⟨hc.1, fun G w cargs h hg => hc.2 G w cargs ⟨by rw [trims_eq, List.length_map]; exact h.1, fun i v hv => ?_⟩ hg⟩
  rw [trims_eq, List.getElem?_map] at hv
  obtain ⟨u, h1, rfl⟩ := Option.map_eq_some_iff.1 hv
  exact (h.2 i u h1).trim
def plansH (l : List PlanD) : List (List V) := l.map PlanD.hcells
theorem plansH_len {l : List PlanD} : (plansH l).length = l.length := by simp [plansH]
theorem plansH_take {l : List PlanD} {i : Nat} {p : PlanD} (h : l[i]? = some p) : plansH (l.take (i + 1)) = plansH (l.take i) ++ [p.hcells] := by
  unfold plansH; rw [List.take_add_one, h, List.map_append]; rfl
theorem plansH_get {l : List PlanD} {i : Nat} {p : PlanD} (h : l[i]? = some p) : (plansH l)[i]? = some p.hcells := by simp [plansH, h]
theorem trim_plansH (l : List PlanD) : (V.vec (plansH l) l.length).trim = vl PlanD.cells l := by
  have e : V.vec (plansH l) l.length = vl PlanD.hcells l := rfl
  rw [e]
  exact trim_vl' fun p _ => trims_PlanH p
theorem trim_planH (p : PlanD) : (V.agg p.hcells).trim = .agg p.cells := by simp only [V.trim, trims_PlanH]
theorem trim_net (n : NetD) : (V.agg n.cells).trim = .agg n.cells := by simp only [V.trim, trims_Net]
/-- A book before it is asked, whatever it holds. -/
theorem AW_bookPre {c : Code} {Q : Exit → St → Prop} {st : St} {h0 : List B} {bk r g : Nat} {refs : List (Nat × Nat × Nat)} (p : BK h0 st.h bk r g refs)
    (hrows : ∀ x ∈ refs, ∃ ns, st.h[x.1]? = some (.row 3 x.2.1 0 true (ivs ns)) ∧ ns.length = x.2.2) (hnd : (refs.map (·.1)).Nodup)
    (h : ∀ hx, Pre hx bk r g refs → (∀ k, k ≠ r → hx[k]? = st.h[k]?) → hx.length = st.h.length → AW Tryz.prog GV c Q { st with h := hx }) : AW Tryz.prog GV c Q st := by
  have hin : ∀ (i j : Nat) (x y : Nat × Nat × Nat), refs[i]? = some x → refs[j]? = some y → x.1 = y.1 → i = j := fun i j x y hx hy e => by
    have hi : i < (refs.map (·.1)).length := by have := (List.getElem?_eq_some_iff.1 hx).1; simpa using this
    refine (List.getElem?_inj hi hnd).1 ?_
    rw [List.getElem?_map, List.getElem?_map, hx, hy]; simp [e]
  obtain ⟨f, hrr, hf⟩ := p.rr
  cases f with
  | false => exact h st.h ⟨p.hl, p.bkk, hrr, fun j x hx => hrows x (List.mem_of_getElem? hx), hin⟩ (fun _ _ => rfl) rfl
  | true =>
    have e := hf rfl
    subst e
    refine AW_unflat r (by simpa using hrr) (h _ ⟨p.hl.set (rowR_lt fun x hx => by cases hx), by rw [gN p.ne.symm]; exact p.bkk, by rw [get_set_eq hrr]; rfl, fun j x hx => by simp at hx, hin⟩ (fun k hk => gN (fun e => hk e.symm)) (by simp))
set_option maxRecDepth 40000 in
set_option maxHeartbeats 32000000 in
theorem c_LuJoinsBad (n : NetD) (hn : n.ok) (a : PlanD) (ha : a.ok) (l : List PlanD) (hl : okPlans l) (he : anyL (unlike a) l = true) : PC 9 [.agg n.cells, .agg a.cells, vl PlanD.cells l] (.bool true) := by
  have hll := hl.1
  have h0 := c_HandPlan a ha
  have hp := fun (b : PlanD) (hb : b ∈ l) => c_HandPlan b (hl.2 b hb)
  have tr : V.trims [.agg a.hcells, .vec (plansH l) l.length] = [.agg a.cells, vl PlanD.cells l] := by simp only [V.trims, trim_planH, trim_plansH]
  have h3 := c_live26
  have hr := PCall.trim (args := [.agg n.cells, .agg a.hcells]) (c_luRight n hn a.lo a.up ha.1 ha.2) (by simp only [V.trims, trim_net, trim_planH]; rfl)
  have hrr := r_Right26 n hn a.lo a.up ha.1 ha.2
  have hk := c_KeptPlan a ha
  have hbod := fun (b : PlanD) (hb : b ∈ l) => And.intro (PCall.trim (args := [.agg a.hcells, .agg b.hcells]) (c_Wider a.lo a.up b.lo b.up ha.1 ha.2) (by simp only [V.trims, trim_planH]; rfl))
    (And.intro (PCall.trim (args := [.agg b.hcells, .agg a.hcells]) (c_Wider b.lo b.up a.lo a.up (hl.2 b hb).1 (hl.2 b hb).2) (by simp only [V.trims, trim_planH]; rfl))
    (And.intro (r_Wider a.lo a.up b.lo b.up ha.1 ha.2) (And.intro (r_Wider b.lo b.up a.lo a.up (hl.2 b hb).1 (hl.2 b hb).2)
    (And.intro (PCall.trim (args := [.agg n.cells, .agg b.hcells]) (c_luRight n hn b.lo b.up (hl.2 b hb).1 (hl.2 b hb).2) (by simp only [V.trims, trim_net, trim_planH]; rfl))
    (And.intro (r_Right26 n hn b.lo b.up (hl.2 b hb).1 (hl.2 b hb).2) (c_KeptPlan b (hl.2 b hb)))))))
  have hpl := plansH_len (l := l)
  generalize rightPE n a.lo a.up = q0 at *
  have hx := PCall.trim (args := [.agg a.hcells, .vec (plansH l) l.length]) (c_JoinBad a ha l hl he) tr
  have hy := r_JoinBad26 a ha l hl he
  have sp := c_SamePlanNil
  simp only [vl, NetD.cells, PlanD.cells, PlanD.hcells, halfV, hP] at h0 hx hy hr hrr hk ⊢
  refine pB Tryz.func9 rfl (by decide) Tryz.ntmps9 (by simp) Tryz.results9 ?_
  repeat' (first
 |refine aK fun K hK=>?_|refine Step.by1 ?_|refine sE (by decide) ?_|refine cz rfl ?_|refine Fork.by2 (fun h=>?_) fun h=>?_
 |((first|refine aR ?_|refine aC (f:=47) rfl rfl (h0) rfl rfl rfl ?_);simp [vl])
 |(refine Split.by2 (fun h=>?_) (fun h=>?_)<;>(simp [h, vl]))
 |(apply hK;clear hK K)|refine AWh ‹_› ?_)
  refine AW_nilrow 8 82 rfl (by simp) ?_
  refine aL [2, 3, 4, 7] (fun i : Nat => [(8, .ref 3 i 0 i), (9, .int .i64 i)]) (fun i => [.var n.cells, .var a.cells, .var a.hcells, .row 82 i 0 true (plansH (l.take i))]) (fun i => i ≤ l.length) (fun i => l.length - i) 0 (Nat.zero_le _) (by apply Weak.mk' <;> simp [vl, NetD.cells, PlanD.cells, PlanD.hcells, halfV, hP, plansH]) (fun _ _ => rfl) ?_
  intro i hi
  by_cases hlt : i < l.length
  · obtain ⟨b, hbb⟩ : ∃ b, l[i] = b := ⟨_, rfl⟩
    have hb? : l[i]? = some b := by rw [List.getElem?_eq_getElem hlt, hbb]
    have hlt' : (i : Int) < l.length := by omega
    have w1 : IntKind.i64.wrap ((i : Int) + 1) = i + 1 := wI (by omega) (by omega)
    have hby : (i + 1) * 48 ≤ 140737488355328 := by omega
    have hc := hp b (List.mem_of_getElem? hb?)
    have hs := plansH_take hb?
    have hl1 : (plansH (l.take i)).length = i := by simp [plansH]; omega
    generalize plansH (l.take i) = R at *
    simp only [PlanD.cells, PlanD.hcells, halfV, hP] at hc hs
    repeat' (first
 |refine aK fun K hK=>?_|refine Step.by1 ?_|refine sE (by decide) ?_|refine cz rfl ?_|refine Fork.by2 (fun h=>?_) fun h=>?_
 |((first|refine aR ?_|refine aC (f:=47) rfl rfl (hc) rfl rfl rfl ?_);simp [vl, NetD.cells, PlanD.cells, PlanD.hcells, halfV, hP, hlt, hlt', hbb, w1, hl1, hby])
 |(refine Split.by2 (fun h=>?_) (fun h=>?_)<;>(simp [h, vl, NetD.cells, PlanD.cells, PlanD.hcells, halfV, hP, hlt, hlt', hbb, w1, hl1, hby]))
 |(apply hK;clear hK K)|refine AWh ‹_› ?_)
    refine ⟨i + 1, by omega, by omega, ?_⟩
    rw [hs]
    apply Weak.mk' <;> simp [vl, NetD.cells, PlanD.cells, PlanD.hcells, halfV, hP]
  · obtain rfl : i = l.length := by omega
    rw [List.take_length]
    clear hp
    have hpg := plansH_len (l := l)
    repeat' (first
 |refine AW_view 8 rfl rfl (by simp [hpg]) ?_
 |refine aK fun K hK=>?_|refine Step.by1 ?_|refine sE (by decide) ?_|refine cz rfl ?_|refine Fork.by2 (fun h=>?_) fun h=>?_
 |((first|refine aR ?_|refine aC (f:=48) rfl rfl (hx) rfl rfl rfl ?_|refine aC (f:=49) rfl rfl (hy) rfl rfl rfl ?_|refine aX (id:=9) 28 mixed (by decide) ?_|refine aP1 (f:=40) rfl rfl (h3) rfl rfl rfl ?_|refine aP1 (f:=41) rfl rfl (sp) rfl rfl rfl ?_|refine aP1 (f:=50) rfl rfl (hr) rfl rfl rfl ?_|refine aP1 (f:=51) rfl rfl (hrr) rfl rfl rfl ?_|refine aP1 (f:=52) rfl rfl (hk) rfl rfl rfl ?_);simp [vl, NetD.cells, PlanD.cells, PlanD.hcells, halfV, hP, hpg])
 |(refine Split.by2 (fun h=>?_) (fun h=>?_)<;>(simp [h, vl, NetD.cells, PlanD.cells, PlanD.hcells, halfV, hP, hpg]))
 |(apply hK;clear hK K)|refine AWh ‹_› ?_)
    refine aL [2, 3, 4, 7, 8, 10] (fun i : Nat => [(14, .int .i64 i)]) (fun _ => [.var n.cells, .var a.cells, .var a.hcells, .row 82 l.length l.length true (plansH l), .var [.nils, .nils], .var [.nils, .nils]]) (fun i => i ≤ l.length) (fun i => l.length - i) 0 (Nat.zero_le _) (by apply Weak.mk' <;> simp [vl, NetD.cells, PlanD.cells, PlanD.hcells, halfV, hP, hpg]) (fun _ _ => rfl) ?_
    intro i hi
    by_cases hlt : i < l.length
    · obtain ⟨b, hbb⟩ : ∃ b, l[i] = b := ⟨_, rfl⟩
      have hb? : l[i]? = some b := by rw [List.getElem?_eq_getElem hlt, hbb]
      have hlt' : (i : Int) < l.length := by omega
      have w1 : IntKind.i64.wrap ((i : Int) + 1) = i + 1 := wI (by omega) (by omega)
      obtain ⟨e1, e2, e3, e4, e5, e6, e7⟩ := hbod b (List.mem_of_getElem? hb?)
      clear hbod
      have c2 := plansH_get hb?
      have c3 : (plansH l)[i]'(by rw [plansH_len]; exact hlt) = b.hcells := by have hz := c2; rw [List.getElem?_eq_getElem (by rw [plansH_len]; exact hlt)] at hz; exact Option.some.inj hz
      generalize widE a.lo a.up b.lo b.up = m1 at *
      generalize widE b.lo b.up a.lo a.up = m2 at *
      generalize rightPE n b.lo b.up = m3 at *
      simp only [vl, NetD.cells, PlanD.cells, PlanD.hcells, halfV, hP] at e1 e2 e3 e4 e5 e6 e7 c2 c3
      repeat' (first
 |refine aK fun K hK=>?_|refine Step.by1 ?_|refine sE (by decide) ?_|refine cz rfl ?_|refine Fork.by2 (fun h=>?_) fun h=>?_
 |((first|refine aR ?_|refine aX (id:=14) 55 mixed (by decide) ?_|refine aP1 (f:=53) rfl rfl (e1) rfl rfl rfl ?_|refine aP1 (f:=54) rfl rfl (e3) rfl rfl rfl ?_|refine aP1 (f:=53) rfl rfl (e2) rfl rfl rfl ?_|refine aP1 (f:=54) rfl rfl (e4) rfl rfl rfl ?_|refine aP1 (f:=50) rfl rfl (e5) rfl rfl rfl ?_|refine aP1 (f:=51) rfl rfl (e6) rfl rfl rfl ?_|refine aP1 (f:=52) rfl rfl (e7) rfl rfl rfl ?_);simp [vl, NetD.cells, PlanD.cells, PlanD.hcells, halfV, hP, hlt, hlt', hbb, c2, c3, hpg, w1])
 |(refine Split.by2 (fun h=>?_) (fun h=>?_)<;>(simp [h, vl, NetD.cells, PlanD.cells, PlanD.hcells, halfV, hP, hlt, hlt', hbb, c2, c3, hpg, w1]))
 |(apply hK;clear hK K)|refine AWh ‹_› ?_)
      refine ⟨i + 1, by omega, by omega, ?_⟩
      apply Weak.mk' <;> simp [vl, NetD.cells, PlanD.cells, PlanD.hcells, halfV, hP]
    · obtain rfl : i = l.length := by omega
      clear hbod hy hr hrr h0
      repeat' (first
 |refine AW_nilcell 6 2 47 rfl rfl (by simp) ?_
 |refine AW_unflat 7 rfl ?_
 |refine aK fun K hK=>?_|refine Step.by1 ?_|refine sE (by decide) ?_|refine cz rfl ?_|refine Fork.by2 (fun h=>?_) fun h=>?_
 |((first|refine aR ?_|refine aC (f:=48) rfl rfl (hx) rfl rfl rfl ?_);simp [bookB, vl, NetD.cells, PlanD.cells, PlanD.hcells, halfV, hP, hpg])
 |(refine Split.by2 (fun h=>?_) (fun h=>?_)<;>(simp [h, bookB, vl, NetD.cells, PlanD.cells, PlanD.hcells, halfV, hP, hpg]))
 |(refine aG (f := 42) rfl rfl (g_TakePlanNil (by simp [HL, vl]) (by simp)) rfl (fun v h' hq => ?_); obtain ⟨rfl, rfl⟩ := hq; simp [bookB])
 |(apply hK;clear hK K)|refine AWh ‹_› ?_)
      refine aG (f := 32) rfl rfl (g_Alone (bk := 6) (r := 7) (g := 0) (refs := []) ?_ (by simp) (by simp)) rfl (fun v h' hq => ?_)
      · exact ⟨by simp [HL, vl], rfl, rfl, fun j x hx => by simp at hx, inj_of_nodup (by simp)⟩
      · obtain ⟨rfl, _, _, hk7⟩ := hq
        have z1 := hk7 1 (by simp) (by simp) (by simp) (by simp)
        have z2 := hk7 2 (by simp) (by simp) (by simp) (by simp)
        simp at z1 z2
        simp [z1, z2]
        repeat' (first
 |refine aK fun K hK=>?_|refine Step.by1 ?_|refine sE (by decide) ?_|refine cz rfl ?_|refine Fork.by2 (fun h=>?_) fun h=>?_
 |((first|refine aR ?_|refine aC (f:=52) rfl rfl (hk) rfl rfl rfl ?_);simp [z1, z2])
 |(refine Split.by2 (fun h=>?_) (fun h=>?_)<;>(simp [h, z1, z2]))
 |(apply hK;clear hK K)|refine AWh ‹_› ?_)
        exact r1q (cE rfl rfl)
set_option maxRecDepth 40000 in
set_option maxHeartbeats 32000000 in
theorem c_LuJoinsOk (n : NetD) (hn : n.ok) (a : PlanD) (ha : a.ok) (l : List PlanD) (hl : okPlans l) (he : anyL (unlike a) l = false) : PC 9 [.agg n.cells, .agg a.cells, vl PlanD.cells l] (.bool true) := by
  have hll := hl.1
  have h0 := c_HandPlan a ha
  have hp := fun (b : PlanD) (hb : b ∈ l) => c_HandPlan b (hl.2 b hb)
  have tr : V.trims [.agg a.hcells, .vec (plansH l) l.length] = [.agg a.cells, vl PlanD.cells l] := by simp only [V.trims, trim_planH, trim_plansH]
  have h3 := c_live26
  have hr := PCall.trim (args := [.agg n.cells, .agg a.hcells]) (c_luRight n hn a.lo a.up ha.1 ha.2) (by simp only [V.trims, trim_net, trim_planH]; rfl)
  have hrr := r_Right26 n hn a.lo a.up ha.1 ha.2
  have hk := c_KeptPlan a ha
  have hbod := fun (b : PlanD) (hb : b ∈ l) => And.intro (PCall.trim (args := [.agg a.hcells, .agg b.hcells]) (c_Wider a.lo a.up b.lo b.up ha.1 ha.2) (by simp only [V.trims, trim_planH]; rfl))
    (And.intro (PCall.trim (args := [.agg b.hcells, .agg a.hcells]) (c_Wider b.lo b.up a.lo a.up (hl.2 b hb).1 (hl.2 b hb).2) (by simp only [V.trims, trim_planH]; rfl))
    (And.intro (r_Wider a.lo a.up b.lo b.up ha.1 ha.2) (And.intro (r_Wider b.lo b.up a.lo a.up (hl.2 b hb).1 (hl.2 b hb).2)
    (And.intro (PCall.trim (args := [.agg n.cells, .agg b.hcells]) (c_luRight n hn b.lo b.up (hl.2 b hb).1 (hl.2 b hb).2) (by simp only [V.trims, trim_net, trim_planH]; rfl))
    (And.intro (r_Right26 n hn b.lo b.up (hl.2 b hb).1 (hl.2 b hb).2) (c_KeptPlan b (hl.2 b hb)))))))
  have hpl := plansH_len (l := l)
  generalize rightPE n a.lo a.up = q0 at *
  have hx := fun {h : List B} (hh : HL h) => GCall.trim (args := [.agg a.hcells, .vec (plansH l) l.length]) (g_Join a ha l hl he hh) tr
  have hy := r_Join26 a ha l hl he
  have ok1 : planOk (joinH a.lo (l.map (·.lo))) := joinH_ok ha.1
  have ok2 : planOk (joinH a.up (l.map (·.up))) := joinH_ok ha.2
  generalize joinH a.lo (l.map (·.lo)) = P1 at *
  generalize joinH a.up (l.map (·.up)) = P2 at *
  have hH4 : HL [B.var n.cells, B.var a.cells, B.var a.hcells, B.row 82 l.length l.length true (plansH l)] := by simp [HL, NetD.cells, vl, PlanD.cells, PlanD.hcells, halfV, hP]
  have hx4 := hx hH4
  have q1 : ∀ {h1 : List B}, Old [B.var n.cells, B.var a.cells, B.var a.hcells, B.row 82 l.length l.length true (plansH l)] h1 → h1[0]? = some (B.var n.cells) ∧ h1[1]? = some (B.var a.cells) ∧ h1[2]? = some (B.var a.hcells) ∧ 4 ≤ h1.length :=
    fun ho => ⟨ho.get rfl, ho.get rfl, ho.get rfl, by simpa using ho.len⟩
  simp only [vl, NetD.cells, PlanD.cells, PlanD.hcells, halfV, hP] at h0 hx hx4 hy hr hrr hk q1 ⊢
  refine pB Tryz.func9 rfl (by decide) Tryz.ntmps9 (by simp) Tryz.results9 ?_
  repeat' (first
 |refine aK fun K hK=>?_|refine Step.by1 ?_|refine sE (by decide) ?_|refine cz rfl ?_|refine Fork.by2 (fun h=>?_) fun h=>?_
 |((first|refine aR ?_|refine aC (f:=47) rfl rfl (h0) rfl rfl rfl ?_);simp [vl])
 |(refine Split.by2 (fun h=>?_) (fun h=>?_)<;>(simp [h, vl]))
 |(apply hK;clear hK K)|refine AWh ‹_› ?_)
  refine AW_nilrow 8 82 rfl (by simp) ?_
  refine aL [2, 3, 4, 7] (fun i : Nat => [(8, .ref 3 i 0 i), (9, .int .i64 i)]) (fun i => [.var n.cells, .var a.cells, .var a.hcells, .row 82 i 0 true (plansH (l.take i))]) (fun i => i ≤ l.length) (fun i => l.length - i) 0 (Nat.zero_le _) (by apply Weak.mk' <;> simp [vl, NetD.cells, PlanD.cells, PlanD.hcells, halfV, hP, plansH]) (fun _ _ => rfl) ?_
  intro i hi
  by_cases hlt : i < l.length
  · obtain ⟨b, hbb⟩ : ∃ b, l[i] = b := ⟨_, rfl⟩
    have hb? : l[i]? = some b := by rw [List.getElem?_eq_getElem hlt, hbb]
    have hlt' : (i : Int) < l.length := by omega
    have w1 : IntKind.i64.wrap ((i : Int) + 1) = i + 1 := wI (by omega) (by omega)
    have hby : (i + 1) * 48 ≤ 140737488355328 := by omega
    have hc := hp b (List.mem_of_getElem? hb?)
    have hs := plansH_take hb?
    have hl1 : (plansH (l.take i)).length = i := by simp [plansH]; omega
    generalize plansH (l.take i) = R at *
    simp only [PlanD.cells, PlanD.hcells, halfV, hP] at hc hs
    repeat' (first
 |refine aK fun K hK=>?_|refine Step.by1 ?_|refine sE (by decide) ?_|refine cz rfl ?_|refine Fork.by2 (fun h=>?_) fun h=>?_
 |((first|refine aR ?_|refine aC (f:=47) rfl rfl (hc) rfl rfl rfl ?_);simp [vl, NetD.cells, PlanD.cells, PlanD.hcells, halfV, hP, hlt, hlt', hbb, w1, hl1, hby])
 |(refine Split.by2 (fun h=>?_) (fun h=>?_)<;>(simp [h, vl, NetD.cells, PlanD.cells, PlanD.hcells, halfV, hP, hlt, hlt', hbb, w1, hl1, hby]))
 |(apply hK;clear hK K)|refine AWh ‹_› ?_)
    refine ⟨i + 1, by omega, by omega, ?_⟩
    rw [hs]
    apply Weak.mk' <;> simp [vl, NetD.cells, PlanD.cells, PlanD.hcells, halfV, hP]
  · obtain rfl : i = l.length := by omega
    rw [List.take_length]
    clear hp
    have hpg := plansH_len (l := l)
    repeat' (first
 |refine AW_view 8 rfl rfl (by simp [hpg]) ?_
 |refine aK fun K hK=>?_|refine Step.by1 ?_|refine sE (by decide) ?_|refine cz rfl ?_|refine Fork.by2 (fun h=>?_) fun h=>?_
 |(refine aR ?_;simp [vl, NetD.cells, PlanD.cells, PlanD.hcells, halfV, hP, hpg])
 |(refine Split.by2 (fun h=>?_) (fun h=>?_)<;>(simp [h, vl, NetD.cells, PlanD.cells, PlanD.hcells, halfV, hP, hpg]))
 |(apply hK;clear hK K)|refine AWh ‹_› ?_)
    refine aG (f := 48) rfl rfl hx4 rfl (fun v h1 hq => ?_)
    obtain ⟨b1, g1, f1, T1, b2, g2, f2, T2, rfl, ho1, p1, p2, nd1⟩ := hq
    obtain ⟨z0, z1, z2, hl1⟩ := q1 ho1
    have p1 : N3 4 h1 b1 g1 f1 T1 P1 := p1
    have p2 : N3 4 h1 b2 g2 f2 T2 P2 := p2
    have g0 := fun x : List B => ga0 (h := h1) (x := x) rfl
    have g1' := fun (x : List B) (k : Nat) => ga1 (h := h1) (x := x) (k := k) rfl
    have s1' := fun (x : List B) (k : Nat) (y : B) => sa1 (h := h1) (x := x) (k := k) (y := y) rfl
    have y0 := fun x : List B => (get_app (h := h1) (x := x) (i := 0) (by omega)).trans z0
    have y1 := fun x : List B => (get_app (h := h1) (x := x) (i := 1) (by omega)).trans z1
    have y2 := fun x : List B => (get_app (h := h1) (x := x) (i := 2) (by omega)).trans z2
    have x0 := fun (x : List B) (hx : 0 < (h1 ++ x).length) => getke (y0 x) hx
    have x1 := fun (x : List B) (hx : 1 < (h1 ++ x).length) => getke (y1 x) hx
    have x2 := fun (x : List B) (hx : 2 < (h1 ++ x).length) => getke (y2 x) hx
    have hb1 := p1.b_lt
    have hb2 := p2.b_lt
    have hle : HL (h1 ++ [B.var [.ref b1 g1 0 T1.length, .ref b2 g2 0 T2.length], B.var [halfV P1, halfV P2]]) := ho1.hl.app (by simp [halfV]; omega)
    have hap : ∀ (x : List B) k, k < h1.length → (h1 ++ x)[k]? = h1[k]? := fun x k hk => List.getElem?_append_left hk
    have sp := g_SamePlan hle (p1.mono (hap _)) (p2.mono (hap _)) ok1.1 ok1.2 ok2.1 ok2.2
    have hsp : ∀ e : List B, GCall Tryz.prog GV 41 [.agg [.ref b1 g1 0 T1.length, .ref b2 g2 0 T2.length], .agg [halfV P1, halfV P2]] ((h1 ++ [B.var [.ref b1 g1 0 T1.length, .ref b2 g2 0 T2.length], B.var [halfV P1, halfV P2]]) ++ e) (fun v' h' => v' = .bool true ∧ h' = (h1 ++ [B.var [.ref b1 g1 0 T1.length, .ref b2 g2 0 T2.length], B.var [halfV P1, halfV P2]]) ++ e) := fun e =>
      GCall_closed sp.1 fun hl => g_SamePlan hl (p1.mono fun k hk => by rw [List.append_assoc]; exact hap _ k hk) (p2.mono fun k hk => by rw [List.append_assoc]; exact hap _ k hk) ok1.1 ok1.2 ok2.1 ok2.2
    simp only [halfV] at hsp hle
    clear sp
    simp [y1, x1]
    repeat' (first
 |refine aK fun K hK=>?_|refine Step.by1 ?_|refine sE (by decide) ?_|refine cz rfl ?_|refine Fork.by2 (fun h=>?_) fun h=>?_
 |((first|refine aR ?_|refine aC (f:=49) rfl rfl (hy) rfl rfl rfl ?_|refine aX (id:=9) 28 mixed (by decide) ?_|refine aP1 (f:=40) rfl rfl (h3) rfl rfl rfl ?_|refine aP1 (f:=50) rfl rfl (hr) rfl rfl rfl ?_|refine aP1 (f:=51) rfl rfl (hrr) rfl rfl rfl ?_|refine aP1 (f:=52) rfl rfl (hk) rfl rfl rfl ?_);simp [vl, NetD.cells, PlanD.cells, PlanD.hcells, halfV, hP, g0, g1', s1', y0, y1, y2, x0, x1, x2])
 |(refine Split.by2 (fun h=>?_) (fun h=>?_)<;>(simp [h, vl, NetD.cells, PlanD.cells, PlanD.hcells, halfV, hP, g0, g1', s1', y0, y1, y2, x0, x1, x2]))
 |(refine AP_gcall (f := 41) rfl rfl hsp rfl rfl ?_; simp [y0, y1, y2, x0, x1, x2])
 |(apply hK;clear hK K)|refine AWh ‹_› ?_)
    refine aL [2, 3, 4, 7, 8, 10] (fun i : Nat => [(14, .int .i64 i)]) (fun _ => (h1 ++ [B.var [.ref b1 g1 0 T1.length, .ref b2 g2 0 T2.length], B.var [.vec (rows3V P1) P1.length, .vec (rows3V P2) P2.length]])) (fun i => i ≤ l.length) (fun i => l.length - i) 0 (Nat.zero_le _) (Weak.sym (x := []) (by simp) hle (by simp [vl]; omega)) (fun _ _ => by simp) ?_
    intro i hi
    by_cases hlt : i < l.length
    · obtain ⟨b, hbb⟩ : ∃ b, l[i] = b := ⟨_, rfl⟩
      have hb? : l[i]? = some b := by rw [List.getElem?_eq_getElem hlt, hbb]
      have hlt' : (i : Int) < l.length := by omega
      have w1 : IntKind.i64.wrap ((i : Int) + 1) = i + 1 := wI (by omega) (by omega)
      obtain ⟨e1, e2, e3, e4, e5, e6, e7⟩ := hbod b (List.mem_of_getElem? hb?)
      clear hbod
      have c2 := plansH_get hb?
      have c3 : (plansH l)[i]'(by rw [plansH_len]; exact hlt) = b.hcells := by have hz := c2; rw [List.getElem?_eq_getElem (by rw [plansH_len]; exact hlt)] at hz; exact Option.some.inj hz
      generalize widE a.lo a.up b.lo b.up = m1 at *
      generalize widE b.lo b.up a.lo a.up = m2 at *
      generalize rightPE n b.lo b.up = m3 at *
      simp only [vl, NetD.cells, PlanD.cells, PlanD.hcells, halfV, hP] at e1 e2 e3 e4 e5 e6 e7 c2 c3
      repeat' (first
 |refine aK fun K hK=>?_|refine Step.by1 ?_|refine sE (by decide) ?_|refine cz rfl ?_|refine Fork.by2 (fun h=>?_) fun h=>?_
 |((first|refine aR ?_|refine aX (id:=14) 55 mixed (by decide) ?_|refine aP1 (f:=53) rfl rfl (e1) rfl rfl rfl ?_|refine aP1 (f:=54) rfl rfl (e3) rfl rfl rfl ?_|refine aP1 (f:=53) rfl rfl (e2) rfl rfl rfl ?_|refine aP1 (f:=54) rfl rfl (e4) rfl rfl rfl ?_|refine aP1 (f:=50) rfl rfl (e5) rfl rfl rfl ?_|refine aP1 (f:=51) rfl rfl (e6) rfl rfl rfl ?_|refine aP1 (f:=52) rfl rfl (e7) rfl rfl rfl ?_);simp [vl, NetD.cells, PlanD.cells, PlanD.hcells, halfV, hP, g0, g1', s1', y0, y1, y2, x0, x1, x2, hlt, hlt', hbb, c2, c3, hpg, w1])
 |(refine Split.by2 (fun h=>?_) (fun h=>?_)<;>(simp [h, vl, NetD.cells, PlanD.cells, PlanD.hcells, halfV, hP, g0, g1', s1', y0, y1, y2, x0, x1, x2, hlt, hlt', hbb, c2, c3, hpg, w1]))
 |(apply hK;clear hK K)|refine AWh ‹_› ?_)
      exact ⟨i + 1, by omega, by omega, Weak.sym (x := []) (by simp) hle (by simp [vl]; omega)⟩
    · obtain rfl : i = l.length := by omega
      clear hbod hy hr hrr h0
      repeat' (first
 |refine AW_nilcell (h1.length + 2) 2 47 (cs := [.nils, .nils, .nils, .nils, .nils, .nils, .nils, .nils, .nils, .nils, .nils, .nils, .nils, .nils]) ((g1' _ 2).trans rfl) rfl (by simp) ?_
 |refine aK fun K hK=>?_|refine Step.by1 ?_|refine sE (by decide) ?_|refine cz rfl ?_|refine Fork.by2 (fun h=>?_) fun h=>?_
 |(refine aR ?_;simp [vl, g0, g1', s1', y0, y1, y2, x0, x1, x2])
 |(refine Split.by2 (fun h=>?_) (fun h=>?_)<;>(simp [h, vl, g0, g1', s1', y0, y1, y2, x0, x1, x2]))
 |(apply hK;clear hK K)|refine AWh ‹_› ?_)
      have hHb : HL (h1 ++ [B.var [.ref b1 g1 0 T1.length, .ref b2 g2 0 T2.length], B.var [.vec (rows3V P1) P1.length, .vec (rows3V P2) P2.length], bookB (h1.length + 3) 0 0, B.row 47 0 0 true []]) := ho1.hl.app (by simp [bookB]; omega)
      have k0 := BK.init (bk := h1.length + 2) (r := h1.length + 3) hHb ((g1' _ 2).trans rfl) ((g1' _ 3).trans rfl)
      have keep : ∀ {hh : List B} {g : Nat} {refs : List (Nat × Nat × Nat)}, BK (h1 ++ [B.var [.ref b1 g1 0 T1.length, .ref b2 g2 0 T2.length], B.var [.vec (rows3V P1) P1.length, .vec (rows3V P2) P2.length], bookB (h1.length + 3) 0 0, B.row 47 0 0 true []]) hh (h1.length + 2) (h1.length + 3) g refs →
          hh.length = h1.length + 4 ∧ (∀ k, k < h1.length → hh[k]? = h1[k]?) ∧ hh[h1.length]? = some (B.var [.ref b1 g1 0 T1.length, .ref b2 g2 0 T2.length]) :=
        fun k => ⟨by simpa using k.len, fun j hj => by rw [k.rest j (by omega) (by omega)]; exact hap _ j hj, by rw [k.rest _ (by omega) (by omega)]; exact (g0 _).trans rfl⟩
      have hr1 : ∀ {o b g fl} {T : Rows3} {P : List (List (List Int))}, N3 o h1 b g fl T P → ∀ y ∈ T, y.1 ≠ h1.length + 3 := fun q y hy => by have := q.hi_row.1 y hy; omega
      have i1 := p1.ids3_len ok1.1 fun Q hQ => (ok1.2 Q hQ).1
      have i2 := p2.ids3_len ok2.1 fun Q hQ => (ok2.2 Q hQ).1
      have t1 : T1.length ≤ 1048576 := by rw [← p1.len]; exact ok1.1
      have t2 : T2.length ≤ 1048576 := by rw [← p2.len]; exact ok2.1
      refine aG (f := 42) rfl rfl (g_TakePlan k0 (p1.mono (hap _)) (p2.mono (hap _)) (hr1 p1) (hr1 p2) (by simp) (by simp; omega) t1 t2) rfl (fun v h2 hq => ?_)
      obtain ⟨rfl, k1⟩ := hq
      obtain ⟨n1, o1, v1⟩ := keep k1
      have z2' := (o1 2 (by omega)).trans z2
      simp
      repeat' (first
 |refine aK fun K hK=>?_|refine Step.by1 ?_|refine sE (by decide) ?_|refine cz rfl ?_|refine Fork.by2 (fun h=>?_) fun h=>?_
 |(refine aR ?_;simp [z2', vl])
 |(refine Split.by2 (fun h=>?_) (fun h=>?_)<;>(simp [h, z2', vl]))
 |(apply hK;clear hK K)|refine AWh ‹_› ?_)
      refine aG (f := 48) rfl rfl (hx k1.hl) rfl (fun v h4 hq => ?_)
      obtain ⟨b3, g3, f3, T3, b4, g4, f4, T4, rfl, ho4, p3, p4, nd2⟩ := hq
      have ho4 : Old h2 h4 := ho4
      have p3 : N3 h2.length h4 b3 g3 f3 T3 P1 := p3
      have p4 : N3 h2.length h4 b4 g4 f4 T4 P2 := p4
      have j0 := fun x : List B => ga0 (h := h4) (x := x) rfl
      have l4 := ho4.len
      have hb3 := p3.b_lt
      have hb4 := p4.b_lt
      have hl4 : HL (h4 ++ [B.var [.ref b3 g3 0 T3.length, .ref b4 g4 0 T4.length]]) := ho4.hl.app (by simp; omega)
      have hO4 := ho4.app hl4
      have k4 := k1.old hO4
      have hap4 : ∀ k, k < h4.length → (h4 ++ [B.var [.ref b3 g3 0 T3.length, .ref b4 g4 0 T4.length]])[k]? = h4[k]? := fun k hk => List.getElem?_append_left hk
      have i3 := p3.ids3_len ok1.1 fun Q hQ => (ok1.2 Q hQ).1
      have i4 := p4.ids3_len ok2.1 fun Q hQ => (ok2.2 Q hQ).1
      have t3 : T3.length ≤ 1048576 := by rw [← p3.len]; exact ok1.1
      have t4 : T4.length ≤ 1048576 := by rw [← p4.len]; exact ok2.1
      have hr3 : ∀ {b g fl} {T : Rows3} {P : List (List (List Int))}, N3 h2.length h4 b g fl T P → ∀ y ∈ T, y.1 ≠ h1.length + 3 := fun q y hy => by have := q.low_row.1 y hy; omega
      have hrl : ∀ x ∈ ([] ++ (ids3 T1 ++ ids3 T2) : List (Nat × Nat × Nat)), x.1 < h1.length := fun x hx => by
        rw [List.nil_append] at hx
        rcases List.mem_append.1 hx with hx | hx
        · exact p1.hi_row.2 x hx
        · exact p2.hi_row.2 x hx
      simp
      repeat' (first
 |refine aK fun K hK=>?_|refine Step.by1 ?_|refine sE (by decide) ?_|refine cz rfl ?_|refine Fork.by2 (fun h=>?_) fun h=>?_
 |(refine aR ?_;simp [j0])
 |(refine Split.by2 (fun h=>?_) (fun h=>?_)<;>(simp [h, j0]))
 |(apply hK;clear hK K)|refine AWh ‹_› ?_)
      refine aG (f := 42) rfl rfl (g_TakePlan k4 (p3.mono hap4) (p4.mono hap4) (hr3 p3) (hr3 p4) (fun x hx => by have := hrl x hx; simp; omega) (by simp; omega) t3 t4) rfl (fun v h6 hq => ?_)
      obtain ⟨rfl, k5⟩ := hq
      have n6 : h6.length = h4.length + 1 := by simpa using k5.len
      have lo : ∀ j, j < h1.length → h6[j]? = h1[j]? := fun j hj => by rw [k5.rest j (by omega) (by omega), hap4 j (by omega), ho4.old j (by omega)]; exact o1 j hj
      have hi : ∀ j, h2.length ≤ j → j < h4.length → h6[j]? = h4[j]? := fun j h1' h2' => by rw [k5.rest j (by omega) (by omega)]; exact hap4 j h2'
      have hrows : ∀ x ∈ ([] ++ (ids3 T1 ++ ids3 T2) ++ (ids3 T3 ++ ids3 T4) : List (Nat × Nat × Nat)), (∃ ns, h6[x.1]? = some (.row 3 x.2.1 0 true (ivs ns)) ∧ ns.length = x.2.2) ∧ x.2.2 ≤ 1099511627776 ∧ 3 ≤ x.1 := fun x hx => by
        have old : ∀ {b g fl} {T : Rows3} {P : List (List (List Int))}, N3 4 h1 b g fl T P → planOk P → x ∈ ids3 T → (∃ ns, h6[x.1]? = some (.row 3 x.2.1 0 true (ivs ns)) ∧ ns.length = x.2.2) ∧ x.2.2 ≤ 1099511627776 ∧ 3 ≤ x.1 := fun q hP hx => by
          obtain ⟨ns, Q, hQ, hn, hr, hl⟩ := q.mem_row hx
          have := (hP.2 Q hQ).2 ns hn
          have := q.low_row.2 x hx
          exact ⟨⟨ns, by rw [lo _ (q.hi_row.2 x hx)]; exact hr, hl⟩, by omega, by omega⟩
        have new : ∀ {b g fl} {T : Rows3} {P : List (List (List Int))}, N3 h2.length h4 b g fl T P → planOk P → x ∈ ids3 T → (∃ ns, h6[x.1]? = some (.row 3 x.2.1 0 true (ivs ns)) ∧ ns.length = x.2.2) ∧ x.2.2 ≤ 1099511627776 ∧ 3 ≤ x.1 := fun q hP hx => by
          obtain ⟨ns, Q, hQ, hn, hr, hl⟩ := q.mem_row hx
          have := (hP.2 Q hQ).2 ns hn
          have hlo := q.low_row.2 x hx
          exact ⟨⟨ns, by rw [hi _ hlo (q.hi_row.2 x hx)]; exact hr, hl⟩, by omega, by omega⟩
        rw [List.nil_append] at hx
        rcases List.mem_append.1 hx with hx | hx
        · rcases List.mem_append.1 hx with hx | hx
          · exact old p1 ok1 hx
          · exact old p2 ok2 hx
        · rcases List.mem_append.1 hx with hx | hx
          · exact new p3 ok1 hx
          · exact new p4 ok2 hx
      have hnd : (([] ++ (ids3 T1 ++ ids3 T2) ++ (ids3 T3 ++ ids3 T4) : List (Nat × Nat × Nat)).map (·.1)).Nodup := by
        have m1 : ((ids3 T1 ++ ids3 T2).map (·.1)).Nodup := by rw [List.map_append]; exact nd1
        have m2 : ((ids3 T3 ++ ids3 T4).map (·.1)).Nodup := by rw [List.map_append]; exact nd2
        have a2 : ∀ x ∈ ids3 T3 ++ ids3 T4, h2.length ≤ x.1 := fun x hx => by
          rcases List.mem_append.1 hx with hx | hx
          · exact p3.low_row.2 x hx
          · exact p4.low_row.2 x hx
        rw [List.nil_append, List.map_append]
        refine List.nodup_append.2 ⟨m1, m2, fun u hu w hw e => ?_⟩
        obtain ⟨y, hy, rfl⟩ := List.mem_map.1 hw
        obtain ⟨z, hz, rfl⟩ := List.mem_map.1 hu
        have := a2 y hy
        have := hrl z (by rw [List.nil_append]; exact hz)
        omega
      simp
      apply hK
      refine AW_bookPre k5 (fun x hx => (hrows x hx).1) hnd fun hz hpre hzo hzl => ?_
      have hzl : hz.length = h6.length := hzl
      have hzo : ∀ k, k ≠ h1.length + 3 → hz[k]? = h6[k]? := hzo
      repeat' (first
 |refine aK fun K hK=>?_|refine Step.by1 ?_|refine sE (by decide) ?_|refine cz rfl ?_|refine Fork.by2 (fun h=>?_) fun h=>?_
 |(refine aR ?_;simp)
 |(refine Split.by2 (fun h=>?_) (fun h=>?_)<;>(simp [h]))
 |(apply hK;clear hK K)|refine AWh ‹_› ?_)
      refine aG (f := 32) rfl rfl (g_Alone hpre (by simp; omega) (fun x hx => (hrows x hx).2.1)) rfl (fun v h7 hq => ?_)
      obtain ⟨rfl, _, _, hk7⟩ := hq
      have hk7 : ∀ b, b < hz.length → b ≠ h1.length + 3 → b ≠ h1.length + 2 → (∀ x ∈ ([] ++ (ids3 T1 ++ ids3 T2) ++ (ids3 T3 ++ ids3 T4) : List (Nat × Nat × Nat)), x.1 ≠ b) → h7[b]? = hz[b]? := hk7
      have w1 := (((hk7 1 (by omega) (by omega) (by omega) (fun x hx => by have := (hrows x hx).2.2; omega)).trans (hzo 1 (by omega))).trans (lo 1 (by omega))).trans z1
      have w2 := (((hk7 2 (by omega) (by omega) (by omega) (fun x hx => by have := (hrows x hx).2.2; omega)).trans (hzo 2 (by omega))).trans (lo 2 (by omega))).trans z2
      simp [w1, w2]
      repeat' (first
 |refine aK fun K hK=>?_|refine Step.by1 ?_|refine sE (by decide) ?_|refine cz rfl ?_|refine Fork.by2 (fun h=>?_) fun h=>?_
 |((first|refine aR ?_|refine aC (f:=52) rfl rfl (hk) rfl rfl rfl ?_);simp [w1, w2])
 |(refine Split.by2 (fun h=>?_) (fun h=>?_)<;>(simp [h, w1, w2]))
 |(apply hK;clear hK K)|refine AWh ‹_› ?_)
      exact r1q (cE rfl rfl)
theorem c_LuJoins (n : NetD) (hn : n.ok) (a : PlanD) (ha : a.ok) (l : List PlanD) (hl : okPlans l) : PC 9 [.agg n.cells, .agg a.cells, vl PlanD.cells l] (.bool true) := by
  cases he : anyL (unlike a) l
  · exact c_LuJoinsOk n hn a ha l hl he
  · exact c_LuJoinsBad n hn a ha l hl he
end Go.Proofs.YtgmlimipejcpgaaGreatDoor
end
