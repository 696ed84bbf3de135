/-
  YtgmlimipejcpgaaGreatDoorAp01: steps of the proof of a law of the program: what these texts prove holds under the hypotheses that their theorems name, and no others.
-/
import Derived.Test.YtgmlimipejcpgaaGreatDoorAp00
import Derived.Test.YtgmlimipejcpgaaGreatDoorCo26
section
set_option linter.unusedSimpArgs false
set_option linter.unusedVariables false
namespace Go.Proofs.YtgmlimipejcpgaaGreatDoor
open Go Go.AM Fx
theorem c_Max1 (c : Int) : PC 80 [.int .u8 c] (.bool true) := by
  refine pB Tryz.func80 rfl (by decide) Tryz.ntmps80 (by simp) Tryz.results80 ?_
  repeat' (first
 |refine aK fun K hK=>?_|refine Step.by1 ?_|refine sE (by decide) ?_|refine cz rfl ?_|refine Fork.by2 (fun h=>?_) fun h=>?_
 |(refine aR ?_;simp)
 |(refine Split.by2 (fun h=>?_) (fun h=>?_)<;>(simp [h]))
 |(apply hK;clear hK K)|refine AWh ‹_› ?_)
  exact r1q (cE rfl rfl)
theorem c_Max (n : NetD) (hn : n.ok) (gs : List (List PartD)) (hgl : gs.length ≤ 1048576) (hgs : ∀ g ∈ gs, okGoal g) : PC 22 [.agg n.cells, gsV gs] (numV (numbE n (fun _ => true) gs)) := by
  have hc := c_numbers n hn 80 (fun _ => true) c_Max1 gs hgl hgs
  simp only [gsV, vl, NetD.cells] at hc
  cases h : numbE n (fun _ => true) gs with
  | none =>
    rw [h] at hc
    simp only [numV] at hc ⊢
    refine pB Tryz.func22 rfl (by decide) Tryz.ntmps22 (by simp) Tryz.results22 ?_
    repeat' (first
 |refine aK fun K hK=>?_|refine Step.by1 ?_|refine sE (by decide) ?_|refine cz rfl ?_|refine Fork.by2 (fun h=>?_) fun h=>?_
 |((first|refine aR ?_|refine aC (f:=79) rfl rfl (hc) rfl rfl rfl ?_);simp [gsV, vl, NetD.cells])
 |(refine Split.by2 (fun h=>?_) (fun h=>?_)<;>(simp [h, gsV, vl, NetD.cells]))
 |(apply hK;clear hK K)|refine AWh ‹_› ?_)
    exact r1q (cE rfl rfl)
  | some o =>
    rw [h] at hc
    simp only [numV] at hc ⊢
    refine pB Tryz.func22 rfl (by decide) Tryz.ntmps22 (by simp) Tryz.results22 ?_
    repeat' (first
 |refine aK fun K hK=>?_|refine Step.by1 ?_|refine sE (by decide) ?_|refine cz rfl ?_|refine Fork.by2 (fun h=>?_) fun h=>?_
 |((first|refine aR ?_|refine AS_callO (f:=79) rfl rfl (hc) rfl rfl ?_);simp [gsV, vl, NetD.cells])
 |(refine Split.by2 (fun h=>?_) (fun h=>?_)<;>(simp [h, gsV, vl, NetD.cells]))
 |(apply hK;clear hK K)|refine AWh ‹_› ?_)
    exact r1q (.inr (.inl (conv1_own rfl (by simp))))
theorem numb_len {n : NetD} {so : Int → Bool} {gs : List (List PartD)} {o : List Int} (h : numbE n so gs = some o) : o.length = n.clocks.length := by
  have key : ∀ (gs : List (List PartD)) (c o : List Int), numG n so gs c = some o → o.length = c.length := by
    intro gs
    induction gs with
    | nil => intro c o h; rw [numG_nil] at h; cases h; rfl
    | cons g r ih =>
      intro c o h
      rw [numG_cons] at h
      split at h
      · cases h
      · rw [ih _ _ h, raisePs_len]
  unfold numbE at h
  split at h
  · cases h
  · rw [key _ _ _ h, raiseL_len]; simp
def H3 (n : NetD) (lo up : List Int) : List B := [.var n.cells, .row 3 0 0 true (lo.map fun k => [V.int .i64 k]), .row 3 0 0 true (up.map fun k => [V.int .i64 k])]
set_option maxRecDepth 20000 in
set_option maxHeartbeats 8000000 in
theorem r_Raise (n : NetD) (l : List GuardD) (lo up : List Int) (hl : l.length ≤ 1048576) (hll : lo.length = n.clocks.length) (hul : up.length = n.clocks.length) (hN : n.clocks.length ≤ 1048576) (hg : ∀ g ∈ l, okG n.clocks.length g) :
    GCall Tryz.prog GV 161 [.ref 1 0 0 n.clocks.length, .ref 2 0 0 n.clocks.length, vl GuardD.cells l] (H3 n lo up) (fun v h' => v = .tup [] ∧ h' = H3 n (raiseL lowB l lo) (raiseL upB l up)) := by
  refine gB1 Tryz.func161 rfl (by decide) Tryz.ntmps161 (by simp) Tryz.results161 ?_
  repeat' (first
 |refine aK fun K hK=>?_|refine Step.by1 ?_|refine sE (by decide) ?_|refine cz rfl ?_|refine Fork.by2 (fun h=>?_) fun h=>?_
 |(refine aR ?_;simp [vl])
 |(refine Split.by2 (fun h=>?_) (fun h=>?_)<;>(simp [h, vl]))
 |(apply hK;clear hK K)|refine AWh ‹_› ?_)
  refine AW_range (r := (raiseL lowB l lo, raiseL upB l up)) l 6 [0, 1, 2] (fun s : List Int × List Int => []) (fun s => H3 n s.1 s.2) (fun i s => s.1.length = n.clocks.length ∧ s.2.length = n.clocks.length) raise2 (lo, up)
    rfl ⟨hll, hul⟩ (by apply Weak.mk' <;> simp [vl, NetD.cells, H3]) (fun _ _ _ => rfl) ?_ ?_
  · rintro i ⟨a, b⟩ x _ hlt hx ⟨ha, hb⟩ hF
    simp only at ha hb
    rw [raise2_cons] at hF
    obtain ⟨g1, g2⟩ := hg x (hx ▸ List.getElem_mem hlt)
    have hlt' : (i : Int) < l.length := by omega
    have w1 : IntKind.i64.wrap ((i : Int) + 1) = i + 1 := wI (by omega) (by omega)
    have w2 : IntKind.i64.wrap (x.clock - 1) = x.clock - 1 := wI (by omega) (by omega)
    obtain ⟨p, hp⟩ := Int.eq_ofNat_of_zero_le (show 0 ≤ x.clock - 1 by omega)
    have hpn : p < n.clocks.length := by omega
    have hpa : p < a.length := by omega
    have hpb : p < b.length := by omega
    have hpn' : (p : Int) < n.clocks.length := by omega
    have e1 : raise1 lowB a x = if lowB x.cmp = true ∧ a[p] < x.n then a.set p x.n else a := raise1_eq (by omega) hpa
    have e2 : raise1 upB b x = if upB x.cmp = true ∧ b[p] < x.n then b.set p x.n else b := raise1_eq (by omega) hpb
    rw [e1, e2] at hF
    obtain ⟨y, hy⟩ : ∃ y, a[p] = y := ⟨_, rfl⟩
    obtain ⟨z, hz⟩ : ∃ z, b[p] = z := ⟨_, rfl⟩
    rw [hy, hz] at hF
    rw [hp] at w2
    have hc1 := r_Above x
    have hc2 := r_Below x
    simp only [GuardD.cells] at hc1 hc2
    clear e1 e2
    cases hs : upB x.cmp <;> cases ht : lowB x.cmp <;> rw [hs] at hc1 hF <;> rw [ht] at hc2 hF <;> by_cases q1 : y < x.n <;> by_cases q2 : z < x.n <;> simp only [q1, q2, and_true, and_false, true_and, false_and, if_true, if_false, Bool.false_eq_true] at hF
    all_goals
      repeat' (first
 |refine aK fun K hK=>?_|refine Step.by1 ?_|refine sE (by decide) ?_|refine cz rfl ?_|refine Fork.by2 (fun h=>?_) fun h=>?_
 |((first|refine aR ?_|refine aX (id:=4) 17 mixed (by decide) ?_|refine aX (id:=6) 17 mixed (by decide) ?_|refine aP1 (f:=204) rfl rfl (hc1) rfl rfl rfl ?_|refine aP1 (f:=205) rfl rfl (hc2) rfl rfl rfl ?_);simp [vl, H3, GuardD.cells, NetD.cells, hlt, hlt', hx, w1, hp, w2, hpn, hpn', hpa, hpb, ha, hb, hy, hz, q1, q2])
 |(refine Split.by2 (fun h=>?_) (fun h=>?_)<;>(simp [h, vl, H3, GuardD.cells, NetD.cells, hlt, hlt', hx, w1, hp, w2, hpn, hpn', hpa, hpb, ha, hb, hy, hz, q1, q2]))
 |(apply hK;clear hK K)|refine AWh ‹_› ?_)
    all_goals
      refine ⟨_, _, hF, ⟨by simp [ha], by simp [hb]⟩, ?_⟩
      apply Weak.mk' <;> simp [vl, NetD.cells, H3]
  · rintro ⟨a, b⟩ ⟨ha, hb⟩ hF
    rw [raise2_nil] at hF
    cases hF
    repeat' (first
 |refine aK fun K hK=>?_|refine Step.by1 ?_|refine sE (by decide) ?_|refine cz rfl ?_|refine Fork.by2 (fun h=>?_) fun h=>?_
 |(refine aR ?_;simp [vl])
 |(refine Split.by2 (fun h=>?_) (fun h=>?_)<;>(simp [h, vl]))
 |(apply hK;clear hK K)|refine AWh ‹_› ?_)
    refine ⟨.inl rfl, _, _, ⟨[], rfl, trivial⟩, ⟨rfl, rfl⟩, rfl, ?_⟩
    have := Go.AM.Leaves.tail (a := H3 n lo up) (a' := H3 n (raiseL lowB l lo) (raiseL upB l up)) (e := []) (x := []) rfl (by simp [H3, NetD.cells, vl])
    simpa using this
def r2Ls (l : List LocD) (s : List Int × List Int) : List Int × List Int := raise2 (l.flatMap (·.inv)) s
def r2Es (l : List EdgeD) (s : List Int × List Int) : List Int × List Int := raise2 (l.flatMap (·.guards)) s
def r2As (l : List AutoD) (s : List Int × List Int) : List Int × List Int := raise2 (l.flatMap guardsA) s
def r2Ps (l : List PartD) (s : List Int × List Int) : List Int × List Int := raise2 (l.flatMap (·.guards)) s
theorem r2Ls_nil {s : List Int × List Int} : r2Ls [] s = s := rfl
theorem r2Es_nil {s : List Int × List Int} : r2Es [] s = s := rfl
theorem r2As_nil {s : List Int × List Int} : r2As [] s = s := rfl
theorem r2Ps_nil {s : List Int × List Int} : r2Ps [] s = s := rfl
theorem r2Ls_cons {x : LocD} {l : List LocD} {s : List Int × List Int} : r2Ls (x :: l) s = r2Ls l (raise2 x.inv s) := by simp only [r2Ls, List.flatMap_cons, raise2_append]
theorem r2Es_cons {x : EdgeD} {l : List EdgeD} {s : List Int × List Int} : r2Es (x :: l) s = r2Es l (raise2 x.guards s) := by simp only [r2Es, List.flatMap_cons, raise2_append]
theorem r2Ps_cons {x : PartD} {l : List PartD} {s : List Int × List Int} : r2Ps (x :: l) s = r2Ps l (raise2 x.guards s) := by simp only [r2Ps, List.flatMap_cons, raise2_append]
theorem r2As_cons {a : AutoD} {l : List AutoD} {s : List Int × List Int} : r2As (a :: l) s = r2As l (r2Es a.edges (r2Ls a.locs s)) := by simp only [r2As, r2Es, r2Ls, List.flatMap_cons, raise2_append, guardsA]
def numR (n : NetD) : List (List PartD) → List Int × List Int → Option (List Int × List Int)
  | [], s => some s
  | g :: r, s => if goalE n g ≠ 0 then none else numR n r (r2Ps g s)
theorem numR_nil {n : NetD} {s : List Int × List Int} : numR n [] s = some s := rfl
theorem numR_cons {n : NetD} {g : List PartD} {r : List (List PartD)} {s : List Int × List Int} : numR n (g :: r) s = if goalE n g ≠ 0 then none else numR n r (r2Ps g s) := rfl
def numbR (n : NetD) (gs : List (List PartD)) : Option (List Int × List Int) :=
  if netE n ≠ 0 then none else numR n gs (r2As n.autos (List.replicate n.clocks.length (-1), List.replicate n.clocks.length (-1)))
def refV : Option (List Int × List Int) → V
  | none => .tup [.nils, .nils, .bool false]
  | some s => .tup [.own 3 (s.1.map fun k => [V.int .i64 k]), .own 3 (s.2.map fun k => [V.int .i64 k]), .bool true]
theorem refBlk_F {v : V} (h : v.isF = true) : v.refBlk = none := by cases v <;> first | rfl | (simp [V.isF] at h)
theorem conv_own2b {h : List B} {b c g g' m m' : Nat} {T T' : TypeId} {xs ys : List (List V)} {v : V} (hb : h[b]? = some (.row T g 0 true xs)) (hc : h[c]? = some (.row T' g' 0 true ys)) (hm : m = xs.length) (hm' : m' = ys.length) (hne : b ≠ c) (hv : v.isF = true) :
    Conv h (.tup [.ref b g 0 m, .ref c g' 0 m', v]) (.tup [.own T xs, .own T' ys, v]) := by
  subst hm; subst hm'
  refine .inr (.inr ⟨_, _, rfl, rfl, rfl, fun i u s hu hs => ?_, fun i j u u' q hu hu' e e' => ?_⟩)
  · rcases i with _ | _ | _ | i
    · cases hu; cases hs; exact .inr ⟨b, g, T, xs, rfl, hb, rfl⟩
    · cases hu; cases hs; exact .inr ⟨c, g', T', ys, rfl, hc, rfl⟩
    · cases hu; cases hs; exact .inl ⟨hv, rfl⟩
    · simp at hu
  · have hn := refBlk_F hv
    rcases i with _ | _ | _ | i <;> rcases j with _ | _ | _ | j <;> simp at hu hu' <;> subst hu <;> subst hu' <;> simp_all [V.refBlk]
set_option maxRecDepth 20000 in
set_option maxHeartbeats 16000000 in
theorem r_nums (n : NetD) (hn : n.ok) (gs : List (List PartD)) (hgl : gs.length ≤ 1048576) (hgs : ∀ g ∈ gs, okGoal g) : PC 83 [.agg n.cells, gsV gs] (refV (numbR n gs)) := by
  have hN := r_Net n hn
  have hcl : n.clocks.length ≤ 1048576 := hn.1.1
  have h0 := r_None n hcl
  obtain ⟨r, hr⟩ : ∃ r, numbR n gs = r := ⟨_, rfl⟩
  rw [hr]
  unfold numbR at hr
  simp only [vl, NetD.cells] at hN h0
  refine pB Tryz.func83 rfl (by decide) Tryz.ntmps83 (by simp) Tryz.results83 ?_
  by_cases hz : netE n = 0
  · rw [if_neg (by simp [hz])] at hr
    rw [hz] at hN
    have hgd := whole_guards (netE_whole hz)
    have hgdl : ∀ a ∈ n.autos, ∀ x ∈ a.locs, ∀ g ∈ x.inv, okG n.clocks.length g := fun a ha x hx g h => hgd g (by
      unfold guardsL guardsA
      simp only [List.mem_flatMap, List.mem_append]
      exact ⟨a, ha, .inl ⟨x, hx, h⟩⟩)
    have hgde : ∀ a ∈ n.autos, ∀ x ∈ a.edges, ∀ g ∈ x.guards, okG n.clocks.length g := fun a ha x hx g h => hgd g (by
      unfold guardsL guardsA
      simp only [List.mem_flatMap, List.mem_append]
      exact ⟨a, ha, .inr ⟨x, hx, h⟩⟩)
    clear hgd
    obtain ⟨_, _, _, hal, hao⟩ := hn
    obtain ⟨s1, hs1⟩ : ∃ s1, r2As n.autos (List.replicate n.clocks.length (-1), List.replicate n.clocks.length (-1)) = s1 := ⟨_, rfl⟩
    rw [hs1] at hr
    repeat' (first
 |refine aK fun K hK=>?_|refine Step.by1 ?_|refine sE (by decide) ?_|refine cz rfl ?_|refine Fork.by2 (fun h=>?_) fun h=>?_
 |((first|refine aR ?_|refine aC (f:=16) rfl rfl (hN) rfl rfl rfl ?_|refine AS_callO (f:=160) rfl rfl (h0) rfl rfl ?_);simp [gsV, vl, NetD.cells])
 |(refine Split.by2 (fun h=>?_) (fun h=>?_)<;>(simp [h, gsV, vl, NetD.cells]))
 |(apply hK;clear hK K)|refine AWh ‹_› ?_)
    refine AW_range (r := s1) n.autos 9 [1, 2, 7, 8] (fun s : List Int × List Int => []) (fun s => H3 n s.1 s.2) (fun i s => s.1.length = n.clocks.length ∧ s.2.length = n.clocks.length) r2As (List.replicate n.clocks.length (-1), List.replicate n.clocks.length (-1))
      hs1 (by simp) (by apply Weak.mk' <;> simp [vl, NetD.cells, H3]) (fun _ _ _ => rfl) ?_ ?_
    · rintro i ⟨a1, b1⟩ x _ hlt hx ⟨ha, hb⟩ hF
      simp only at ha hb
      rw [r2As_cons] at hF
      have hxm : x ∈ n.autos := hx ▸ List.getElem_mem hlt
      obtain ⟨_, hxl, hxe⟩ := hao x hxm
      have hlt' : (i : Int) < n.autos.length := by omega
      have w1 : IntKind.i64.wrap ((i : Int) + 1) = i + 1 := wI (by omega) (by omega)
      obtain ⟨s2, hs2⟩ : ∃ s2, r2Ls x.locs (a1, b1) = s2 := ⟨_, rfl⟩
      rw [hs2] at hF
      repeat' (first
 |refine aK fun K hK=>?_|refine Step.by1 ?_|refine sE (by decide) ?_|refine cz rfl ?_|refine Fork.by2 (fun h=>?_) fun h=>?_
 |(refine aR ?_;simp [gsV, vl, NetD.cells, AutoD.cells, H3, hlt, hlt', hx])
 |(refine Split.by2 (fun h=>?_) (fun h=>?_)<;>(simp [h, gsV, vl, NetD.cells, AutoD.cells, H3, hlt, hlt', hx]))
 |(apply hK;clear hK K)|refine AWh ‹_› ?_)
      refine AW_range (r := s2) x.locs 10 [1, 2, 7, 8, 9] (fun s : List Int × List Int => []) (fun s => H3 n s.1 s.2) (fun i s => s.1.length = n.clocks.length ∧ s.2.length = n.clocks.length) r2Ls (a1, b1)
        hs2 ⟨ha, hb⟩ (by apply Weak.mk' <;> simp [vl, NetD.cells, H3]) (fun _ _ _ => rfl) ?_ ?_
      · rintro k ⟨a2, b2⟩ y _ hkt hy ⟨ha2, hb2⟩ hG
        simp only at ha2 hb2
        rw [r2Ls_cons] at hG
        have hym : y ∈ x.locs := hy ▸ List.getElem_mem hkt
        have hR := r_Raise n y.inv a2 b2 (hxl.2 y hym).2.2.1 ha2 hb2 hcl (hgdl x hxm y hym)
        have hl1 : (raiseL lowB y.inv a2).length = n.clocks.length := by rw [raiseL_len, ha2]
        have hl2 : (raiseL upB y.inv b2).length = n.clocks.length := by rw [raiseL_len, hb2]
        unfold raise2 at hG
        simp only at hG
        generalize raiseL lowB y.inv a2 = a3 at *
        generalize raiseL upB y.inv b2 = b3 at *
        have hkt' : (k : Int) < x.locs.length := by omega
        have w2 : IntKind.i64.wrap ((k : Int) + 1) = k + 1 := wI (by omega) (by omega)
        repeat' (first
 |refine aK fun K hK=>?_|refine Step.by1 ?_|refine sE (by decide) ?_|refine cz rfl ?_|refine Fork.by2 (fun h=>?_) fun h=>?_
 |(refine aR ?_;simp [gsV, vl, NetD.cells, AutoD.cells, LocD.cells, H3, hlt, hlt', hx, hkt, hkt', hy, w2])
 |(refine Split.by2 (fun h=>?_) (fun h=>?_)<;>(simp [h, gsV, vl, NetD.cells, AutoD.cells, LocD.cells, H3, hlt, hlt', hx, hkt, hkt', hy, w2]))
 |(refine aG (f:=161) rfl rfl (hR.imp (by simp [vl]) (by simp [H3, NetD.cells, vl])) rfl (fun v h' hq=>?_);obtain ⟨rfl,rfl⟩:=hq;simp [gsV, vl, NetD.cells, AutoD.cells, LocD.cells, H3, hlt, hlt', hx, hkt, hkt', hy, w2])
 |(apply hK;clear hK K)|refine AWh ‹_› ?_)
        refine ⟨a3, b3, hG, ⟨hl1, hl2⟩, ?_⟩
        apply Weak.mk' <;> simp [vl, NetD.cells, H3]
      · rintro ⟨a2, b2⟩ ⟨ha2, hb2⟩ hG
        simp only at ha2 hb2
        rw [r2Ls_nil] at hG
        subst hG
        obtain ⟨s3, hs3⟩ : ∃ s3, r2Es x.edges (a2, b2) = s3 := ⟨_, rfl⟩
        rw [hs3] at hF
        clear hs2
        repeat' (first
 |refine aK fun K hK=>?_|refine Step.by1 ?_|refine sE (by decide) ?_|refine cz rfl ?_|refine Fork.by2 (fun h=>?_) fun h=>?_
 |(refine aR ?_;simp [gsV, vl, NetD.cells, AutoD.cells, H3, hlt, hlt', hx])
 |(refine Split.by2 (fun h=>?_) (fun h=>?_)<;>(simp [h, gsV, vl, NetD.cells, AutoD.cells, H3, hlt, hlt', hx]))
 |(apply hK;clear hK K)|refine AWh ‹_› ?_)
        refine AW_range (r := s3) x.edges 11 [1, 2, 7, 8, 9] (fun s : List Int × List Int => []) (fun s => H3 n s.1 s.2) (fun i s => s.1.length = n.clocks.length ∧ s.2.length = n.clocks.length) r2Es (a2, b2)
          hs3 ⟨ha2, hb2⟩ (by apply Weak.mk' <;> simp [vl, NetD.cells, H3]) (fun _ _ _ => rfl) ?_ ?_
        · rintro k ⟨a4, b4⟩ y _ hkt hy ⟨ha4, hb4⟩ hG
          simp only at ha4 hb4
          rw [r2Es_cons] at hG
          have hym : y ∈ x.edges := hy ▸ List.getElem_mem hkt
          have hR := r_Raise n y.guards a4 b4 (hxe.2 y hym).2.2.1.1 ha4 hb4 hcl (hgde x hxm y hym)
          have hl1 : (raiseL lowB y.guards a4).length = n.clocks.length := by rw [raiseL_len, ha4]
          have hl2 : (raiseL upB y.guards b4).length = n.clocks.length := by rw [raiseL_len, hb4]
          unfold raise2 at hG
          simp only at hG
          generalize raiseL lowB y.guards a4 = a3 at *
          generalize raiseL upB y.guards b4 = b3 at *
          have hkt' : (k : Int) < x.edges.length := by omega
          have w2 : IntKind.i64.wrap ((k : Int) + 1) = k + 1 := wI (by omega) (by omega)
          repeat' (first
 |refine aK fun K hK=>?_|refine Step.by1 ?_|refine sE (by decide) ?_|refine cz rfl ?_|refine Fork.by2 (fun h=>?_) fun h=>?_
 |(refine aR ?_;simp [gsV, vl, NetD.cells, AutoD.cells, EdgeD.cells, H3, hlt, hlt', hx, hkt, hkt', hy, w2])
 |(refine Split.by2 (fun h=>?_) (fun h=>?_)<;>(simp [h, gsV, vl, NetD.cells, AutoD.cells, EdgeD.cells, H3, hlt, hlt', hx, hkt, hkt', hy, w2]))
 |(refine aG (f:=161) rfl rfl (hR.imp (by simp [vl]) (by simp [H3, NetD.cells, vl])) rfl (fun v h' hq=>?_);obtain ⟨rfl,rfl⟩:=hq;simp [gsV, vl, NetD.cells, AutoD.cells, EdgeD.cells, H3, hlt, hlt', hx, hkt, hkt', hy, w2])
 |(apply hK;clear hK K)|refine AWh ‹_› ?_)
          refine ⟨a3, b3, hG, ⟨hl1, hl2⟩, ?_⟩
          apply Weak.mk' <;> simp [vl, NetD.cells, H3]
        · rintro ⟨a4, b4⟩ ⟨ha4, hb4⟩ hG
          simp only at ha4 hb4
          rw [r2Es_nil] at hG
          subst hG
          repeat' (first
 |refine aK fun K hK=>?_|refine Step.by1 ?_|refine sE (by decide) ?_|refine cz rfl ?_|refine Fork.by2 (fun h=>?_) fun h=>?_
 |(refine aR ?_;simp [gsV, vl, NetD.cells, AutoD.cells, H3, hlt, hlt', hx, w1])
 |(refine Split.by2 (fun h=>?_) (fun h=>?_)<;>(simp [h, gsV, vl, NetD.cells, AutoD.cells, H3, hlt, hlt', hx, w1]))
 |(apply hK;clear hK K)|refine AWh ‹_› ?_)
          refine ⟨a4, b4, hF, ⟨ha4, hb4⟩, ?_⟩
          apply Weak.mk' <;> simp [vl, NetD.cells, H3]
    · rintro ⟨a1, b1⟩ ⟨ha, hb⟩ hF
      simp only at ha hb
      rw [r2As_nil] at hF
      subst hF
      clear hs1
      repeat' (first
 |refine aK fun K hK=>?_|refine Step.by1 ?_|refine sE (by decide) ?_|refine cz rfl ?_|refine Fork.by2 (fun h=>?_) fun h=>?_
 |(refine aR ?_;simp [gsV, vl, NetD.cells, H3])
 |(refine Split.by2 (fun h=>?_) (fun h=>?_)<;>(simp [h, gsV, vl, NetD.cells, H3]))
 |(apply hK;clear hK K)|refine AWh ‹_› ?_)
      refine AW_range (r := r) gs 12 [1, 2, 7, 8] (fun s : List Int × List Int => []) (fun s => H3 n s.1 s.2) (fun i s => s.1.length = n.clocks.length ∧ s.2.length = n.clocks.length) (numR n) (a1, b1)
        hr ⟨ha, hb⟩ (by apply Weak.mk' <;> simp [vl, NetD.cells, H3]) (fun _ _ _ => rfl) ?_ ?_
      · rintro k ⟨a2, b2⟩ g _ hkt hg ⟨ha2, hb2⟩ hF
        simp only at ha2 hb2
        rw [numR_cons] at hF
        have hgo := hgs g (hg ▸ List.getElem_mem hkt)
        have hc := r_Goal n ⟨by assumption, by assumption, by assumption, hal, hao⟩ g hgo
        obtain ⟨hg1, hg2⟩ := hgo
        have hgg := goal_guards (n := n) (g := g)
        have hkt' : (k : Int) < gs.length := by omega
        have w1 : IntKind.i64.wrap ((k : Int) + 1) = k + 1 := wI (by omega) (by omega)
        simp only [vl, NetD.cells] at hc
        generalize goalE n g = ge at *
        by_cases hge : ge = 0
        · rw [if_neg (by simp [hge])] at hF
          rw [hge] at hc
          have hgg := hgg hge
          obtain ⟨s2, hs2⟩ : ∃ s2, r2Ps g (a2, b2) = s2 := ⟨_, rfl⟩
          rw [hs2] at hF
          repeat' (first
 |refine aK fun K hK=>?_|refine Step.by1 ?_|refine sE (by decide) ?_|refine cz rfl ?_|refine Fork.by2 (fun h=>?_) fun h=>?_
 |((first|refine aR ?_|refine aX (id:=19) 7 mixed (by decide) ?_|refine aP1 (f:=20) rfl rfl (hc) rfl rfl rfl ?_);simp [gsV, vl, NetD.cells, H3, hkt, hkt', hg])
 |(refine Split.by2 (fun h=>?_) (fun h=>?_)<;>(simp [h, gsV, vl, NetD.cells, H3, hkt, hkt', hg]))
 |(apply hK;clear hK K)|refine AWh ‹_› ?_)
          refine AW_range (r := s2) g 13 [1, 2, 7, 8, 12] (fun s : List Int × List Int => []) (fun s => H3 n s.1 s.2) (fun i s => s.1.length = n.clocks.length ∧ s.2.length = n.clocks.length) r2Ps (a2, b2)
            hs2 ⟨ha2, hb2⟩ (by apply Weak.mk' <;> simp [vl, NetD.cells, H3]) (fun _ _ _ => rfl) ?_ ?_
          · rintro m ⟨a4, b4⟩ y _ hmt hy ⟨ha4, hb4⟩ hG
            simp only at ha4 hb4
            rw [r2Ps_cons] at hG
            have hym : y ∈ g := hy ▸ List.getElem_mem hmt
            have hR := r_Raise n y.guards a4 b4 (hg2 y hym).2.1.1 ha4 hb4 hcl (hgg y hym)
            have hl1 : (raiseL lowB y.guards a4).length = n.clocks.length := by rw [raiseL_len, ha4]
            have hl2 : (raiseL upB y.guards b4).length = n.clocks.length := by rw [raiseL_len, hb4]
            unfold raise2 at hG
            simp only at hG
            generalize raiseL lowB y.guards a4 = a3 at *
            generalize raiseL upB y.guards b4 = b3 at *
            have hmt' : (m : Int) < g.length := by omega
            have w2 : IntKind.i64.wrap ((m : Int) + 1) = m + 1 := wI (by omega) (by omega)
            repeat' (first
 |refine aK fun K hK=>?_|refine Step.by1 ?_|refine sE (by decide) ?_|refine cz rfl ?_|refine Fork.by2 (fun h=>?_) fun h=>?_
 |(refine aR ?_;simp [gsV, vl, NetD.cells, PartD.cells, H3, hkt, hkt', hg, hmt, hmt', hy, w2])
 |(refine Split.by2 (fun h=>?_) (fun h=>?_)<;>(simp [h, gsV, vl, NetD.cells, PartD.cells, H3, hkt, hkt', hg, hmt, hmt', hy, w2]))
 |(refine aG (f:=161) rfl rfl (hR.imp (by simp [vl]) (by simp [H3, NetD.cells, vl])) rfl (fun v h' hq=>?_);obtain ⟨rfl,rfl⟩:=hq;simp [gsV, vl, NetD.cells, PartD.cells, H3, hkt, hkt', hg, hmt, hmt', hy, w2])
 |(apply hK;clear hK K)|refine AWh ‹_› ?_)
            refine ⟨a3, b3, hG, ⟨hl1, hl2⟩, ?_⟩
            apply Weak.mk' <;> simp [vl, NetD.cells, H3]
          · rintro ⟨a4, b4⟩ ⟨ha4, hb4⟩ hG
            simp only at ha4 hb4
            rw [r2Ps_nil] at hG
            subst hG
            repeat' (first
 |refine aK fun K hK=>?_|refine Step.by1 ?_|refine sE (by decide) ?_|refine cz rfl ?_|refine Fork.by2 (fun h=>?_) fun h=>?_
 |(refine aR ?_;simp [gsV, vl, NetD.cells, H3, hkt, hkt', hg, w1])
 |(refine Split.by2 (fun h=>?_) (fun h=>?_)<;>(simp [h, gsV, vl, NetD.cells, H3, hkt, hkt', hg, w1]))
 |(apply hK;clear hK K)|refine AWh ‹_› ?_)
            refine ⟨a4, b4, hF, ⟨ha4, hb4⟩, ?_⟩
            apply Weak.mk' <;> simp [vl, NetD.cells, H3]
        · rw [if_pos hge] at hF
          subst hF
          repeat' (first
 |refine aK fun K hK=>?_|refine Step.by1 ?_|refine sE (by decide) ?_|refine cz rfl ?_|refine Fork.by2 (fun h=>?_) fun h=>?_
 |((first|refine aR ?_|refine aX (id:=19) 7 mixed (by decide) ?_|refine aP1 (f:=20) rfl rfl (hc) rfl rfl rfl ?_);simp [gsV, vl, NetD.cells, H3, hkt, hkt', hg, hge])
 |(refine Split.by2 (fun h=>?_) (fun h=>?_)<;>(simp [h, gsV, vl, NetD.cells, H3, hkt, hkt', hg, hge]))
 |(apply hK;clear hK K)|refine AWh ‹_› ?_)
          exact retq3 (cE rfl rfl)
      · rintro ⟨a2, b2⟩ ⟨ha2, hb2⟩ hF
        simp only at ha2 hb2
        rw [numR_nil] at hF
        subst hF
        repeat' (first
 |refine aK fun K hK=>?_|refine Step.by1 ?_|refine sE (by decide) ?_|refine cz rfl ?_|refine Fork.by2 (fun h=>?_) fun h=>?_
 |(refine aR ?_;simp [gsV, vl, NetD.cells, H3, refV])
 |(refine Split.by2 (fun h=>?_) (fun h=>?_)<;>(simp [h, gsV, vl, NetD.cells, H3, refV]))
 |(apply hK;clear hK K)|refine AWh ‹_› ?_)
        exact retq3 (conv_own2b rfl rfl (by simp [ha2]) (by simp [hb2]) (by decide) rfl)
  · rw [if_pos hz] at hr
    subst hr
    repeat' (first
 |refine aK fun K hK=>?_|refine Step.by1 ?_|refine sE (by decide) ?_|refine cz rfl ?_|refine Fork.by2 (fun h=>?_) fun h=>?_
 |((first|refine aR ?_|refine aC (f:=16) rfl rfl (hN) rfl rfl rfl ?_);simp [gsV, vl, NetD.cells, hz])
 |(refine Split.by2 (fun h=>?_) (fun h=>?_)<;>(simp [h, gsV, vl, NetD.cells, hz]))
 |(apply hK;clear hK K)|refine AWh ‹_› ?_)
    exact retq3 (cE rfl rfl)
end Go.Proofs.YtgmlimipejcpgaaGreatDoor
end
