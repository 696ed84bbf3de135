/-
  YtgmlimipejcpgaaGreatDoorPart15: steps of the proof of a law of the program: what these texts prove holds under the hypotheses that their theorems name, and no others.
-/
import Derived.Test.YtgmlimipejcpgaaGreatDoorPart13
import Derived.Test.YtgmlimipejcpgaaGreatDoorPart14
section
set_option linter.unusedVariables false
set_option linter.unusedSimpArgs false
namespace Go.Proofs.YtgmlimipejcpgaaGreatDoor
open Go Go.AM Fx
/-! The reference's numbers, whole. -/
theorem raise2_append {l m : List GuardD} {s : List Int × List Int} : raise2 (l ++ m) s = raise2 m (raise2 l s) := by simp only [raise2, raiseL_append]
theorem raise2_len {l : List GuardD} {s : List Int × List Int} : (raise2 l s).1.length = s.1.length ∧ (raise2 l s).2.length = s.2.length := ⟨raiseL_len, raiseL_len⟩
def r2Ls (l : List LocD) (s : List Int × List Int) : List Int × List Int := raise2 (l.flatMap (·.inv)) s
def r2Es (l : List EdgeD) (s : List Int × List Int) : List Int × List Int := raise2 (l.flatMap (·.guards)) s
def r2As (l : List AutoD) (s : List Int × List Int) : List Int × List Int := raise2 (l.flatMap guardsA) s
def r2Ps (l : List PartD) (s : List Int × List Int) : List Int × List Int := raise2 (l.flatMap (·.guards)) s
theorem r2Ls_nil {s : List Int × List Int} : r2Ls [] s = s := rfl
theorem r2Es_nil {s : List Int × List Int} : r2Es [] s = s := rfl
theorem r2As_nil {s : List Int × List Int} : r2As [] s = s := rfl
theorem r2Ps_nil {s : List Int × List Int} : r2Ps [] s = s := rfl
theorem r2Ls_cons {x : LocD} {l : List LocD} {s : List Int × List Int} : r2Ls (x :: l) s = r2Ls l (raise2 x.inv s) := by simp only [r2Ls, List.flatMap_cons, raise2_append]
theorem r2Es_cons {x : EdgeD} {l : List EdgeD} {s : List Int × List Int} : r2Es (x :: l) s = r2Es l (raise2 x.guards s) := by simp only [r2Es, List.flatMap_cons, raise2_append]
theorem r2Ps_cons {x : PartD} {l : List PartD} {s : List Int × List Int} : r2Ps (x :: l) s = r2Ps l (raise2 x.guards s) := by simp only [r2Ps, List.flatMap_cons, raise2_append]
theorem r2As_cons {a : AutoD} {l : List AutoD} {s : List Int × List Int} : r2As (a :: l) s = r2As l (r2Es a.edges (r2Ls a.locs s)) := by simp only [r2As, r2Es, r2Ls, List.flatMap_cons, raise2_append, guardsA]
def numR (n : NetD) : List (List PartD) → List Int × List Int → Option (List Int × List Int)
  | [], s => some s
  | g :: r, s => if goalE n g ≠ 0 then none else numR n r (r2Ps g s)
theorem numR_nil {n : NetD} {s : List Int × List Int} : numR n [] s = some s := rfl
theorem numR_cons {n : NetD} {g : List PartD} {r : List (List PartD)} {s : List Int × List Int} : numR n (g :: r) s = if goalE n g ≠ 0 then none else numR n r (r2Ps g s) := rfl
def numbR (n : NetD) (gs : List (List PartD)) : Option (List Int × List Int) :=
  if netE n ≠ 0 then none else numR n gs (r2As n.autos (List.replicate n.clocks.length (-1), List.replicate n.clocks.length (-1)))
def refV : Option (List Int × List Int) → V
  | none => .tup [.nils, .nils, .bool false]
  | some s => .tup [.own 3 (s.1.map fun k => [V.int .i64 k]), .own 3 (s.2.map fun k => [V.int .i64 k]), .bool true]
theorem refBlk_F {v : V} (h : v.isF = true) : v.refBlk = none := by cases v <;> first | rfl | (simp [V.isF] at h)
theorem conv_own2b {h : List B} {b c g g' m m' : Nat} {T T' : TypeId} {xs ys : List (List V)} {v : V} (hb : h[b]? = some (.row T g 0 true xs)) (hc : h[c]? = some (.row T' g' 0 true ys)) (hm : m = xs.length) (hm' : m' = ys.length) (hne : b ≠ c) (hv : v.isF = true) :
    Conv h (.tup [.ref b g 0 m, .ref c g' 0 m', v]) (.tup [.own T xs, .own T' ys, v]) := by
  subst hm; subst hm'
  refine .inr (.inr ⟨_, _, rfl, rfl, rfl, fun i u s hu hs => ?_, fun i j u u' q hu hu' e e' => ?_⟩)
  · rcases i with _ | _ | _ | i
    · cases hu; cases hs; exact .inr ⟨b, g, T, xs, rfl, hb, rfl⟩
    · cases hu; cases hs; exact .inr ⟨c, g', T', ys, rfl, hc, rfl⟩
    · cases hu; cases hs; exact .inl ⟨hv, rfl⟩
    · simp at hu
  · have hn := refBlk_F hv
    rcases i with _ | _ | _ | i <;> rcases j with _ | _ | _ | j <;> simp at hu hu' <;> subst hu <;> subst hu' <;> simp_all [V.refBlk]
set_option maxRecDepth 20000 in
set_option maxHeartbeats 16000000 in
theorem r_nums (n : NetD) (hn : n.ok) (gs : List (List PartD)) (hgl : gs.length ≤ 1048576) (hgs : ∀ g ∈ gs, okGoal g) : PC 83 [.agg n.cells, gsV gs] (refV (numbR n gs)) := by
  have hN := r_Net n hn
  have hcl : n.clocks.length ≤ 1048576 := hn.1.1
  have h0 := r_None n hcl
  obtain ⟨r, hr⟩ : ∃ r, numbR n gs = r := ⟨_, rfl⟩
  rw [hr]
  unfold numbR at hr
  simp only [vl, NetD.cells] at hN h0
  refine PCall_body Tryz.func83 rfl (by decide) Tryz.ntmps83 (by simp) Tryz.results83 ?_
  by_cases hz : netE n = 0
  · rw [if_neg (by simp [hz])] at hr
    rw [hz] at hN
    have hgd := whole_guards (netE_whole hz)
    have hgdl : ∀ a ∈ n.autos, ∀ x ∈ a.locs, ∀ g ∈ x.inv, okG n.clocks.length g := fun a ha x hx g h => hgd g (by
      unfold guardsL guardsA
      simp only [List.mem_flatMap, List.mem_append]
      exact ⟨a, ha, .inl ⟨x, hx, h⟩⟩)
    have hgde : ∀ a ∈ n.autos, ∀ x ∈ a.edges, ∀ g ∈ x.guards, okG n.clocks.length g := fun a ha x hx g h => hgd g (by
      unfold guardsL guardsA
      simp only [List.mem_flatMap, List.mem_append]
      exact ⟨a, ha, .inr ⟨x, hx, h⟩⟩)
    clear hgd
    obtain ⟨_, _, _, hal, hao⟩ := hn
    obtain ⟨s1, hs1⟩ : ∃ s1, r2As n.autos (List.replicate n.clocks.length (-1), List.replicate n.clocks.length (-1)) = s1 := ⟨_, rfl⟩
    rw [hs1] at hr
    repeat' (first
    |refine AW_seq_k fun K hK=>?_|refine Step.by1 ?_|refine SBlock_exit_ne (by decide) ?_
    |((first|refine AW_region_AO ?_|refine AS_call1 (f:=16) rfl rfl (hN) rfl rfl rfl ?_|refine AS_callO (f:=160) rfl rfl (h0) rfl rfl ?_);simp [gsV, vl, NetD.cells])
    |(refine Split.by2 (fun h=>?_) (fun h=>?_)<;>(simp [h, gsV, vl, NetD.cells]))
    |refine ct rfl ?_|refine cf rfl ?_|refine cnd rfl (fun h=>?_) (fun h=>?_)|refine cd rfl (fun h=>?_) (fun h=>?_)|refine cn rfl (fun h=>?_) (fun h=>?_)|refine cc rfl (fun h=>?_) (fun h=>?_)
    |(apply hK;clear hK K)|(refine AWh (by assumption) ?_))
    refine AW_range (r := s1) n.autos 9 [1, 2, 7, 8] (fun s : List Int × List Int => []) (fun s => H3 n s.1 s.2) (fun i s => s.1.length = n.clocks.length ∧ s.2.length = n.clocks.length) r2As (List.replicate n.clocks.length (-1), List.replicate n.clocks.length (-1))
      hs1 (by simp) (by apply Weak.mk' <;> simp [vl, NetD.cells, H3]) (fun _ _ _ => rfl) ?_ ?_
    · rintro i ⟨a1, b1⟩ x _ hlt hx ⟨ha, hb⟩ hF
      simp only at ha hb
      rw [r2As_cons] at hF
      have hxm : x ∈ n.autos := hx ▸ List.getElem_mem hlt
      obtain ⟨_, hxl, hxe⟩ := hao x hxm
      have hlt' : (i : Int) < n.autos.length := by omega
      have w1 : IntKind.i64.wrap ((i : Int) + 1) = i + 1 := wrap_i64 (by omega) (by omega)
      obtain ⟨s2, hs2⟩ : ∃ s2, r2Ls x.locs (a1, b1) = s2 := ⟨_, rfl⟩
      rw [hs2] at hF
      repeat' (first
    |refine AW_seq_k fun K hK=>?_|refine Step.by1 ?_|refine SBlock_exit_ne (by decide) ?_
    |((first|refine AW_region_AO ?_);simp [gsV, vl, NetD.cells, AutoD.cells, H3, hlt, hlt', hx])
    |(refine Split.by2 (fun h=>?_) (fun h=>?_)<;>(simp [h, gsV, vl, NetD.cells, AutoD.cells, H3, hlt, hlt', hx]))
    |refine ct rfl ?_|refine cf rfl ?_|refine cnd rfl (fun h=>?_) (fun h=>?_)|refine cd rfl (fun h=>?_) (fun h=>?_)|refine cn rfl (fun h=>?_) (fun h=>?_)|refine cc rfl (fun h=>?_) (fun h=>?_)
    |(apply hK;clear hK K)|(refine AWh (by assumption) ?_))
      refine AW_range (r := s2) x.locs 10 [1, 2, 7, 8, 9] (fun s : List Int × List Int => []) (fun s => H3 n s.1 s.2) (fun i s => s.1.length = n.clocks.length ∧ s.2.length = n.clocks.length) r2Ls (a1, b1)
        hs2 ⟨ha, hb⟩ (by apply Weak.mk' <;> simp [vl, NetD.cells, H3]) (fun _ _ _ => rfl) ?_ ?_
      · rintro k ⟨a2, b2⟩ y _ hkt hy ⟨ha2, hb2⟩ hG
        simp only at ha2 hb2
        rw [r2Ls_cons] at hG
        have hym : y ∈ x.locs := hy ▸ List.getElem_mem hkt
        have hR := r_Raise n y.inv a2 b2 (hxl.2 y hym).2.2.1 ha2 hb2 hcl (hgdl x hxm y hym)
        have hl1 : (raiseL lowB y.inv a2).length = n.clocks.length := by rw [raiseL_len, ha2]
        have hl2 : (raiseL upB y.inv b2).length = n.clocks.length := by rw [raiseL_len, hb2]
        unfold raise2 at hG
        simp only at hG
        generalize raiseL lowB y.inv a2 = a3 at *
        generalize raiseL upB y.inv b2 = b3 at *
        have hkt' : (k : Int) < x.locs.length := by omega
        have w2 : IntKind.i64.wrap ((k : Int) + 1) = k + 1 := wrap_i64 (by omega) (by omega)
        repeat' (first
    |refine AW_seq_k fun K hK=>?_|refine Step.by1 ?_|refine SBlock_exit_ne (by decide) ?_
    |((first|refine AW_region_AO ?_);simp [gsV, vl, NetD.cells, AutoD.cells, LocD.cells, H3, hlt, hlt', hx, hkt, hkt', hy, w2])
    |(refine Split.by2 (fun h=>?_) (fun h=>?_)<;>(simp [h, gsV, vl, NetD.cells, AutoD.cells, LocD.cells, H3, hlt, hlt', hx, hkt, hkt', hy, w2]))
    |refine ct rfl ?_|refine cf rfl ?_|refine cnd rfl (fun h=>?_) (fun h=>?_)|refine cd rfl (fun h=>?_) (fun h=>?_)|refine cn rfl (fun h=>?_) (fun h=>?_)|refine cc rfl (fun h=>?_) (fun h=>?_)
    |(refine AS_callG (f:=161) rfl rfl (hR.imp (by simp [vl]) (by simp [H3, NetD.cells, vl])) rfl (fun v h' hq=>?_);obtain ⟨rfl,rfl⟩:=hq;simp [gsV, vl, NetD.cells, AutoD.cells, LocD.cells, H3, hlt, hlt', hx, hkt, hkt', hy, w2])
    |(apply hK;clear hK K)|(refine AWh (by assumption) ?_))
        refine ⟨a3, b3, hG, ⟨hl1, hl2⟩, ?_⟩
        apply Weak.mk' <;> simp [vl, NetD.cells, H3]
      · rintro ⟨a2, b2⟩ ⟨ha2, hb2⟩ hG
        simp only at ha2 hb2
        rw [r2Ls_nil] at hG
        subst hG
        obtain ⟨s3, hs3⟩ : ∃ s3, r2Es x.edges (a2, b2) = s3 := ⟨_, rfl⟩
        rw [hs3] at hF
        clear hs2
        repeat' (first
    |refine AW_seq_k fun K hK=>?_|refine Step.by1 ?_|refine SBlock_exit_ne (by decide) ?_
    |((first|refine AW_region_AO ?_);simp [gsV, vl, NetD.cells, AutoD.cells, H3, hlt, hlt', hx])
    |(refine Split.by2 (fun h=>?_) (fun h=>?_)<;>(simp [h, gsV, vl, NetD.cells, AutoD.cells, H3, hlt, hlt', hx]))
    |refine ct rfl ?_|refine cf rfl ?_|refine cnd rfl (fun h=>?_) (fun h=>?_)|refine cd rfl (fun h=>?_) (fun h=>?_)|refine cn rfl (fun h=>?_) (fun h=>?_)|refine cc rfl (fun h=>?_) (fun h=>?_)
    |(apply hK;clear hK K)|(refine AWh (by assumption) ?_))
        refine AW_range (r := s3) x.edges 11 [1, 2, 7, 8, 9] (fun s : List Int × List Int => []) (fun s => H3 n s.1 s.2) (fun i s => s.1.length = n.clocks.length ∧ s.2.length = n.clocks.length) r2Es (a2, b2)
          hs3 ⟨ha2, hb2⟩ (by apply Weak.mk' <;> simp [vl, NetD.cells, H3]) (fun _ _ _ => rfl) ?_ ?_
        · rintro k ⟨a4, b4⟩ y _ hkt hy ⟨ha4, hb4⟩ hG
          simp only at ha4 hb4
          rw [r2Es_cons] at hG
          have hym : y ∈ x.edges := hy ▸ List.getElem_mem hkt
          have hR := r_Raise n y.guards a4 b4 (hxe.2 y hym).2.2.1.1 ha4 hb4 hcl (hgde x hxm y hym)
          have hl1 : (raiseL lowB y.guards a4).length = n.clocks.length := by rw [raiseL_len, ha4]
          have hl2 : (raiseL upB y.guards b4).length = n.clocks.length := by rw [raiseL_len, hb4]
          unfold raise2 at hG
          simp only at hG
          generalize raiseL lowB y.guards a4 = a3 at *
          generalize raiseL upB y.guards b4 = b3 at *
          have hkt' : (k : Int) < x.edges.length := by omega
          have w2 : IntKind.i64.wrap ((k : Int) + 1) = k + 1 := wrap_i64 (by omega) (by omega)
          repeat' (first
    |refine AW_seq_k fun K hK=>?_|refine Step.by1 ?_|refine SBlock_exit_ne (by decide) ?_
    |((first|refine AW_region_AO ?_);simp [gsV, vl, NetD.cells, AutoD.cells, EdgeD.cells, H3, hlt, hlt', hx, hkt, hkt', hy, w2])
    |(refine Split.by2 (fun h=>?_) (fun h=>?_)<;>(simp [h, gsV, vl, NetD.cells, AutoD.cells, EdgeD.cells, H3, hlt, hlt', hx, hkt, hkt', hy, w2]))
    |refine ct rfl ?_|refine cf rfl ?_|refine cnd rfl (fun h=>?_) (fun h=>?_)|refine cd rfl (fun h=>?_) (fun h=>?_)|refine cn rfl (fun h=>?_) (fun h=>?_)|refine cc rfl (fun h=>?_) (fun h=>?_)
    |(refine AS_callG (f:=161) rfl rfl (hR.imp (by simp [vl]) (by simp [H3, NetD.cells, vl])) rfl (fun v h' hq=>?_);obtain ⟨rfl,rfl⟩:=hq;simp [gsV, vl, NetD.cells, AutoD.cells, EdgeD.cells, H3, hlt, hlt', hx, hkt, hkt', hy, w2])
    |(apply hK;clear hK K)|(refine AWh (by assumption) ?_))
          refine ⟨a3, b3, hG, ⟨hl1, hl2⟩, ?_⟩
          apply Weak.mk' <;> simp [vl, NetD.cells, H3]
        · rintro ⟨a4, b4⟩ ⟨ha4, hb4⟩ hG
          simp only at ha4 hb4
          rw [r2Es_nil] at hG
          subst hG
          repeat' (first
    |refine AW_seq_k fun K hK=>?_|refine Step.by1 ?_|refine SBlock_exit_ne (by decide) ?_
    |((first|refine AW_region_AO ?_);simp [gsV, vl, NetD.cells, AutoD.cells, H3, hlt, hlt', hx, w1])
    |(refine Split.by2 (fun h=>?_) (fun h=>?_)<;>(simp [h, gsV, vl, NetD.cells, AutoD.cells, H3, hlt, hlt', hx, w1]))
    |refine ct rfl ?_|refine cf rfl ?_|refine cnd rfl (fun h=>?_) (fun h=>?_)|refine cd rfl (fun h=>?_) (fun h=>?_)|refine cn rfl (fun h=>?_) (fun h=>?_)|refine cc rfl (fun h=>?_) (fun h=>?_)
    |(apply hK;clear hK K)|(refine AWh (by assumption) ?_))
          refine ⟨a4, b4, hF, ⟨ha4, hb4⟩, ?_⟩
          apply Weak.mk' <;> simp [vl, NetD.cells, H3]
    · rintro ⟨a1, b1⟩ ⟨ha, hb⟩ hF
      simp only at ha hb
      rw [r2As_nil] at hF
      subst hF
      clear hs1
      repeat' (first
    |refine AW_seq_k fun K hK=>?_|refine Step.by1 ?_|refine SBlock_exit_ne (by decide) ?_
    |((first|refine AW_region_AO ?_);simp [gsV, vl, NetD.cells, H3])
    |(refine Split.by2 (fun h=>?_) (fun h=>?_)<;>(simp [h, gsV, vl, NetD.cells, H3]))
    |refine ct rfl ?_|refine cf rfl ?_|refine cnd rfl (fun h=>?_) (fun h=>?_)|refine cd rfl (fun h=>?_) (fun h=>?_)|refine cn rfl (fun h=>?_) (fun h=>?_)|refine cc rfl (fun h=>?_) (fun h=>?_)
    |(apply hK;clear hK K)|(refine AWh (by assumption) ?_))
      refine AW_range (r := r) gs 12 [1, 2, 7, 8] (fun s : List Int × List Int => []) (fun s => H3 n s.1 s.2) (fun i s => s.1.length = n.clocks.length ∧ s.2.length = n.clocks.length) (numR n) (a1, b1)
        hr ⟨ha, hb⟩ (by apply Weak.mk' <;> simp [vl, NetD.cells, H3]) (fun _ _ _ => rfl) ?_ ?_
      · rintro k ⟨a2, b2⟩ g _ hkt hg ⟨ha2, hb2⟩ hF
        simp only at ha2 hb2
        rw [numR_cons] at hF
        have hgo := hgs g (hg ▸ List.getElem_mem hkt)
        have hc := r_Goal n ⟨by assumption, by assumption, by assumption, hal, hao⟩ g hgo
        obtain ⟨hg1, hg2⟩ := hgo
        have hgg := goal_guards (n := n) (g := g)
        have hkt' : (k : Int) < gs.length := by omega
        have w1 : IntKind.i64.wrap ((k : Int) + 1) = k + 1 := wrap_i64 (by omega) (by omega)
        simp only [vl, NetD.cells] at hc
        generalize goalE n g = ge at *
        by_cases hge : ge = 0
        · rw [if_neg (by simp [hge])] at hF
          rw [hge] at hc
          have hgg := hgg hge
          obtain ⟨s2, hs2⟩ : ∃ s2, r2Ps g (a2, b2) = s2 := ⟨_, rfl⟩
          rw [hs2] at hF
          repeat' (first
    |refine AW_seq_k fun K hK=>?_|refine Step.by1 ?_|refine SBlock_exit_ne (by decide) ?_
    |((first|refine AW_region_AO ?_|refine AW_region_APx (id:=19) 7 mixed (by decide) ?_|refine AP_call1 (f:=20) rfl rfl (hc) rfl rfl rfl ?_);simp [gsV, vl, NetD.cells, H3, hkt, hkt', hg])
    |(refine Split.by2 (fun h=>?_) (fun h=>?_)<;>(simp [h, gsV, vl, NetD.cells, H3, hkt, hkt', hg]))
    |refine ct rfl ?_|refine cf rfl ?_|refine cnd rfl (fun h=>?_) (fun h=>?_)|refine cd rfl (fun h=>?_) (fun h=>?_)|refine cn rfl (fun h=>?_) (fun h=>?_)|refine cc rfl (fun h=>?_) (fun h=>?_)
    |(apply hK;clear hK K)|(refine AWh (by assumption) ?_))
          refine AW_range (r := s2) g 13 [1, 2, 7, 8, 12] (fun s : List Int × List Int => []) (fun s => H3 n s.1 s.2) (fun i s => s.1.length = n.clocks.length ∧ s.2.length = n.clocks.length) r2Ps (a2, b2)
            hs2 ⟨ha2, hb2⟩ (by apply Weak.mk' <;> simp [vl, NetD.cells, H3]) (fun _ _ _ => rfl) ?_ ?_
          · rintro m ⟨a4, b4⟩ y _ hmt hy ⟨ha4, hb4⟩ hG
            simp only at ha4 hb4
            rw [r2Ps_cons] at hG
            have hym : y ∈ g := hy ▸ List.getElem_mem hmt
            have hR := r_Raise n y.guards a4 b4 (hg2 y hym).2.1.1 ha4 hb4 hcl (hgg y hym)
            have hl1 : (raiseL lowB y.guards a4).length = n.clocks.length := by rw [raiseL_len, ha4]
            have hl2 : (raiseL upB y.guards b4).length = n.clocks.length := by rw [raiseL_len, hb4]
            unfold raise2 at hG
            simp only at hG
            generalize raiseL lowB y.guards a4 = a3 at *
            generalize raiseL upB y.guards b4 = b3 at *
            have hmt' : (m : Int) < g.length := by omega
            have w2 : IntKind.i64.wrap ((m : Int) + 1) = m + 1 := wrap_i64 (by omega) (by omega)
            repeat' (first
    |refine AW_seq_k fun K hK=>?_|refine Step.by1 ?_|refine SBlock_exit_ne (by decide) ?_
    |((first|refine AW_region_AO ?_);simp [gsV, vl, NetD.cells, PartD.cells, H3, hkt, hkt', hg, hmt, hmt', hy, w2])
    |(refine Split.by2 (fun h=>?_) (fun h=>?_)<;>(simp [h, gsV, vl, NetD.cells, PartD.cells, H3, hkt, hkt', hg, hmt, hmt', hy, w2]))
    |refine ct rfl ?_|refine cf rfl ?_|refine cnd rfl (fun h=>?_) (fun h=>?_)|refine cd rfl (fun h=>?_) (fun h=>?_)|refine cn rfl (fun h=>?_) (fun h=>?_)|refine cc rfl (fun h=>?_) (fun h=>?_)
    |(refine AS_callG (f:=161) rfl rfl (hR.imp (by simp [vl]) (by simp [H3, NetD.cells, vl])) rfl (fun v h' hq=>?_);obtain ⟨rfl,rfl⟩:=hq;simp [gsV, vl, NetD.cells, PartD.cells, H3, hkt, hkt', hg, hmt, hmt', hy, w2])
    |(apply hK;clear hK K)|(refine AWh (by assumption) ?_))
            refine ⟨a3, b3, hG, ⟨hl1, hl2⟩, ?_⟩
            apply Weak.mk' <;> simp [vl, NetD.cells, H3]
          · rintro ⟨a4, b4⟩ ⟨ha4, hb4⟩ hG
            simp only at ha4 hb4
            rw [r2Ps_nil] at hG
            subst hG
            repeat' (first
    |refine AW_seq_k fun K hK=>?_|refine Step.by1 ?_|refine SBlock_exit_ne (by decide) ?_
    |((first|refine AW_region_AO ?_);simp [gsV, vl, NetD.cells, H3, hkt, hkt', hg, w1])
    |(refine Split.by2 (fun h=>?_) (fun h=>?_)<;>(simp [h, gsV, vl, NetD.cells, H3, hkt, hkt', hg, w1]))
    |refine ct rfl ?_|refine cf rfl ?_|refine cnd rfl (fun h=>?_) (fun h=>?_)|refine cd rfl (fun h=>?_) (fun h=>?_)|refine cn rfl (fun h=>?_) (fun h=>?_)|refine cc rfl (fun h=>?_) (fun h=>?_)
    |(apply hK;clear hK K)|(refine AWh (by assumption) ?_))
            refine ⟨a4, b4, hF, ⟨ha4, hb4⟩, ?_⟩
            apply Weak.mk' <;> simp [vl, NetD.cells, H3]
        · rw [if_pos hge] at hF
          subst hF
          repeat' (first
    |refine AW_seq_k fun K hK=>?_|refine Step.by1 ?_|refine SBlock_exit_ne (by decide) ?_
    |((first|refine AW_region_AO ?_|refine AW_region_APx (id:=19) 7 mixed (by decide) ?_|refine AP_call1 (f:=20) rfl rfl (hc) rfl rfl rfl ?_);simp [gsV, vl, NetD.cells, H3, hkt, hkt', hg, hge])
    |(refine Split.by2 (fun h=>?_) (fun h=>?_)<;>(simp [h, gsV, vl, NetD.cells, H3, hkt, hkt', hg, hge]))
    |refine ct rfl ?_|refine cf rfl ?_|refine cnd rfl (fun h=>?_) (fun h=>?_)|refine cd rfl (fun h=>?_) (fun h=>?_)|refine cn rfl (fun h=>?_) (fun h=>?_)|refine cc rfl (fun h=>?_) (fun h=>?_)
    |(apply hK;clear hK K)|(refine AWh (by assumption) ?_))
          exact retq3 (conv_eq rfl rfl)
      · rintro ⟨a2, b2⟩ ⟨ha2, hb2⟩ hF
        simp only at ha2 hb2
        rw [numR_nil] at hF
        subst hF
        repeat' (first
    |refine AW_seq_k fun K hK=>?_|refine Step.by1 ?_|refine SBlock_exit_ne (by decide) ?_
    |((first|refine AW_region_AO ?_);simp [gsV, vl, NetD.cells, H3, refV])
    |(refine Split.by2 (fun h=>?_) (fun h=>?_)<;>(simp [h, gsV, vl, NetD.cells, H3, refV]))
    |refine ct rfl ?_|refine cf rfl ?_|refine cnd rfl (fun h=>?_) (fun h=>?_)|refine cd rfl (fun h=>?_) (fun h=>?_)|refine cn rfl (fun h=>?_) (fun h=>?_)|refine cc rfl (fun h=>?_) (fun h=>?_)
    |(apply hK;clear hK K)|(refine AWh (by assumption) ?_))
        exact retq3 (conv_own2b rfl rfl (by simp [ha2]) (by simp [hb2]) (by decide) rfl)
  · rw [if_pos hz] at hr
    subst hr
    repeat' (first
    |refine AW_seq_k fun K hK=>?_|refine Step.by1 ?_|refine SBlock_exit_ne (by decide) ?_
    |((first|refine AW_region_AO ?_|refine AS_call1 (f:=16) rfl rfl (hN) rfl rfl rfl ?_);simp [gsV, vl, NetD.cells, hz])
    |(refine Split.by2 (fun h=>?_) (fun h=>?_)<;>(simp [h, gsV, vl, NetD.cells, hz]))
    |refine ct rfl ?_|refine cf rfl ?_|refine cnd rfl (fun h=>?_) (fun h=>?_)|refine cd rfl (fun h=>?_) (fun h=>?_)|refine cn rfl (fun h=>?_) (fun h=>?_)|refine cc rfl (fun h=>?_) (fun h=>?_)
    |(apply hK;clear hK K)|(refine AWh (by assumption) ?_))
    exact retq3 (conv_eq rfl rfl)
end Go.Proofs.YtgmlimipejcpgaaGreatDoor
end

section
set_option linter.unusedVariables false
set_option linter.unusedSimpArgs false
namespace Go.Proofs.YtgmlimipejcpgaaGreatDoor
open Go Go.AM Fx
/-! The numbers, by program and by reference: a plain law. -/
theorem cmpE_zero {l : List GuardD} (h : cmpE l = 0) : ∀ g ∈ l, 1 ≤ g.cmp ∧ g.cmp ≤ 5 := by
  unfold cmpE at h
  intro g hg
  cases hc : cmpG g
  · unfold cmpG at hc
    have := of_decide_eq_false hc
    omega
  · rw [if_pos (List.any_eq_true.2 ⟨g, hg, hc⟩)] at h; cases h
theorem whole_cmps {n : NetD} (h : wholeE n = 0) : ∀ g ∈ guardsL n, 1 ≤ g.cmp ∧ g.cmp ≤ 5 := by
  unfold wholeE at h
  have h1 := (firstE_zero (firstE_zero (firstE_zero (firstE_zero (firstE_zero (firstE_zero (firstE_zero (firstE_zero h).2).2).2).2).2).2).2).1
  unfold formsE at h1
  by_cases hc : cmpE (guardsL n) = 0
  · exact cmpE_zero hc
  · rw [if_pos hc] at h1; exact absurd h1 hc
theorem goal_cmps {n : NetD} {g : List PartD} (h : goalE n g = 0) : ∀ p ∈ g, ∀ x ∈ p.guards, 1 ≤ x.cmp ∧ x.cmp ≤ 5 := by
  unfold goalE at h
  have h1 := (firstE_zero (firstE_zero h).2).1
  unfold wholeGoalE at h1
  have h2 := (firstE_zero (firstE_zero (firstE_zero (firstE_zero (firstE_zero (firstE_zero h1).2).2).2).2).2).1
  exact fun p hp => cmpE_zero (goF_zero h2 p hp)
theorem raise2_eq {l : List GuardD} {a b : List Int} : raise2 l (a, b) = (raiseL lowB l a, raiseL upB l b) := rfl
theorem numR_eq (n : NetD) : ∀ (gs : List (List PartD)) (a b : List Int), numR n gs (a, b) = (numG n lowB gs a).bind fun x => (numG n upB gs b).map fun y => (x, y)
  | [], a, b => rfl
  | g :: r, a, b => by
    rw [numR_cons, numG_cons, numG_cons]
    by_cases h : goalE n g = 0
    · rw [if_neg (by simp [h]), if_neg (by simp [h]), if_neg (by simp [h])]
      exact numR_eq n r _ _
    · rw [if_pos h, if_pos h, if_pos h]; rfl
theorem numbR_eq (n : NetD) (gs : List (List PartD)) : numbR n gs = (numbE n lowB gs).bind fun x => (numbE n upB gs).map fun y => (x, y) := by
  unfold numbR numbE
  by_cases h : netE n = 0
  · rw [if_neg (by simp [h]), if_neg (by simp [h]), if_neg (by simp [h])]
    exact numR_eq n gs _ _
  · rw [if_pos h, if_pos h, if_pos h]; rfl
def maxL (a b : List Int) : List Int := List.zipWith max a b
theorem maxL_len {a b : List Int} (h : a.length = b.length) : (maxL a b).length = a.length := by simp [maxL, h]
theorem maxL_getD {a b : List Int} (h : a.length = b.length) {i : Nat} (hi : i < a.length) : (maxL a b).getD i 0 = max (a.getD i 0) (b.getD i 0) := by
  have hb : i < b.length := by omega
  have hm : i < (maxL a b).length := by rw [maxL_len h]; exact hi
  simp only [List.getD, List.getElem?_eq_getElem hi, List.getElem?_eq_getElem hb, List.getElem?_eq_getElem hm, Option.getD_some]
  simp only [maxL, List.getElem_zipWith]
theorem ext_getD {a b : List Int} (h : a.length = b.length) (he : ∀ i, i < a.length → a.getD i 0 = b.getD i 0) : a = b := by
  refine List.ext_getElem h fun i h1 h2 => ?_
  have := he i h1
  simpa only [List.getD, List.getElem?_eq_getElem h1, List.getElem?_eq_getElem h2, Option.getD_some] using this
theorem raise1_getD {so : Int → Bool} {c : List Int} {g : GuardD} {i : Nat} (hi : i < c.length) (h1 : 1 ≤ g.clock) : (raise1 so c g).getD i 0 = if (g.clock - 1).toNat = i ∧ so g.cmp = true then max (c.getD i 0) g.n else c.getD i 0 := by
  unfold raise1
  by_cases hs : so g.cmp = true
  · rw [if_pos hs]
    by_cases hp : (g.clock - 1).toNat = i
    · rw [if_pos (show (g.clock - 1).toNat = i ∧ so g.cmp = true from ⟨hp, hs⟩), hp]
      have e : (if g.n > c.getD i 0 then g.n else c.getD i 0) = max (c.getD i 0) g.n := by split <;> omega
      rw [e]
      simp only [List.getD, List.getElem?_set, if_true, if_pos hi, Option.getD_some]
    · rw [if_neg (show ¬ ((g.clock - 1).toNat = i ∧ so g.cmp = true) from fun h => hp h.1)]
      simp only [List.getD, List.getElem?_set, if_neg hp]
  · rw [if_neg hs, if_neg (show ¬ ((g.clock - 1).toNat = i ∧ so g.cmp = true) from fun h => hs h.2)]
theorem low_or_up {c : Int} (h : 1 ≤ c ∧ c ≤ 5) : lowB c = true ∨ upB c = true := by
  simp only [lowB, upB, decide_eq_true_eq]; omega
theorem raise1_max {a b : List Int} {x : GuardD} (hl : a.length = b.length) (hx : 1 ≤ x.clock) (hc : 1 ≤ x.cmp ∧ x.cmp ≤ 5) :
    raise1 (fun _ => true) (maxL a b) x = maxL (raise1 lowB a x) (raise1 upB b x) := by
  have h1 : (raise1 lowB a x).length = (raise1 upB b x).length := by rw [raise1_len, raise1_len, hl]
  refine ext_getD (by rw [raise1_len, maxL_len hl, maxL_len h1, raise1_len]) fun i hi => ?_
  rw [raise1_len, maxL_len hl] at hi
  rw [raise1_getD (by rw [maxL_len hl]; exact hi) hx, maxL_getD hl hi, maxL_getD h1 (by rw [raise1_len]; exact hi), raise1_getD hi hx, raise1_getD (by omega) hx]
  generalize a.getD i 0 = y
  generalize b.getD i 0 = z
  have := low_or_up hc
  by_cases hp : (x.clock - 1).toNat = i
  · cases hs : lowB x.cmp <;> cases ht : upB x.cmp <;> rw [hs, ht] at this <;> simp only [hp, and_self, if_true, if_false, true_and, and_true, and_false, Bool.false_eq_true] <;> first | omega | simp at this
  · simp only [hp, false_and, if_false]
theorem raiseL_max : ∀ {l : List GuardD} {a b : List Int}, a.length = b.length → (∀ x ∈ l, okG a.length x) → (∀ x ∈ l, 1 ≤ x.cmp ∧ x.cmp ≤ 5) → raiseL (fun _ => true) l (maxL a b) = maxL (raiseL lowB l a) (raiseL upB l b)
  | [], a, b, _, _, _ => rfl
  | x :: l, a, b, hl, h1, h2 => by
    rw [raiseL_cons, raiseL_cons, raiseL_cons, raise1_max hl (h1 x (by simp)).1 (h2 x (by simp))]
    exact raiseL_max (by rw [raise1_len, raise1_len, hl]) (fun y hy => by rw [raise1_len]; exact h1 y (by simp [hy])) (fun y hy => h2 y (by simp [hy]))
theorem raiseL_lens {l : List GuardD} {a b : List Int} (h : a.length = b.length) : (raiseL lowB l a).length = (raiseL upB l b).length := by rw [raiseL_len, raiseL_len, h]
theorem numG_max (n : NetD) : ∀ (gs : List (List PartD)) (a b : List Int), a.length = b.length → a.length = n.clocks.length → numG n (fun _ => true) gs (maxL a b) = (numR n gs (a, b)).map fun s => maxL s.1 s.2
  | [], a, b, _, _ => rfl
  | g :: r, a, b, hl, hn => by
    rw [numR_cons, numG_cons]
    by_cases h : goalE n g = 0
    · rw [if_neg (by simp [h]), if_neg (by simp [h])]
      have h1 := goal_guards h
      have h2 := goal_cmps h
      have : raisePs (fun _ => true) g (maxL a b) = maxL (raisePs lowB g a) (raisePs upB g b) := raiseL_max hl
        (fun x hx => by obtain ⟨p, hp, hx⟩ := List.mem_flatMap.1 hx; rw [hn]; exact h1 p hp x hx) (fun x hx => by obtain ⟨p, hp, hx⟩ := List.mem_flatMap.1 hx; exact h2 p hp x hx)
      rw [this]
      exact numG_max n r _ _ (by rw [raisePs_len, raisePs_len, hl]) (by rw [raisePs_len, hn])
    · rw [if_pos h, if_pos h]; rfl
theorem maxL_same (N : Nat) : maxL (List.replicate N (-1)) (List.replicate N (-1)) = List.replicate N (-1) := by simp [maxL]
/-- What the program tells at once is the greater of what the reference tells in two. -/
theorem numb_max (n : NetD) (gs : List (List PartD)) : numbE n (fun _ => true) gs = (numbR n gs).map fun s => maxL s.1 s.2 := by
  unfold numbE numbR
  by_cases h : netE n = 0
  · rw [if_neg (by simp [h]), if_neg (by simp [h])]
    have h1 := whole_guards (netE_whole h)
    have h2 := whole_cmps (netE_whole h)
    have h3 := raiseL_max (l := guardsL n) (a := List.replicate n.clocks.length (-1)) (b := List.replicate n.clocks.length (-1)) rfl (by simpa using h1) h2
    rw [maxL_same] at h3
    rw [h3]
    exact numG_max n gs _ _ (raiseL_lens rfl) (by rw [raiseL_len]; simp)
  · rw [if_pos h, if_pos h]; rfl
end Go.Proofs.YtgmlimipejcpgaaGreatDoor
end

section
set_option linter.unusedVariables false
set_option linter.unusedSimpArgs false
namespace Go.Proofs.YtgmlimipejcpgaaGreatDoor
open Go Go.AM Fx
/-! The reference's Max, Lower, Upper, Kept. -/
theorem maxL_step {a b c : List Int} {N i : Nat} (hi : i < N) (ha : a.length = N) (hb : b.length = N) (hc : c.length = N) (h1 : ∀ j, j < i → c.getD j 0 = max (a.getD j 0) (b.getD j 0)) (h2 : ∀ j, i ≤ j → c.getD j 0 = a.getD j 0) {y : Int}
    (hy : y = max (a.getD i 0) (b.getD i 0)) : (c.set i y).length = N ∧ (∀ j, j < i + 1 → (c.set i y).getD j 0 = max (a.getD j 0) (b.getD j 0)) ∧ ∀ j, i + 1 ≤ j → (c.set i y).getD j 0 = a.getD j 0 := by
  have hg : ∀ j, (c.set i y).getD j 0 = if i = j then y else c.getD j 0 := fun j => by
    simp only [List.getD, List.getElem?_set]
    by_cases e : i = j
    · subst e; simp [show i < c.length by omega]
    · simp [e]
  refine ⟨by simp [hc], fun j hj => ?_, fun j hj => ?_⟩
  · rw [hg]
    by_cases e : i = j
    · subst e; simp [hy]
    · rw [if_neg e]; exact h1 j (by omega)
  · rw [hg, if_neg (by omega)]; exact h2 j (by omega)
theorem maxL_end {a b c : List Int} {N : Nat} (ha : a.length = N) (hb : b.length = N) (hc : c.length = N) (h1 : ∀ j, j < N → c.getD j 0 = max (a.getD j 0) (b.getD j 0)) : c = maxL a b :=
  ext_getD (by rw [maxL_len (by omega)]; omega) fun i hi => by rw [h1 i (by omega), maxL_getD (by omega) (by omega)]
theorem numR_lens {n : NetD} : ∀ {gs : List (List PartD)} {a b x y : List Int}, numR n gs (a, b) = some (x, y) → x.length = a.length ∧ y.length = b.length
  | [], a, b, x, y, h => by rw [numR_nil] at h; cases h; exact ⟨rfl, rfl⟩
  | g :: r, a, b, x, y, h => by
    rw [numR_cons] at h
    split at h
    · cases h
    · have := numR_lens (gs := r) (a := raisePs lowB g a) (b := raisePs upB g b) h
      rw [raisePs_len, raisePs_len] at this; exact this
theorem numbR_lens {n : NetD} {gs : List (List PartD)} {x y : List Int} (h : numbR n gs = some (x, y)) : x.length = n.clocks.length ∧ y.length = n.clocks.length := by
  unfold numbR at h
  split at h
  · cases h
  · have := numR_lens (gs := gs) (a := raiseL lowB (guardsL n) _) (b := raiseL upB (guardsL n) _) h
    rw [raiseL_len, raiseL_len] at this; simpa using this
def refMax : Option (List Int × List Int) → V
  | none => .nils
  | some s => .own 3 ((maxL s.1 s.2).map fun k => [V.int .i64 k])
def refLow : Option (List Int × List Int) → V
  | none => .nils
  | some s => .own 3 (s.1.map fun k => [V.int .i64 k])
def refUp : Option (List Int × List Int) → V
  | none => .nils
  | some s => .own 3 (s.2.map fun k => [V.int .i64 k])
def refKept : Option (List Int × List Int) → V
  | none => .own 3 []
  | some s => .own 3 ((keptF (maxL s.1 s.2) (0, [])).map fun k => [V.int .i64 k])
set_option maxRecDepth 20000 in
set_option maxHeartbeats 8000000 in
theorem r_Max (n : NetD) (hn : n.ok) (gs : List (List PartD)) (hgl : gs.length ≤ 1048576) (hgs : ∀ g ∈ gs, okGoal g) : PC 27 [.agg n.cells, gsV gs] (refMax (numbR n gs)) := by
  have hc := r_nums n hn gs hgl hgs
  simp only [gsV, vl, NetD.cells] at hc
  cases h : numbR n gs with
  | none =>
    rw [h] at hc
    simp only [refV, refMax] at hc ⊢
    refine PCall_body Tryz.func27 rfl (by decide) Tryz.ntmps27 (by simp) Tryz.results27 ?_
    repeat' (first
    |refine AW_seq_k fun K hK=>?_|refine Step.by1 ?_|refine SBlock_exit_ne (by decide) ?_
    |((first|refine AW_region_AO ?_|refine AS_call1 (f:=83) rfl rfl (hc) rfl rfl rfl ?_);simp [gsV, vl, NetD.cells])
    |(refine Split.by2 (fun h=>?_) (fun h=>?_)<;>(simp [h, gsV, vl, NetD.cells]))
    |refine ct rfl ?_|refine cf rfl ?_|refine cnd rfl (fun h=>?_) (fun h=>?_)|refine cd rfl (fun h=>?_) (fun h=>?_)|refine cn rfl (fun h=>?_) (fun h=>?_)|refine cc rfl (fun h=>?_) (fun h=>?_)
    |(apply hK;clear hK K)|(refine AWh (by assumption) ?_))
    refine AW_loop0 ?_
    repeat' (first
    |refine AW_seq_k fun K hK=>?_|refine Step.by1 ?_|refine SBlock_exit_ne (by decide) ?_
    |((first|refine AW_region_AO ?_);simp [gsV, vl, NetD.cells])
    |(refine Split.by2 (fun h=>?_) (fun h=>?_)<;>(simp [h, gsV, vl, NetD.cells]))
    |refine ct rfl ?_|refine cf rfl ?_|refine cnd rfl (fun h=>?_) (fun h=>?_)|refine cd rfl (fun h=>?_) (fun h=>?_)|refine cn rfl (fun h=>?_) (fun h=>?_)|refine cc rfl (fun h=>?_) (fun h=>?_)
    |(apply hK;clear hK K)|(refine AWh (by assumption) ?_))
    exact retq1 (conv_eq rfl rfl)
  | some s =>
    obtain ⟨a, b⟩ := s
    rw [h] at hc
    obtain ⟨ha, hb⟩ := numbR_lens h
    have hnl := hn.1.1
    simp only [refV, refMax] at hc ⊢
    refine PCall_body Tryz.func27 rfl (by decide) Tryz.ntmps27 (by simp) Tryz.results27 ?_
    repeat' (first
    |refine AW_seq_k fun K hK=>?_|refine Step.by1 ?_|refine SBlock_exit_ne (by decide) ?_
    |((first|refine AW_region_AO ?_|refine AS_callT (f:=83) rfl rfl (hc) rfl rfl ?_);simp [gsV, vl, NetD.cells])
    |(refine Split.by2 (fun h=>?_) (fun h=>?_)<;>(simp [h, gsV, vl, NetD.cells]))
    |refine ct rfl ?_|refine cf rfl ?_|refine cnd rfl (fun h=>?_) (fun h=>?_)|refine cd rfl (fun h=>?_) (fun h=>?_)|refine cn rfl (fun h=>?_) (fun h=>?_)|refine cc rfl (fun h=>?_) (fun h=>?_)
    |(apply hK;clear hK K)|(refine AWh (by assumption) ?_))
    refine AW_loopL [5, 6] (fun s : Nat × List Int => [(8, .int .i64 s.1)]) (fun s => [.var n.cells, .row 3 0 0 true (s.2.map fun k => [V.int .i64 k]), .row 3 0 0 true (b.map fun k => [V.int .i64 k])])
      (fun s => s.1 ≤ a.length ∧ s.2.length = a.length ∧ (∀ j, j < s.1 → s.2.getD j 0 = max (a.getD j 0) (b.getD j 0)) ∧ ∀ j, s.1 ≤ j → s.2.getD j 0 = a.getD j 0) (fun s => a.length - s.1) (0, a) ⟨Nat.zero_le _, rfl, fun j hj => by omega, fun j _ => rfl⟩ (by apply Weak.mk' <;> simp [vl, NetD.cells]) (fun _ _ => rfl) ?_
    rintro ⟨i, c⟩ ⟨hi, hcl, hc1, hc2⟩
    simp only at hi hcl hc1 hc2
    by_cases hlt : i < a.length
    · have hib : i < b.length := by omega
      have hic : i < c.length := by omega
      have hlt' : (i : Int) < a.length := by omega
      have hib' : (i : Int) < b.length := by omega
      have w1 : IntKind.i64.wrap ((i : Int) + 1) = i + 1 := wrap_i64 (by omega) (by omega)
      obtain ⟨y, hy⟩ : ∃ y, b[i] = y := ⟨_, rfl⟩
      obtain ⟨z, hz⟩ : ∃ z, c[i] = z := ⟨_, rfl⟩
      have hzz : a.getD i 0 = z := by rw [← hc2 i (Nat.le_refl _), ← hz]; simp [List.getD, hic]
      have hyy : b.getD i 0 = y := by rw [← hy]; simp [List.getD, hib]
      by_cases hgt : z < y
      · have hst := maxL_step (y := y) hlt rfl (by omega) hcl hc1 hc2 (by rw [hzz, hyy]; omega)
        repeat' (first
    |refine AW_seq_k fun K hK=>?_|refine Step.by1 ?_|refine SBlock_exit_ne (by decide) ?_
    |((first|refine AW_region_AO ?_|refine AW_region_APx (id:=5) 9 mixed (by decide) ?_);simp [gsV, vl, NetD.cells, hlt, hlt', hib, hib', hic, hcl, hy, hz, hgt, w1])
    |(refine Split.by2 (fun h=>?_) (fun h=>?_)<;>(simp [h, gsV, vl, NetD.cells, hlt, hlt', hib, hib', hic, hcl, hy, hz, hgt, w1]))
    |refine ct rfl ?_|refine cf rfl ?_|refine cnd rfl (fun h=>?_) (fun h=>?_)|refine cd rfl (fun h=>?_) (fun h=>?_)|refine cn rfl (fun h=>?_) (fun h=>?_)|refine cc rfl (fun h=>?_) (fun h=>?_)
    |(apply hK;clear hK K)|(refine AWh (by assumption) ?_))
        refine ⟨i + 1, c.set i y, ⟨by omega, hst⟩, by omega, ?_⟩
        apply Weak.mk' <;> simp [vl, NetD.cells]
      · have hst := maxL_step (y := z) hlt rfl (by omega) hcl hc1 hc2 (by rw [hzz, hyy]; omega)
        have hcc : c.set i z = c := by rw [← hz]; simp
        rw [hcc] at hst
        repeat' (first
    |refine AW_seq_k fun K hK=>?_|refine Step.by1 ?_|refine SBlock_exit_ne (by decide) ?_
    |((first|refine AW_region_AO ?_|refine AW_region_APx (id:=5) 9 mixed (by decide) ?_);simp [gsV, vl, NetD.cells, hlt, hlt', hib, hib', hic, hcl, hy, hz, hgt, w1])
    |(refine Split.by2 (fun h=>?_) (fun h=>?_)<;>(simp [h, gsV, vl, NetD.cells, hlt, hlt', hib, hib', hic, hcl, hy, hz, hgt, w1]))
    |refine ct rfl ?_|refine cf rfl ?_|refine cnd rfl (fun h=>?_) (fun h=>?_)|refine cd rfl (fun h=>?_) (fun h=>?_)|refine cn rfl (fun h=>?_) (fun h=>?_)|refine cc rfl (fun h=>?_) (fun h=>?_)
    |(apply hK;clear hK K)|(refine AWh (by assumption) ?_))
        refine ⟨i + 1, c, ⟨by omega, hst⟩, by omega, ?_⟩
        apply Weak.mk' <;> simp [vl, NetD.cells]
    · have hce : c = maxL a b := maxL_end (N := a.length) rfl (by omega) hcl (fun j hj => hc1 j (by omega))
      have hlt' : ¬ (i : Int) < a.length := by omega
      clear hc1 hc2
      subst hce
      repeat' (first
    |refine AW_seq_k fun K hK=>?_|refine Step.by1 ?_|refine SBlock_exit_ne (by decide) ?_
    |((first|refine AW_region_AO ?_);simp [gsV, vl, NetD.cells, hlt, hlt', hcl])
    |(refine Split.by2 (fun h=>?_) (fun h=>?_)<;>(simp [h, gsV, vl, NetD.cells, hlt, hlt', hcl]))
    |refine ct rfl ?_|refine cf rfl ?_|refine cnd rfl (fun h=>?_) (fun h=>?_)|refine cd rfl (fun h=>?_) (fun h=>?_)|refine cn rfl (fun h=>?_) (fun h=>?_)|refine cc rfl (fun h=>?_) (fun h=>?_)
    |(apply hK;clear hK K)|(refine AWh (by assumption) ?_))
      exact retq1 (.inr (.inl (conv1_own rfl (by simp [hcl]))))
theorem r_Lower (n : NetD) (hn : n.ok) (gs : List (List PartD)) (hgl : gs.length ≤ 1048576) (hgs : ∀ g ∈ gs, okGoal g) : PC 28 [.agg n.cells, gsV gs] (refLow (numbR n gs)) := by
  have hc := r_nums n hn gs hgl hgs
  simp only [gsV, vl, NetD.cells] at hc
  cases h : numbR n gs with
  | none =>
    rw [h] at hc
    simp only [refV, refLow] at hc ⊢
    refine PCall_body Tryz.func28 rfl (by decide) Tryz.ntmps28 (by simp) Tryz.results28 ?_
    repeat' (first
    |refine AW_seq_k fun K hK=>?_|refine Step.by1 ?_|refine SBlock_exit_ne (by decide) ?_
    |((first|refine AW_region_AO ?_|refine AS_call1 (f:=83) rfl rfl (hc) rfl rfl rfl ?_);simp [gsV, vl, NetD.cells])
    |(refine Split.by2 (fun h=>?_) (fun h=>?_)<;>(simp [h, gsV, vl, NetD.cells]))
    |refine ct rfl ?_|refine cf rfl ?_|refine cnd rfl (fun h=>?_) (fun h=>?_)|refine cd rfl (fun h=>?_) (fun h=>?_)|refine cn rfl (fun h=>?_) (fun h=>?_)|refine cc rfl (fun h=>?_) (fun h=>?_)
    |(apply hK;clear hK K)|(refine AWh (by assumption) ?_))
    exact retq1 (conv_eq rfl rfl)
  | some s =>
    obtain ⟨a, b⟩ := s
    rw [h] at hc
    simp only [refV, refLow] at hc ⊢
    refine PCall_body Tryz.func28 rfl (by decide) Tryz.ntmps28 (by simp) Tryz.results28 ?_
    repeat' (first
    |refine AW_seq_k fun K hK=>?_|refine Step.by1 ?_|refine SBlock_exit_ne (by decide) ?_
    |((first|refine AW_region_AO ?_|refine AS_callT (f:=83) rfl rfl (hc) rfl rfl ?_);simp [gsV, vl, NetD.cells])
    |(refine Split.by2 (fun h=>?_) (fun h=>?_)<;>(simp [h, gsV, vl, NetD.cells]))
    |refine ct rfl ?_|refine cf rfl ?_|refine cnd rfl (fun h=>?_) (fun h=>?_)|refine cd rfl (fun h=>?_) (fun h=>?_)|refine cn rfl (fun h=>?_) (fun h=>?_)|refine cc rfl (fun h=>?_) (fun h=>?_)
    |(apply hK;clear hK K)|(refine AWh (by assumption) ?_))
    exact retq1 (.inr (.inl (conv1_own rfl (by simp))))
theorem r_Upper (n : NetD) (hn : n.ok) (gs : List (List PartD)) (hgl : gs.length ≤ 1048576) (hgs : ∀ g ∈ gs, okGoal g) : PC 29 [.agg n.cells, gsV gs] (refUp (numbR n gs)) := by
  have hc := r_nums n hn gs hgl hgs
  simp only [gsV, vl, NetD.cells] at hc
  cases h : numbR n gs with
  | none =>
    rw [h] at hc
    simp only [refV, refUp] at hc ⊢
    refine PCall_body Tryz.func29 rfl (by decide) Tryz.ntmps29 (by simp) Tryz.results29 ?_
    repeat' (first
    |refine AW_seq_k fun K hK=>?_|refine Step.by1 ?_|refine SBlock_exit_ne (by decide) ?_
    |((first|refine AW_region_AO ?_|refine AS_call1 (f:=83) rfl rfl (hc) rfl rfl rfl ?_);simp [gsV, vl, NetD.cells])
    |(refine Split.by2 (fun h=>?_) (fun h=>?_)<;>(simp [h, gsV, vl, NetD.cells]))
    |refine ct rfl ?_|refine cf rfl ?_|refine cnd rfl (fun h=>?_) (fun h=>?_)|refine cd rfl (fun h=>?_) (fun h=>?_)|refine cn rfl (fun h=>?_) (fun h=>?_)|refine cc rfl (fun h=>?_) (fun h=>?_)
    |(apply hK;clear hK K)|(refine AWh (by assumption) ?_))
    exact retq1 (conv_eq rfl rfl)
  | some s =>
    obtain ⟨a, b⟩ := s
    rw [h] at hc
    simp only [refV, refUp] at hc ⊢
    refine PCall_body Tryz.func29 rfl (by decide) Tryz.ntmps29 (by simp) Tryz.results29 ?_
    repeat' (first
    |refine AW_seq_k fun K hK=>?_|refine Step.by1 ?_|refine SBlock_exit_ne (by decide) ?_
    |((first|refine AW_region_AO ?_|refine AS_callT (f:=83) rfl rfl (hc) rfl rfl ?_);simp [gsV, vl, NetD.cells])
    |(refine Split.by2 (fun h=>?_) (fun h=>?_)<;>(simp [h, gsV, vl, NetD.cells]))
    |refine ct rfl ?_|refine cf rfl ?_|refine cnd rfl (fun h=>?_) (fun h=>?_)|refine cd rfl (fun h=>?_) (fun h=>?_)|refine cn rfl (fun h=>?_) (fun h=>?_)|refine cc rfl (fun h=>?_) (fun h=>?_)
    |(apply hK;clear hK K)|(refine AWh (by assumption) ?_))
    exact retq1 (.inr (.inl (conv1_own rfl (by simp))))
set_option maxRecDepth 20000 in
set_option maxHeartbeats 8000000 in
theorem r_Kept (n : NetD) (hn : n.ok) (gs : List (List PartD)) (hgl : gs.length ≤ 1048576) (hgs : ∀ g ∈ gs, okGoal g) : PC 30 [.agg n.cells, gsV gs] (refKept (numbR n gs)) := by
  have hc := r_Max n hn gs hgl hgs
  simp only [gsV, vl, NetD.cells] at hc
  cases h : numbR n gs with
  | none =>
    rw [h] at hc
    simp only [refMax, refKept] at hc ⊢
    refine PCall_body Tryz.func30 rfl (by decide) Tryz.ntmps30 (by simp) Tryz.results30 ?_
    repeat' (first
    |refine AW_seq_k fun K hK=>?_|refine Step.by1 ?_|refine SBlock_exit_ne (by decide) ?_
    |((first|refine AW_region_AO ?_|refine AS_call1 (f:=27) rfl rfl (hc) rfl rfl rfl ?_);simp [gsV, vl, NetD.cells])
    |(refine Split.by2 (fun h=>?_) (fun h=>?_)<;>(simp [h, gsV, vl, NetD.cells]))
    |refine ct rfl ?_|refine cf rfl ?_|refine cnd rfl (fun h=>?_) (fun h=>?_)|refine cd rfl (fun h=>?_) (fun h=>?_)|refine cn rfl (fun h=>?_) (fun h=>?_)|refine cc rfl (fun h=>?_) (fun h=>?_)
    |(apply hK;clear hK K)|(refine AWh (by assumption) ?_))
    refine AW_nilrow 5 3 rfl (by simp) ?_
    refine AW_loop0 ?_
    repeat' (first
    |refine AW_seq_k fun K hK=>?_|refine Step.by1 ?_|refine SBlock_exit_ne (by decide) ?_
    |((first|refine AW_region_AO ?_);simp [gsV, vl, NetD.cells])
    |(refine Split.by2 (fun h=>?_) (fun h=>?_)<;>(simp [h, gsV, vl, NetD.cells]))
    |refine ct rfl ?_|refine cf rfl ?_|refine cnd rfl (fun h=>?_) (fun h=>?_)|refine cd rfl (fun h=>?_) (fun h=>?_)|refine cn rfl (fun h=>?_) (fun h=>?_)|refine cc rfl (fun h=>?_) (fun h=>?_)
    |(apply hK;clear hK K)|(refine AWh (by assumption) ?_))
    exact retq1 (.inr (.inl (conv1_own (xs := []) rfl (by simp))))
  | some s =>
    rw [h] at hc
    obtain ⟨a, b⟩ := s
    obtain ⟨ha, hb⟩ := numbR_lens h
    obtain ⟨o, ho⟩ : ∃ o, maxL a b = o := ⟨_, rfl⟩
    have hol : o.length = n.clocks.length := by rw [← ho, maxL_len (by omega), ha]
    have hnl := hn.1.1
    obtain ⟨r, hr⟩ : ∃ r, keptF o (0, []) = r := ⟨_, rfl⟩
    simp only [refMax, refKept, ho, hr] at hc ⊢
    refine PCall_body Tryz.func30 rfl (by decide) Tryz.ntmps30 (by simp) Tryz.results30 ?_
    repeat' (first
    |refine AW_seq_k fun K hK=>?_|refine Step.by1 ?_|refine SBlock_exit_ne (by decide) ?_
    |((first|refine AW_region_AO ?_|refine AS_callO (f:=27) rfl rfl (hc) rfl rfl ?_);simp [gsV, vl, NetD.cells])
    |(refine Split.by2 (fun h=>?_) (fun h=>?_)<;>(simp [h, gsV, vl, NetD.cells]))
    |refine ct rfl ?_|refine cf rfl ?_|refine cnd rfl (fun h=>?_) (fun h=>?_)|refine cd rfl (fun h=>?_) (fun h=>?_)|refine cn rfl (fun h=>?_) (fun h=>?_)|refine cc rfl (fun h=>?_) (fun h=>?_)
    |(apply hK;clear hK K)|(refine AWh (by assumption) ?_))
    refine AW_nilrow 5 3 rfl (by simp) ?_
    refine AW_range (r := r) o 7 [6] (fun s : Nat × List Int => [(5, .ref 2 s.2.length 0 s.2.length)]) (fun s => [.var n.cells, .row 3 0 0 true (o.map fun k => [V.int .i64 k]), .row 3 s.2.length 0 true (s.2.map fun k => [V.int .i64 k])]) (fun i s => s.1 = i ∧ s.2.length ≤ i) keptF (0, [])
      hr ⟨rfl, Nat.le_refl _⟩ (by apply Weak.mk' <;> simp [vl, NetD.cells]) (fun _ _ _ => by simp) ?_ ?_
    · rintro i ⟨q, a⟩ x _ hlt hx ⟨hq, hal⟩ hF
      simp only at hq hal
      subst hq
      rw [keptF_cons] at hF
      simp only at hF
      have hlt' : (q : Int) < o.length := by omega
      have w1 : IntKind.i64.wrap ((q : Int) + 1) = q + 1 := wrap_i64 (by omega) (by omega)
      have hby : (a.length + 1) * 8 ≤ 140737488355328 := by omega
      by_cases hx0 : 0 ≤ x
      · rw [if_pos hx0] at hF
        repeat' (first
    |refine AW_seq_k fun K hK=>?_|refine Step.by1 ?_|refine SBlock_exit_ne (by decide) ?_
    |((first|refine AW_region_AO ?_);simp [gsV, vl, NetD.cells, hlt, hlt', hx, w1, hx0, hby])
    |(refine Split.by2 (fun h=>?_) (fun h=>?_)<;>(simp [h, gsV, vl, NetD.cells, hlt, hlt', hx, w1, hx0, hby]))
    |refine ct rfl ?_|refine cf rfl ?_|refine cnd rfl (fun h=>?_) (fun h=>?_)|refine cd rfl (fun h=>?_) (fun h=>?_)|refine cn rfl (fun h=>?_) (fun h=>?_)|refine cc rfl (fun h=>?_) (fun h=>?_)
    |(apply hK;clear hK K)|(refine AWh (by assumption) ?_))
        refine ⟨q + 1, a ++ [(q : Int) + 1], hF, ⟨rfl, by simp; omega⟩, ?_⟩
        apply Weak.mk' <;> simp [vl, NetD.cells]
      · rw [if_neg hx0] at hF
        repeat' (first
    |refine AW_seq_k fun K hK=>?_|refine Step.by1 ?_|refine SBlock_exit_ne (by decide) ?_
    |((first|refine AW_region_AO ?_);simp [gsV, vl, NetD.cells, hlt, hlt', hx, w1, hx0])
    |(refine Split.by2 (fun h=>?_) (fun h=>?_)<;>(simp [h, gsV, vl, NetD.cells, hlt, hlt', hx, w1, hx0]))
    |refine ct rfl ?_|refine cf rfl ?_|refine cnd rfl (fun h=>?_) (fun h=>?_)|refine cd rfl (fun h=>?_) (fun h=>?_)|refine cn rfl (fun h=>?_) (fun h=>?_)|refine cc rfl (fun h=>?_) (fun h=>?_)
    |(apply hK;clear hK K)|(refine AWh (by assumption) ?_))
        refine ⟨q + 1, a, hF, ⟨rfl, by show a.length ≤ q + 1; omega⟩, ?_⟩
        apply Weak.mk' <;> simp [vl, NetD.cells]
    · rintro ⟨q, a⟩ ⟨hq, hal⟩ hF
      rw [keptF_nil] at hF
      simp only at hq hal hF
      subst hF
      repeat' (first
    |refine AW_seq_k fun K hK=>?_|refine Step.by1 ?_|refine SBlock_exit_ne (by decide) ?_
    |((first|refine AW_region_AO ?_);simp [gsV, vl, NetD.cells])
    |(refine Split.by2 (fun h=>?_) (fun h=>?_)<;>(simp [h, gsV, vl, NetD.cells]))
    |refine ct rfl ?_|refine cf rfl ?_|refine cnd rfl (fun h=>?_) (fun h=>?_)|refine cd rfl (fun h=>?_) (fun h=>?_)|refine cn rfl (fun h=>?_) (fun h=>?_)|refine cc rfl (fun h=>?_) (fun h=>?_)
    |(apply hK;clear hK K)|(refine AWh (by assumption) ?_))
      exact retq1 (.inr (.inl (conv1_own rfl (by simp))))
end Go.Proofs.YtgmlimipejcpgaaGreatDoor
end

section
set_option linter.unusedVariables false
set_option linter.unusedSimpArgs false
namespace Go.Proofs.YtgmlimipejcpgaaGreatDoor
open Go Go.AM Fx
/-! A book of lists of ints: its heap. -/
/-- All references lead into the heap. -/
def HL (h : List B) : Prop := ∀ y ∈ h, y.lt h.length
theorem HL.set {h : List B} (hl : HL h) {i : Nat} {y : B} (hy : y.lt h.length) : HL (h.set i y) := fun z hz => by
  rw [List.length_set]
  rcases List.mem_or_eq_of_mem_set hz with h | h
  · exact hl z h
  · subst h; exact hy
theorem HL.get {h : List B} (hl : HL h) {i : Nat} {y : B} (hy : h[i]? = some y) : y.lt h.length := hl y (List.mem_of_getElem? hy)
theorem HL.push {h : List B} (hl : HL h) {y : B} (hy : y.lt (h.length + 1)) : HL (h ++ [y]) := fun z hz => by
  rw [List.length_append, List.length_singleton]
  rcases List.mem_append.1 hz with h | h
  · exact B.lt_mono (by omega) (hl z h)
  · rw [List.mem_singleton.1 h]; exact hy
theorem set_same {α : Type} {l : List α} {i : Nat} {a : α} (h : l[i]? = some a) : l.set i a = l := by
  obtain ⟨h1, h2⟩ := List.getElem?_eq_some_iff.1 h
  rw [← h2]; simp
theorem get_set_ne {h : List B} {i j : Nat} {y : B} (hne : i ≠ j) : (h.set i y)[j]? = h[j]? := by rw [List.getElem?_set, if_neg hne]
theorem get_set_eq {h : List B} {i : Nat} {y z : B} (hi : h[i]? = some z) : (h.set i y)[i]? = some y := by
  have := (List.getElem?_eq_some_iff.1 hi).1
  rw [List.getElem?_set, if_pos rfl, if_pos this]
def ivs (l : List Int) : List (List V) := l.map fun k => [V.int .i64 k]
def bookB (r g m : Nat) : B := .var [.nils, .nils, .ref r g 0 m, .nils, .nils, .nils, .nils, .nils, .nils, .nils, .nils, .nils, .nils, .nils]
def rv (x : Nat × Nat × Nat) : V := .ref x.1 x.2.1 0 x.2.2
theorem rowF_lt {T g f n : Nat} {xs : List (List V)} : (B.row T g f true xs).lt n := .inl rfl
theorem rowR_lt {T g f n : Nat} {fl : Bool} {xs : List (List V)} (h : ∀ x ∈ xs, V.lts n x = true) : (B.row T g f fl xs).lt n := .inr h
theorem bookB_lt {r g m n : Nat} (h : r < n) : (bookB r g m).lt n := by simp [bookB, h]
theorem bookB_r {r g m n : Nat} (h : (bookB r g m).lt n) : r < n := by simpa [bookB] using h
/-- A book of rows of one's own, no two of them the same. -/
structure Pre (h : List B) (bk r g : Nat) (refs : List (Nat × Nat × Nat)) : Prop where
  hl : HL h
  bk : h[bk]? = some (bookB r g refs.length)
  rr : h[r]? = some (.row 47 g 0 false (refs.map fun x => [rv x]))
  rows : ∀ (j : Nat) (x : Nat × Nat × Nat), refs[j]? = some x → ∃ ns, h[x.1]? = some (.row 3 x.2.1 0 true (ivs ns)) ∧ ns.length = x.2.2
  inj : ∀ (i j : Nat) (x y : Nat × Nat × Nat), refs[i]? = some x → refs[j]? = some y → x.1 = y.1 → i = j
/-- While each list is written. -/
structure P1 (h : List B) (bk r g : Nat) (refs : List (Nat × Nat × Nat)) (i k : Nat) (hc : List B) : Prop where
  len : hc.length = h.length
  hl : HL hc
  bk : hc[bk]? = some (bookB r g refs.length)
  rr : hc[r]? = some (.row 47 g 0 false (refs.map fun x => [rv x]))
  rows : ∀ (j : Nat) (x : Nat × Nat × Nat), refs[j]? = some x → ∃ ns, hc[x.1]? = some (.row 3 x.2.1 0 true (ivs ns)) ∧ ns.length = x.2.2 ∧ ∀ q, q < x.2.2 → (j < i ∨ (j = i ∧ q < k)) → ns[q]? = some (-9000 - (j : Int))
  inj : ∀ (i j : Nat) (x y : Nat × Nat × Nat), refs[i]? = some x → refs[j]? = some y → x.1 = y.1 → i = j
  rest : ∀ b, b ≠ r → (∀ x ∈ refs, x.1 ≠ b) → hc[b]? = h[b]?
section
variable {h hc : List B} {bk r g i k : Nat} {refs : List (Nat × Nat × Nat)}
theorem Pre.p1 (p : Pre h bk r g refs) : P1 h bk r g refs 0 0 h :=
  ⟨rfl, p.hl, p.bk, p.rr, fun j x hx => by
    obtain ⟨ns, h1, h2⟩ := p.rows j x hx
    exact ⟨ns, h1, h2, fun q hq hj => by omega⟩, p.inj, fun _ _ _ => rfl⟩
theorem ne_bk {x : Nat × Nat × Nat} {ns : List (List V)} {f : Nat} {fl : Bool} (hb : hc[bk]? = some (bookB r g k)) (hx : hc[x.1]? = some (.row 3 x.2.1 f fl ns)) : x.1 ≠ bk := fun e => by
  rw [e, hb] at hx; cases hx
theorem ne_r {x : Nat × Nat × Nat} {ns cs : List (List V)} {f : Nat} {fl : Bool} {g' : Nat} (hr : hc[r]? = some (.row 47 g 0 false cs)) (hx : hc[x.1]? = some (.row 3 g' f fl ns)) : x.1 ≠ r := fun e => by
  rw [e, hr] at hx; cases hx
theorem bk_ne_r {cs : List (List V)} (hb : hc[bk]? = some (bookB r g k)) (hr : hc[r]? = some (.row 47 g 0 false cs)) : bk ≠ r := fun e => by
  rw [e, hr] at hb; cases hb
theorem P1.step (p : P1 h bk r g refs i k hc) {x : Nat × Nat × Nat} (hx : refs[i]? = some x) {ns : List Int} (hr : hc[x.1]? = some (.row 3 x.2.1 0 true (ivs ns))) (hn : ns.length = x.2.2) (hk : k < x.2.2) :
    P1 h bk r g refs i (k + 1) (hc.set x.1 (.row 3 x.2.1 0 true (ivs (ns.set k (-9000 - (i : Int)))))) := by
  have n1 : x.1 ≠ bk := fun e => by have := p.bk; rw [e, this] at hr; cases hr
  have n2 := ne_r p.rr hr
  refine ⟨by rw [List.length_set]; exact p.len, p.hl.set rowF_lt, by rw [get_set_ne n1]; exact p.bk, by rw [get_set_ne n2]; exact p.rr, fun j y hy => ?_, p.inj, fun b hb hb' => by rw [get_set_ne (hb' x (List.mem_of_getElem? hx))]; exact p.rest b hb hb'⟩
  by_cases e : j = i
  · subst e
    obtain rfl : x = y := by rw [hx] at hy; cases hy; rfl
    obtain ⟨ms, h1, h2, h3⟩ := p.rows j x hx
    have : ms = ns := by
      rw [hr] at h1
      simp only [Option.some.injEq, B.row.injEq, true_and] at h1
      have inj : ∀ (a b : List Int), ivs a = ivs b → a = b := fun a => by
        induction a with
        | nil => intro b hb; cases b <;> simp [ivs] at hb ⊢
        | cons z a ih =>
          intro b hb
          cases b with
          | nil => simp [ivs] at hb
          | cons w b =>
            simp only [ivs, List.map_cons, List.cons.injEq, V.int.injEq, true_and, and_true] at hb
            rw [hb.1, ih b hb.2]
      exact (inj _ _ h1).symm
    subst this
    refine ⟨_, get_set_eq hr, by simp [hn], fun q hq hj => ?_⟩
    rw [List.getElem?_set]
    by_cases e : k = q
    · subst e; rw [if_pos rfl, if_pos (by omega)]
    · rw [if_neg e]; exact h3 q hq (by omega)
  · obtain ⟨ms, h1, h2, h3⟩ := p.rows j y hy
    have hne : x.1 ≠ y.1 := fun e' => e (p.inj i j x y hx hy e').symm
    exact ⟨ms, by rw [get_set_ne hne]; exact h1, h2, fun q hq hj => h3 q hq (by omega)⟩
theorem P1.next (p : P1 h bk r g refs i k hc) {x : Nat × Nat × Nat} (hx : refs[i]? = some x) (hk : k = x.2.2) : P1 h bk r g refs (i + 1) 0 hc :=
  ⟨p.len, p.hl, p.bk, p.rr, fun j y hy => by
    obtain ⟨ms, h1, h2, h3⟩ := p.rows j y hy
    refine ⟨ms, h1, h2, fun q hq hj => h3 q hq ?_⟩
    by_cases e : j = i
    · subst e
      obtain rfl : x = y := by rw [hx] at hy; cases hy; rfl
      omega
    · omega, p.inj, p.rest⟩
/-- All places the same. -/
def repV (n : Nat) (v : Int) : List (List V) := List.replicate n [V.int .i64 v]
theorem ivs_rep {ns : List Int} {n : Nat} {v : Int} (hn : ns.length = n) (h : ∀ q, q < n → ns[q]? = some v) : ivs ns = repV n v := by
  have : ns = List.replicate n v := by
    apply List.ext_getElem?
    intro q
    by_cases hq : q < n
    · rw [h q hq]; simp [hq]
    · rw [List.getElem?_eq_none (by omega), List.getElem?_eq_none (by simp; omega)]
  subst this
  simp [ivs, repV]
/-- While each list is grown. -/
structure P2 (h : List B) (bk r g : Nat) (refs : List (Nat × Nat × Nat)) (i : Nat) (hc : List B) : Prop where
  len : hc.length = h.length + 1
  hl : HL hc
  bk : hc[bk]? = some (bookB r g refs.length)
  rr : ∃ cs : List (List V), hc[r]? = some (.row 47 g 0 false cs) ∧ cs.length = refs.length ∧ ∀ (j : Nat) (x : Nat × Nat × Nat), refs[j]? = some x → cs[j]? = some [if j < i then .vec (repV x.2.2 (-9000 - (j : Int))) x.2.2 else rv x]
  all : ∃ (fl : Bool) (ds : List (List V)), hc[h.length]? = some (.row 47 i 0 fl ds) ∧ ds.length = i ∧ ∀ (j : Nat) (x : Nat × Nat × Nat), j < i → refs[j]? = some x → ds[j]? = some [.ref x.1 (x.2.1 + 20) 0 (x.2.2 + 20)]
  rows : ∀ (j : Nat) (x : Nat × Nat × Nat), refs[j]? = some x → hc[x.1]? = some (if j < i then .row 3 (x.2.1 + 20) x.2.2 true (repV (x.2.2 + 20) (-9000 - (j : Int))) else .row 3 x.2.1 0 true (repV x.2.2 (-9000 - (j : Int))))
  inj : ∀ (i j : Nat) (x y : Nat × Nat × Nat), refs[i]? = some x → refs[j]? = some y → x.1 = y.1 → i = j
  rest : ∀ b, b < h.length → b ≠ r → (∀ x ∈ refs, x.1 ≠ b) → hc[b]? = h[b]?
theorem P1.p2 (p : P1 h bk r g refs refs.length 0 hc) : P2 h bk r g refs 0 (hc ++ [.row 47 0 0 true []]) := by
  have hlt : ∀ {b : Nat} {y : B}, hc[b]? = some y → (hc ++ [B.row 47 0 0 true []])[b]? = some y := fun {b y} hy => by
    rw [List.getElem?_append_left (List.getElem?_eq_some_iff.1 hy).1]; exact hy
  refine ⟨by rw [List.length_append, p.len]; rfl, p.hl.push rowF_lt, hlt p.bk, ⟨_, hlt p.rr, by simp, fun j x hx => ?_⟩, ⟨true, [], ?_, rfl, fun j x hj => by omega⟩, fun j x hx => ?_, p.inj, fun b hb hb1 hb2 => ?_⟩
  · rw [List.getElem?_map, hx, if_neg (by omega)]; rfl
  · rw [← p.len]; simp
  · obtain ⟨ns, h1, h2, h3⟩ := p.rows j x hx
    have hj := (List.getElem?_eq_some_iff.1 hx).1
    rw [if_neg (by omega), hlt h1, ivs_rep h2 fun q hq => h3 q hq (.inl hj)]
  · rw [List.getElem?_append_left (by rw [p.len]; exact hb)]; exact p.rest b hb1 hb2
/-- The heap while the list i is grown: k places more. -/
def grown (hc : List B) (r g i : Nat) (cs : List (List V)) (x : Nat × Nat × Nat) (v : Int) (k : Nat) : List B :=
  (hc.set r (.row 47 g 0 false (cs.set i [.vec (repV x.2.2 v) x.2.2]))).set x.1 (.row 3 (x.2.1 + k) x.2.2 true (repV (x.2.2 + k) v))
theorem grown_succ {hc : List B} {r g i k : Nat} {cs : List (List V)} {x : Nat × Nat × Nat} {v : Int} : grown hc r g i cs x v (k + 1) = (grown hc r g i cs x v k).set x.1 (.row 3 (x.2.1 + (k + 1)) x.2.2 true (repV (x.2.2 + (k + 1)) v)) := by
  simp [grown]
theorem P2.grows (p : P2 h bk r g refs i hc) {x : Nat × Nat × Nat} (hx : refs[i]? = some x) {cs ds : List (List V)} {fl : Bool} (hcs : hc[r]? = some (.row 47 g 0 false cs)) (hds : hc[h.length]? = some (.row 47 i 0 fl ds)) (v : Int) (k : Nat) :
    (grown hc r g i cs x v k).length = h.length + 1 ∧ HL (grown hc r g i cs x v k) ∧ (grown hc r g i cs x v k)[h.length]? = some (.row 47 i 0 fl ds) ∧
    (grown hc r g i cs x v k)[x.1]? = some (.row 3 (x.2.1 + k) x.2.2 true (repV (x.2.2 + k) v)) ∧ x.1 ≠ bk ∧ x.1 ≠ r ∧ bk ≠ r ∧ x.1 ≠ h.length ∧ bk ≠ h.length ∧ r ≠ h.length := by
  have hrow := p.rows i x hx
  rw [if_neg (by omega)] at hrow
  have n1 : x.1 ≠ bk := fun e => by have := p.bk; rw [e, this] at hrow; cases hrow
  have n2 : x.1 ≠ r := ne_r hcs hrow
  have n3 : bk ≠ r := bk_ne_r p.bk hcs
  have n4 : x.1 ≠ h.length := fun e => by rw [e, hds] at hrow; cases hrow
  have n5 : bk ≠ h.length := fun e => by have := p.bk; rw [e, hds] at this; cases this
  have n6 : r ≠ h.length := fun e => by
    have hr : r < hc.length := (List.getElem?_eq_some_iff.1 hcs).1
    have h1 := (p.hl.get hcs)
    have h2 := p.hl.get p.bk
    obtain ⟨cs', q1, q2, q3⟩ := p.rr
    obtain ⟨fl', ds', t1, t2, t3⟩ := p.all
    rw [e, t1] at q1
    have hi := (List.getElem?_eq_some_iff.1 hx).1
    cases q1
    omega
  have hi := (List.getElem?_eq_some_iff.1 hx).1
  obtain ⟨cs', q1, q2, q3⟩ := p.rr
  obtain rfl : cs' = cs := by rw [hcs] at q1; cases q1; rfl
  obtain ⟨fl', ds', t1, t2, t3⟩ := p.all
  obtain ⟨rfl, rfl⟩ : fl' = fl ∧ ds' = ds := by rw [hds] at t1; cases t1; exact ⟨rfl, rfl⟩
  have hxl : x.1 < h.length + 1 := by rw [← p.len]; exact (List.getElem?_eq_some_iff.1 hrow).1
  have hcsl : ∀ y ∈ cs'.set i [V.vec (repV x.2.2 v) x.2.2], V.lts hc.length y = true := fun y hy => by
    rcases List.mem_or_eq_of_mem_set hy with h | h
    · exact ((p.hl.get hcs).resolve_left (by simp)) y h
    · subst h; simp
  have e1 : (hc.set r (.row 47 g 0 false (cs'.set i [V.vec (repV x.2.2 v) x.2.2])))[x.1]? = hc[x.1]? := get_set_ne (fun e => n2 e.symm)
  exact ⟨by simp only [Go.Proofs.YtgmlimipejcpgaaGreatDoor.grown, List.length_set]; exact p.len, (p.hl.set (rowR_lt hcsl)).set rowF_lt, by rw [Go.Proofs.YtgmlimipejcpgaaGreatDoor.grown, get_set_ne n4, get_set_ne n6]; exact t1, get_set_eq (e1.trans hrow), n1, n2, n3, n4, n5, n6⟩
theorem P2.step (p : P2 h bk r g refs i hc) {x : Nat × Nat × Nat} (hx : refs[i]? = some x) {cs ds : List (List V)} {fl : Bool} (hcs : hc[r]? = some (.row 47 g 0 false cs)) (hds : hc[h.length]? = some (.row 47 i 0 fl ds)) :
    P2 h bk r g refs (i + 1) ((grown hc r g i cs x (-9000 - (i : Int)) 20).set h.length (.row 47 (i + 1) 0 false (ds ++ [[.ref x.1 (x.2.1 + 20) 0 (x.2.2 + 20)]]))) := by
  obtain ⟨hg_len, hg_hl, hg_all, hg_x, n1, n2, n3, n4, n5, n6⟩ := p.grows hx hcs hds (-9000 - (i : Int)) 20
  have hrow := p.rows i x hx
  rw [if_neg (by omega)] at hrow
  have hi := (List.getElem?_eq_some_iff.1 hx).1
  obtain ⟨cs', q1, q2, q3⟩ := p.rr
  obtain rfl : cs' = cs := by rw [hcs] at q1; cases q1; rfl
  obtain ⟨fl', ds', t1, t2, t3⟩ := p.all
  obtain ⟨rfl, rfl⟩ : fl' = fl ∧ ds' = ds := by rw [hds] at t1; cases t1; exact ⟨rfl, rfl⟩
  have hxl : x.1 < h.length + 1 := by rw [← p.len]; exact (List.getElem?_eq_some_iff.1 hrow).1
  have hdl : ∀ y ∈ ds' ++ [[V.ref x.1 (x.2.1 + 20) 0 (x.2.2 + 20)]], V.lts (h.length + 1) y = true := fun y hy => by
    rcases List.mem_append.1 hy with h | h
    · obtain ⟨j, hj⟩ := List.getElem?_of_mem h
      have hjl := (List.getElem?_eq_some_iff.1 hj).1
      have hjr : j < refs.length := by omega
      have := t3 j refs[j] (by omega) (List.getElem?_eq_getElem hjr)
      rw [hj] at this; cases this
      have h5 := p.rows j refs[j] (List.getElem?_eq_getElem hjr)
      have h6 := (List.getElem?_eq_some_iff.1 h5).1
      rw [p.len] at h6
      simp [h6]
    · rw [List.mem_singleton.1 h]; simp [hxl]
  refine ⟨by rw [List.length_set]; exact hg_len, hg_hl.set (rowR_lt (by rw [hg_len]; exact hdl)), ?_, ⟨cs'.set i [V.vec (repV x.2.2 (-9000 - (i : Int))) x.2.2], ?_, by rw [List.length_set]; exact q2, fun j y hy => ?_⟩, ⟨false, ds' ++ [[.ref x.1 (x.2.1 + 20) 0 (x.2.2 + 20)]], get_set_eq hg_all, by simp [t2], fun j y hj hy => ?_⟩, fun j y hy => ?_, p.inj, fun b hb hb1 hb2 => ?_⟩
  · rw [get_set_ne (fun e => n5 e.symm), Go.Proofs.YtgmlimipejcpgaaGreatDoor.grown, get_set_ne n1, get_set_ne (fun e => n3 e.symm)]; exact p.bk
  · rw [get_set_ne (fun e => n6 e.symm), Go.Proofs.YtgmlimipejcpgaaGreatDoor.grown, get_set_ne n2]; exact get_set_eq hcs
  · rw [List.getElem?_set]
    by_cases e : i = j
    · subst e
      obtain rfl : x = y := by rw [hx] at hy; cases hy; rfl
      rw [if_pos rfl, if_pos (by omega), if_pos (by omega)]
    · rw [if_neg e, q3 j y hy]
      by_cases e2 : j < i
      · rw [if_pos e2, if_pos (by omega)]
      · rw [if_neg e2, if_neg (by omega)]
  · by_cases e : j = i
    · subst e
      obtain rfl : x = y := by rw [hx] at hy; cases hy; rfl
      rw [List.getElem?_append_right (by omega), t2]; simp
    · rw [List.getElem?_append_left (by omega)]; exact t3 j y (by omega) hy
  · have hjn : y.1 ≠ h.length := fun e => by
      have h5 := p.rows j y hy
      rw [e, t1] at h5
      by_cases e2 : j < i
      · rw [if_pos e2] at h5; cases h5
      · rw [if_neg e2] at h5; cases h5
    rw [get_set_ne (fun e => hjn e.symm), Go.Proofs.YtgmlimipejcpgaaGreatDoor.grown]
    by_cases e : j = i
    · subst e
      obtain rfl : x = y := by rw [hx] at hy; cases hy; rfl
      rw [if_pos (by omega)]
      exact get_set_eq (z := .row 3 x.2.1 0 true (repV x.2.2 (-9000 - (j : Int)))) (by rw [get_set_ne (fun e => n2 e.symm)]; exact hrow)
    · have hne : x.1 ≠ y.1 := fun e' => e (p.inj i j x y hx hy e').symm
      have h5 := p.rows j y hy
      have hyr : r ≠ y.1 := fun e' => by
        rw [← e', hcs] at h5
        by_cases e2 : j < i
        · rw [if_pos e2] at h5; cases h5
        · rw [if_neg e2] at h5; cases h5
      rw [get_set_ne hne, get_set_ne hyr, h5]
      by_cases e2 : j < i
      · rw [if_pos e2, if_pos (by omega)]
      · rw [if_neg e2, if_neg (by omega)]
  · rw [get_set_ne (by omega), Go.Proofs.YtgmlimipejcpgaaGreatDoor.grown, get_set_ne (hb2 x (List.mem_of_getElem? hx)), get_set_ne (fun e => hb1 e.symm)]; exact p.rest b hb hb1 hb2
end
end Go.Proofs.YtgmlimipejcpgaaGreatDoor
end

section
set_option linter.unusedVariables false
set_option linter.unusedSimpArgs false
namespace Go.Proofs.YtgmlimipejcpgaaGreatDoor
open Go Go.AM Fx
/-! A book of lists of ints: what takes a list, what writes and grows each. -/
theorem Leaves.symx {h0 h x : List B} (h1 : h0.length ≤ h.length) (hl : HL h) : Go.AM.Leaves h0 (h ++ x) h :=
  ⟨h1, by simp, fun b y hy => .inr ⟨by rw [List.getElem?_append_left (List.getElem?_eq_some_iff.1 hy).1]; exact hy, .inr (hl.get hy)⟩⟩
theorem set_app {h x : List B} {i : Nat} {y : B} (hi : i < h.length) : (h ++ x).set i y = h.set i y ++ x := by rw [List.set_append, if_pos hi]
theorem get_app {h x : List B} {i : Nat} (hi : i < h.length) : (h ++ x)[i]? = h[i]? := List.getElem?_append_left hi
set_option maxHeartbeats 4000000 in
theorem g_Take {h : List B} {bk r g m b gb len : Nat} {fl : Bool} {xs : List (List V)} (hl : HL h) (h1 : h[bk]? = some (bookB r g m)) (h2 : h[r]? = some (.row 47 g 0 fl xs)) (hxs : ∀ x ∈ xs, V.lts h.length x = true) (hm : xs.length = m) (hb : b < h.length) (hmm : m ≤ 1099511627776) :
    GCall Tryz.prog GV 31 [.ptr bk 0, .ref b gb 0 len] h (fun v h' => v = .tup [] ∧ h' = (h.set r (.row 47 (g + 1) 0 false (xs ++ [[.ref b gb 0 len]]))).set bk (bookB r (g + 1) (m + 1))) := by
  have hbk := (List.getElem?_eq_some_iff.1 h1).1
  have hr := (List.getElem?_eq_some_iff.1 h2).1
  have hne : r ≠ bk := fun e => by rw [e, h1] at h2; cases h2
  have hby : (m + 1) * 24 ≤ 140737488355328 := by omega
  subst hm
  have hxl : ∀ x ∈ xs ++ [[V.ref b gb 0 len]], V.lts h.length x = true := fun x hx => by
    rcases List.mem_append.1 hx with hx | hx
    · exact hxs x hx
    · rw [List.mem_singleton.1 hx]; simp [hb]
  have hl2 : HL ((h.set r (.row 47 (g + 1) 0 false (xs ++ [[.ref b gb 0 len]]))).set bk (bookB r (g + 1) (xs.length + 1))) :=
    (hl.set (rowR_lt hxl)).set (by rw [List.length_set]; exact bookB_lt hr)
  have hbk2 : bk < (h.set r (B.row 47 (g + 1) 0 false (xs ++ [[V.ref b gb 0 len]]))).length := by rw [List.length_set]; exact hbk
  refine GCall_body Tryz.func31 rfl (by decide) Tryz.ntmps31 (by simp) Tryz.results31 ?_
  repeat' (first
    |refine AW_seq_k fun K hK=>?_|refine Step.by1 ?_|refine SBlock_exit_ne (by decide) ?_
    |((first|refine AW_region_AO ?_);simp [h1, h2, get_app hbk, get_app hr, get_set_ne hne, hby, bookB, hb])
    |(refine Split.by2 (fun h=>?_) (fun h=>?_)<;>(simp [h, h1, h2, get_app hbk, get_app hr, get_set_ne hne, hby, bookB, hb]))
    |refine ct rfl ?_|refine cf rfl ?_|refine cnd rfl (fun h=>?_) (fun h=>?_)|refine cd rfl (fun h=>?_) (fun h=>?_)|refine cn rfl (fun h=>?_) (fun h=>?_)|refine cc rfl (fun h=>?_) (fun h=>?_)
    |(apply hK;clear hK K)|(refine AWh (by assumption) ?_))
  refine ⟨.inl rfl, _, _, ⟨[], rfl, trivial⟩, ⟨rfl, rfl⟩, rfl, ?_⟩
  have := Go.Proofs.YtgmlimipejcpgaaGreatDoor.Leaves.symx (h0 := h) (x := [.row 47 0 0 false [[V.ref b gb 0 len]]]) (by simp) hl2
  simpa [bookB, set_app hr, set_app hbk2] using this
set_option maxRecDepth 20000 in
set_option maxHeartbeats 16000000 in
theorem g_aloneInts {h : List B} {bk r g : Nat} {refs : List (Nat × Nat × Nat)} (p : Pre h bk r g refs) (hm : refs.length ≤ 1099511627776) (hlen : ∀ x ∈ refs, x.2.2 ≤ 1099511627776) :
    GCall Tryz.prog GV 86 [.ptr bk 0] h (fun v h' => v = .bool true ∧ h'[bk]? = some (bookB r g refs.length) ∧ HL h' ∧ h.length ≤ h'.length ∧ ∀ b, b < h.length → b ≠ r → (∀ x ∈ refs, x.1 ≠ b) → h'[b]? = h[b]?) := by
  have hbk := (List.getElem?_eq_some_iff.1 p.bk).1
  refine GCall_body Tryz.func86 rfl (by decide) Tryz.ntmps86 (by simp) Tryz.results86 ?_
  repeat' (first
    |refine AW_seq_k fun K hK=>?_|refine Step.by1 ?_|refine SBlock_exit_ne (by decide) ?_
    |((first|refine AW_region_AO ?_);simp)
    |(refine Split.by2 (fun h=>?_) (fun h=>?_)<;>(simp [h]))
    |refine ct rfl ?_|refine cf rfl ?_|refine cnd rfl (fun h=>?_) (fun h=>?_)|refine cd rfl (fun h=>?_) (fun h=>?_)|refine cn rfl (fun h=>?_) (fun h=>?_)|refine cc rfl (fun h=>?_) (fun h=>?_)
    |(apply hK;clear hK K)|(refine AWh (by assumption) ?_))
  refine AW_loopL [0] (fun s : Nat × List B => [(3, .int .i64 s.1)]) (fun s => s.2) (fun s => s.1 ≤ refs.length ∧ P1 h bk r g refs s.1 0 s.2) (fun s => refs.length - s.1) (0, h) ⟨Nat.zero_le _, p.p1⟩ (Weak.sym (x := []) (by simp) p.hl (by simp [hbk])) (fun s hs => hs.2.len) ?_
  rintro ⟨i, hc⟩ ⟨hi, q⟩
  simp only at hi q
  have hbc : bk < hc.length := by rw [q.len]; exact hbk
  by_cases hlt : i < refs.length
  · obtain ⟨x, hx⟩ : ∃ x, refs[i] = x := ⟨_, rfl⟩
    have hx' : refs[i]? = some x := by rw [List.getElem?_eq_getElem hlt, hx]
    have hxl := hlen x (List.mem_of_getElem? hx')
    have hlt' : (i : Int) < refs.length := by omega
    have w1 : IntKind.i64.wrap ((i : Int) + 1) = i + 1 := wrap_i64 (by omega) (by omega)
    have w2 : IntKind.i64.wrap (-9000 - (i : Int)) = -9000 - i := wrap_i64 (by omega) (by omega)
    repeat' (first
    |refine AW_seq_k fun K hK=>?_|refine Step.by1 ?_|refine SBlock_exit_ne (by decide) ?_
    |((first|refine AW_region_AO ?_);simp [q.bk, q.rr, bookB, rv, hlt, hlt', hx])
    |(refine Split.by2 (fun h=>?_) (fun h=>?_)<;>(simp [h, q.bk, q.rr, bookB, rv, hlt, hlt', hx]))
    |refine ct rfl ?_|refine cf rfl ?_|refine cnd rfl (fun h=>?_) (fun h=>?_)|refine cd rfl (fun h=>?_) (fun h=>?_)|refine cn rfl (fun h=>?_) (fun h=>?_)|refine cc rfl (fun h=>?_) (fun h=>?_)
    |(apply hK;clear hK K)|(refine AWh (by assumption) ?_))
    refine AW_loopL [0, 3] (fun s : Nat × List B => [(4, .int .i64 s.1)]) (fun s => s.2) (fun s => s.1 ≤ x.2.2 ∧ P1 h bk r g refs i s.1 s.2) (fun s => x.2.2 - s.1) (0, hc) ⟨Nat.zero_le _, q⟩ (Weak.sym (x := []) (by simp) q.hl (by simp [hbc])) (fun s hs => by rw [hs.2.len]; exact q.len.symm) ?_
    rintro ⟨k, hd⟩ ⟨hk, q2⟩
    simp only at hk q2
    have hbd : bk < hd.length := by rw [q2.len]; exact hbk
    obtain ⟨ns, n1, n2, n3⟩ := q2.rows i x hx'
    by_cases hkt : k < x.2.2
    · have st := q2.step hx' n1 n2 hkt
      have hkt' : (k : Int) < x.2.2 := by omega
      have w3 : IntKind.i64.wrap ((k : Int) + 1) = k + 1 := wrap_i64 (by omega) (by omega)
      repeat' (first
    |refine AW_seq_k fun K hK=>?_|refine Step.by1 ?_|refine SBlock_exit_ne (by decide) ?_
    |((first|refine AW_region_AO ?_);simp [q2.bk, q2.rr, bookB, rv, hlt, hlt', hx, n1, n2, hkt, hkt', w2, w3, ivs])
    |(refine Split.by2 (fun h=>?_) (fun h=>?_)<;>(simp [h, q2.bk, q2.rr, bookB, rv, hlt, hlt', hx, n1, n2, hkt, hkt', w2, w3, ivs]))
    |refine ct rfl ?_|refine cf rfl ?_|refine cnd rfl (fun h=>?_) (fun h=>?_)|refine cd rfl (fun h=>?_) (fun h=>?_)|refine cn rfl (fun h=>?_) (fun h=>?_)|refine cc rfl (fun h=>?_) (fun h=>?_)
    |(apply hK;clear hK K)|(refine AWh (by assumption) ?_))
      refine ⟨k + 1, _, ⟨by omega, st⟩, by omega, Weak.sym (x := []) (by simp [ivs, List.map_set]) st.hl (by simp [hbd])⟩
    · have hkt' : ¬ (k : Int) < x.2.2 := by omega
      repeat' (first
    |refine AW_seq_k fun K hK=>?_|refine Step.by1 ?_|refine SBlock_exit_ne (by decide) ?_
    |((first|refine AW_region_AO ?_);simp [q2.bk, q2.rr, bookB, rv, hlt, hlt', hx, hkt, hkt', w1])
    |(refine Split.by2 (fun h=>?_) (fun h=>?_)<;>(simp [h, q2.bk, q2.rr, bookB, rv, hlt, hlt', hx, hkt, hkt', w1]))
    |refine ct rfl ?_|refine cf rfl ?_|refine cnd rfl (fun h=>?_) (fun h=>?_)|refine cd rfl (fun h=>?_) (fun h=>?_)|refine cn rfl (fun h=>?_) (fun h=>?_)|refine cc rfl (fun h=>?_) (fun h=>?_)
    |(apply hK;clear hK K)|(refine AWh (by assumption) ?_))
      exact ⟨i + 1, hd, ⟨by omega, q2.next hx' (by omega)⟩, by omega, Weak.sym (x := []) (by simp) q2.hl (by simp [hbd])⟩
  · obtain rfl : i = refs.length := by omega
    repeat' (first
    |refine AW_seq_k fun K hK=>?_|refine Step.by1 ?_|refine SBlock_exit_ne (by decide) ?_
    |((first|refine AW_region_AO ?_);simp [q.bk, q.rr, bookB])
    |(refine Split.by2 (fun h=>?_) (fun h=>?_)<;>(simp [h, q.bk, q.rr, bookB]))
    |refine ct rfl ?_|refine cf rfl ?_|refine cnd rfl (fun h=>?_) (fun h=>?_)|refine cd rfl (fun h=>?_) (fun h=>?_)|refine cn rfl (fun h=>?_) (fun h=>?_)|refine cc rfl (fun h=>?_) (fun h=>?_)
    |(apply hK;clear hK K)|(refine AWh (by assumption) ?_))
    refine AW_nilrow 5 47 rfl (by simp) ?_
    have hcl : hc.length = h.length := q.len
    refine AW_loopL [0] (fun s : Nat × List B => [(6, .int .i64 s.1), (5, .ref h.length s.1 0 s.1)]) (fun s => s.2) (fun s => s.1 ≤ refs.length ∧ P2 h bk r g refs s.1 s.2) (fun s => refs.length - s.1) (0, hc ++ [B.row 47 0 0 true []]) ⟨Nat.zero_le _, q.p2⟩ (Weak.sym (x := []) (by simp) q.p2.hl (by simp [hcl]; omega)) (fun s hs => by rw [hs.2.len]; simp [hcl]) ?_
    rintro ⟨i, hc2⟩ ⟨hi, q⟩
    simp only at hi q
    have hbc2 : bk < hc2.length := by rw [q.len]; omega
    obtain ⟨cs, c1, c2, c3⟩ := q.rr
    obtain ⟨fl, ds, d1, d2, d3⟩ := q.all
    by_cases hlt : i < refs.length
    · obtain ⟨x, hx⟩ : ∃ x, refs[i] = x := ⟨_, rfl⟩
      have hx' : refs[i]? = some x := by rw [List.getElem?_eq_getElem hlt, hx]
      have hxl := hlen x (List.mem_of_getElem? hx')
      have hlt' : (i : Int) < refs.length := by omega
      have w1 : IntKind.i64.wrap ((i : Int) + 1) = i + 1 := wrap_i64 (by omega) (by omega)
      have w2 : IntKind.i64.wrap (-9000 - (i : Int)) = -9000 - i := wrap_i64 (by omega) (by omega)
      have hci? := c3 i x hx'
      rw [if_neg (by omega)] at hci?
      have hcl2 : i < cs.length := by omega
      have hci : cs[i] = [rv x] := by rw [List.getElem?_eq_getElem hcl2] at hci?; exact Option.some.inj hci?
      have hrow := q.rows i x hx'
      rw [if_neg (by omega)] at hrow
      have hgr := q.grows hx' c1 d1 (-9000 - (i : Int))
      have hst := q.step hx' c1 d1
      have hgn : ∀ k, Go.Proofs.YtgmlimipejcpgaaGreatDoor.grown hc2 r g i cs x (-9000 - (i : Int)) (k + 1) = _ := fun k => grown_succ
      obtain ⟨_, _, _, _, n1, n2, n3, n4, n5, n6⟩ := hgr 0
      have hql := q.len
      have hxc : x.1 < hc2.length := (List.getElem?_eq_some_iff.1 hrow).1
      have hrc : r < hc2.length := (List.getElem?_eq_some_iff.1 c1).1
      have h0 : (hc2.set x.1 (.row 3 x.2.1 (repV x.2.2 (-9000 - (i : Int))).length true (repV x.2.2 (-9000 - (i : Int))))).set r (.row 47 g 0 false (cs.set i ([rv x].set 0 (.vec ((repV x.2.2 (-9000 - (i : Int))).drop 0) x.2.2)))) = Go.Proofs.YtgmlimipejcpgaaGreatDoor.grown hc2 r g i cs x (-9000 - (i : Int)) 0 := by
        rw [List.set_comm _ _ n2]
        simp [Go.Proofs.YtgmlimipejcpgaaGreatDoor.grown, repV]
      repeat' (first
    |refine AW_seq_k fun K hK=>?_|refine Step.by1 ?_|refine SBlock_exit_ne (by decide) ?_
    |((first|refine AW_region_AO ?_);simp [q.bk, c1, bookB, hlt, hlt', c2, hci, hcl2])
    |(refine Split.by2 (fun h=>?_) (fun h=>?_)<;>(simp [h, q.bk, c1, bookB, hlt, hlt', c2, hci, hcl2]))
    |refine ct rfl ?_|refine cf rfl ?_|refine cnd rfl (fun h=>?_) (fun h=>?_)|refine cd rfl (fun h=>?_) (fun h=>?_)|refine cn rfl (fun h=>?_) (fun h=>?_)|refine cc rfl (fun h=>?_) (fun h=>?_)
    |(apply hK;clear hK K)|(refine AWh (by assumption) ?_))
      refine AW_viewrow r i 0 c1 hci? rfl hrow (by simp [repV]) ?_
      rw [h0]
      refine AW_loopL [0, 5, 6] (fun k : Nat => [(7, .ref x.1 (x.2.1 + k) 0 (x.2.2 + k)), (8, .int .i64 k)]) (fun k => Go.Proofs.YtgmlimipejcpgaaGreatDoor.grown hc2 r g i cs x (-9000 - (i : Int)) k) (fun k => k ≤ 20) (fun k => 20 - k) 0 (by omega) (Weak.sym (x := []) (by simp) (hgr 0).2.1 (by simp [rv, (hgr 0).1]; omega)) (fun k _ => by rw [(hgr k).1]; exact (hgr 0).1.symm) ?_
      intro k hk
      obtain ⟨g1, g2, g3, g4, _⟩ := hgr k
      by_cases hk20 : k < 20
      · obtain ⟨g5, g6, _⟩ := hgr (k + 1)
        have e1 := hgn k
        generalize Go.Proofs.YtgmlimipejcpgaaGreatDoor.grown hc2 r g i cs x (-9000 - (i : Int)) k = hd at *
        have hxd : x.1 < hd.length := by omega
        have hk20' : (k : Int) < 20 := by omega
        have w3 : IntKind.i64.wrap ((k : Int) + 1) = k + 1 := wrap_i64 (by omega) (by omega)
        have hby : (x.2.2 + k + 1) * 8 ≤ 140737488355328 := by omega
        have hrl : (repV (x.2.2 + k) (-9000 - (i : Int))).length = x.2.2 + k := by simp [repV]
        have hrs : repV (x.2.2 + k) (-9000 - (i : Int)) ++ [[V.int .i64 (-9000 - (i : Int))]] = repV (x.2.2 + (k + 1)) (-9000 - (i : Int)) := by
          rw [← Nat.add_assoc]; simp [repV, List.replicate_succ']
        repeat' (first
    |refine AW_seq_k fun K hK=>?_|refine Step.by1 ?_|refine SBlock_exit_ne (by decide) ?_
    |((first|refine AW_region_AO ?_);simp [g4, get_app hxd, hk20, hk20', w2, w3, hby, hrl, hrs])
    |(refine Split.by2 (fun h=>?_) (fun h=>?_)<;>(simp [h, g4, get_app hxd, hk20, hk20', w2, w3, hby, hrl, hrs]))
    |refine ct rfl ?_|refine cf rfl ?_|refine cnd rfl (fun h=>?_) (fun h=>?_)|refine cd rfl (fun h=>?_) (fun h=>?_)|refine cn rfl (fun h=>?_) (fun h=>?_)|refine cc rfl (fun h=>?_) (fun h=>?_)
    |(apply hK;clear hK K)|(refine AWh (by assumption) ?_))
        refine ⟨k + 1, by omega, by omega, Weak.sym (x := [.row 3 0 0 true [[V.int .i64 (-9000 - (i : Int))]]]) (by simp [e1, set_app hxd, Nat.add_assoc]) g6 (by simp [Nat.add_assoc, g5]; omega)⟩
      · obtain rfl : k = 20 := by omega
        generalize Go.Proofs.YtgmlimipejcpgaaGreatDoor.grown hc2 r g i cs x (-9000 - (i : Int)) 20 = hd at *
        have hnd : h.length < hd.length := by omega
        have hby : (i + 1) * 24 ≤ 140737488355328 := by omega
        repeat' (first
    |refine AW_seq_k fun K hK=>?_|refine Step.by1 ?_|refine SBlock_exit_ne (by decide) ?_
    |((first|refine AW_region_AO ?_);simp [g3, get_app hnd, w1, hby, d2])
    |(refine Split.by2 (fun h=>?_) (fun h=>?_)<;>(simp [h, g3, get_app hnd, w1, hby, d2]))
    |refine ct rfl ?_|refine cf rfl ?_|refine cnd rfl (fun h=>?_) (fun h=>?_)|refine cd rfl (fun h=>?_) (fun h=>?_)|refine cn rfl (fun h=>?_) (fun h=>?_)|refine cc rfl (fun h=>?_) (fun h=>?_)
    |(apply hK;clear hK K)|(refine AWh (by assumption) ?_))
        refine ⟨i + 1, _, ⟨by omega, hst⟩, by omega, Weak.sym (x := [.row 47 0 0 false [[V.ref x.1 (x.2.1 + 20) 0 (x.2.2 + 20)]]]) (by simp [set_app hnd]) hst.hl (by simp; omega)⟩
    · obtain rfl : i = refs.length := by omega
      have hql := q.len
      repeat' (first
    |refine AW_seq_k fun K hK=>?_|refine Step.by1 ?_|refine SBlock_exit_ne (by decide) ?_
    |((first|refine AW_region_AO ?_);simp [q.bk, c1, bookB, c2])
    |(refine Split.by2 (fun h=>?_) (fun h=>?_)<;>(simp [h, q.bk, c1, bookB, c2]))
    |refine ct rfl ?_|refine cf rfl ?_|refine cnd rfl (fun h=>?_) (fun h=>?_)|refine cd rfl (fun h=>?_) (fun h=>?_)|refine cn rfl (fun h=>?_) (fun h=>?_)|refine cc rfl (fun h=>?_) (fun h=>?_)
    |(apply hK;clear hK K)|(refine AWh (by assumption) ?_))
      refine AW_loopL [0, 5] (fun i : Nat => [(9, .int .i64 i)]) (fun _ => hc2) (fun i => i ≤ refs.length) (fun i => refs.length - i) 0 (Nat.zero_le _) (Weak.sym (x := []) (by simp) q.hl (by simp; omega)) (fun _ _ => rfl) ?_
      intro i hi3
      by_cases hlt3 : i < refs.length
      · obtain ⟨x, hx⟩ : ∃ x, refs[i] = x := ⟨_, rfl⟩
        have hx' : refs[i]? = some x := by rw [List.getElem?_eq_getElem hlt3, hx]
        have hxl := hlen x (List.mem_of_getElem? hx')
        have hlt' : (i : Int) < refs.length := by omega
        have w1 : IntKind.i64.wrap ((i : Int) + 1) = i + 1 := wrap_i64 (by omega) (by omega)
        have w2 : IntKind.i64.wrap (-9000 - (i : Int)) = -9000 - i := wrap_i64 (by omega) (by omega)
        have hci? := c3 i x hx'
        rw [if_pos hlt3] at hci?
        have hcl2 : i < cs.length := by omega
        have hci : cs[i] = [.vec (repV x.2.2 (-9000 - (i : Int))) x.2.2] := by rw [List.getElem?_eq_getElem hcl2] at hci?; exact Option.some.inj hci?
        have hdi? := d3 i x hlt3 hx'
        have hdl : i < ds.length := by omega
        have hdi : ds[i] = [.ref x.1 (x.2.1 + 20) 0 (x.2.2 + 20)] := by rw [List.getElem?_eq_getElem hdl] at hdi?; exact Option.some.inj hdi?
        have hrow := q.rows i x hx'
        rw [if_pos hlt3] at hrow
        have r1 : (repV (x.2.2 + 20) (-9000 - (i : Int))).length = x.2.2 + 20 := by simp [repV]
        have r2 : (repV x.2.2 (-9000 - (i : Int))).length = x.2.2 := by simp [repV]
        repeat' (first
    |refine AW_seq_k fun K hK=>?_|refine Step.by1 ?_|refine SBlock_exit_ne (by decide) ?_
    |((first|refine AW_region_AO ?_);simp [d1, d2, hlt3, hlt', hdi, hdl])
    |(refine Split.by2 (fun h=>?_) (fun h=>?_)<;>(simp [h, d1, d2, hlt3, hlt', hdi, hdl]))
    |refine ct rfl ?_|refine cf rfl ?_|refine cnd rfl (fun h=>?_) (fun h=>?_)|refine cd rfl (fun h=>?_) (fun h=>?_)|refine cn rfl (fun h=>?_) (fun h=>?_)|refine cc rfl (fun h=>?_) (fun h=>?_)
    |(apply hK;clear hK K)|(refine AWh (by assumption) ?_))
        refine AW_loopL [0, 5, 9] (fun k : Nat => [(10, .int .i64 k)]) (fun _ => hc2) (fun k => k ≤ x.2.2 + 20) (fun k => x.2.2 + 20 - k) 0 (Nat.zero_le _) (Weak.sym (x := []) (by simp) q.hl (by simp; omega)) (fun _ _ => rfl) ?_
        intro k hk
        by_cases hkt : k < x.2.2 + 20
        · have hkt' : (k : Int) < (x.2.2 : Int) + 20 := by omega
          have w3 : IntKind.i64.wrap ((k : Int) + 1) = k + 1 := wrap_i64 (by omega) (by omega)
          have hrk : (repV (x.2.2 + 20) (-9000 - (i : Int)))[k]'(by omega) = [.int .i64 (-9000 - (i : Int))] := by simp [repV]
          repeat' (first
    |refine AW_seq_k fun K hK=>?_|refine Step.by1 ?_|refine SBlock_exit_ne (by decide) ?_
    |((first|refine AW_region_AO ?_);simp [d1, d2, hlt3, hlt', hdi, hdl, hrow, r1, hkt, hkt', hrk, w2, w3])
    |(refine Split.by2 (fun h=>?_) (fun h=>?_)<;>(simp [h, d1, d2, hlt3, hlt', hdi, hdl, hrow, r1, hkt, hkt', hrk, w2, w3]))
    |refine ct rfl ?_|refine cf rfl ?_|refine cnd rfl (fun h=>?_) (fun h=>?_)|refine cd rfl (fun h=>?_) (fun h=>?_)|refine cn rfl (fun h=>?_) (fun h=>?_)|refine cc rfl (fun h=>?_) (fun h=>?_)
    |(apply hK;clear hK K)|(refine AWh (by assumption) ?_))
          exact ⟨k + 1, by omega, by omega, Weak.sym (x := []) (by simp) q.hl (by simp; omega)⟩
        · have hkt' : ¬ (k : Int) < (x.2.2 : Int) + 20 := by omega
          repeat' (first
    |refine AW_seq_k fun K hK=>?_|refine Step.by1 ?_|refine SBlock_exit_ne (by decide) ?_
    |((first|refine AW_region_AO ?_);simp [d1, d2, hlt3, hlt', hdi, hdl, hkt, hkt'])
    |(refine Split.by2 (fun h=>?_) (fun h=>?_)<;>(simp [h, d1, d2, hlt3, hlt', hdi, hdl, hkt, hkt']))
    |refine ct rfl ?_|refine cf rfl ?_|refine cnd rfl (fun h=>?_) (fun h=>?_)|refine cd rfl (fun h=>?_) (fun h=>?_)|refine cn rfl (fun h=>?_) (fun h=>?_)|refine cc rfl (fun h=>?_) (fun h=>?_)
    |(apply hK;clear hK K)|(refine AWh (by assumption) ?_))
          refine AW_loopL [0, 5, 9] (fun k : Nat => [(11, .int .i64 k)]) (fun _ => hc2) (fun k => k ≤ x.2.2) (fun k => x.2.2 - k) 0 (Nat.zero_le _) (Weak.sym (x := []) (by simp) q.hl (by simp; omega)) (fun _ _ => rfl) ?_
          intro m hmk
          by_cases hmt : m < x.2.2
          · have hmt' : (m : Int) < x.2.2 := by omega
            have w4 : IntKind.i64.wrap ((m : Int) + 1) = m + 1 := wrap_i64 (by omega) (by omega)
            have hrm : (repV x.2.2 (-9000 - (i : Int)))[m]'(by omega) = [.int .i64 (-9000 - (i : Int))] := by simp [repV]
            repeat' (first
    |refine AW_seq_k fun K hK=>?_|refine Step.by1 ?_|refine SBlock_exit_ne (by decide) ?_
    |((first|refine AW_region_AO ?_);simp [q.bk, bookB, c1, c2, hlt3, hlt', hci, hcl2, r2, hmt, hmt', hrm, w2, w4])
    |(refine Split.by2 (fun h=>?_) (fun h=>?_)<;>(simp [h, q.bk, bookB, c1, c2, hlt3, hlt', hci, hcl2, r2, hmt, hmt', hrm, w2, w4]))
    |refine ct rfl ?_|refine cf rfl ?_|refine cnd rfl (fun h=>?_) (fun h=>?_)|refine cd rfl (fun h=>?_) (fun h=>?_)|refine cn rfl (fun h=>?_) (fun h=>?_)|refine cc rfl (fun h=>?_) (fun h=>?_)
    |(apply hK;clear hK K)|(refine AWh (by assumption) ?_))
            exact ⟨m + 1, by omega, by omega, Weak.sym (x := []) (by simp) q.hl (by simp; omega)⟩
          · have hmt' : ¬ (m : Int) < x.2.2 := by omega
            repeat' (first
    |refine AW_seq_k fun K hK=>?_|refine Step.by1 ?_|refine SBlock_exit_ne (by decide) ?_
    |((first|refine AW_region_AO ?_);simp [q.bk, bookB, c1, c2, hlt3, hlt', hci, hcl2, hmt, hmt', w1])
    |(refine Split.by2 (fun h=>?_) (fun h=>?_)<;>(simp [h, q.bk, bookB, c1, c2, hlt3, hlt', hci, hcl2, hmt, hmt', w1]))
    |refine ct rfl ?_|refine cf rfl ?_|refine cnd rfl (fun h=>?_) (fun h=>?_)|refine cd rfl (fun h=>?_) (fun h=>?_)|refine cn rfl (fun h=>?_) (fun h=>?_)|refine cc rfl (fun h=>?_) (fun h=>?_)
    |(apply hK;clear hK K)|(refine AWh (by assumption) ?_))
            exact ⟨i + 1, by omega, by omega, Weak.sym (x := []) (by simp) q.hl (by simp; omega)⟩
      · have hlt' : ¬ (i : Int) < refs.length := by omega
        repeat' (first
    |refine AW_seq_k fun K hK=>?_|refine Step.by1 ?_|refine SBlock_exit_ne (by decide) ?_
    |((first|refine AW_region_AO ?_);simp [d1, d2, hlt3, hlt'])
    |(refine Split.by2 (fun h=>?_) (fun h=>?_)<;>(simp [h, d1, d2, hlt3, hlt']))
    |refine ct rfl ?_|refine cf rfl ?_|refine cnd rfl (fun h=>?_) (fun h=>?_)|refine cd rfl (fun h=>?_) (fun h=>?_)|refine cn rfl (fun h=>?_) (fun h=>?_)|refine cc rfl (fun h=>?_) (fun h=>?_)
    |(apply hK;clear hK K)|(refine AWh (by assumption) ?_))
        exact retg1 ⟨rfl, q.bk, q.hl, by omega, q.rest⟩ rfl (Go.AM.Leaves.sym (show h.length ≤ hc2.length by omega) q.hl)

theorem g_aloneBytes {h : List B} {bk r g m : Nat} (h1 : h[bk]? = some (bookB r g m)) : GCall Tryz.prog GV 84 [.ptr bk 0] h (fun v h' => v = .bool true ∧ h' = h) := by
  refine GCall_body Tryz.func84 rfl (by decide) Tryz.ntmps84 (by simp) Tryz.results84 ?_
  repeat' (first
    |refine AW_loop0 ?_
    |refine AW_seq_k fun K hK=>?_|refine Step.by1 ?_|refine SBlock_exit_ne (by decide) ?_
    |((first|refine AW_region_AO ?_);simp [h1, bookB])
    |(refine Split.by2 (fun h=>?_) (fun h=>?_)<;>(simp [h, h1, bookB]))
    |refine ct rfl ?_|refine cf rfl ?_|refine cnd rfl (fun h=>?_) (fun h=>?_)|refine cd rfl (fun h=>?_) (fun h=>?_)|refine cn rfl (fun h=>?_) (fun h=>?_)|refine cc rfl (fun h=>?_) (fun h=>?_)
    |(apply hK;clear hK K)|(refine AWh (by assumption) ?_))
  exact retg1 ⟨rfl, rfl⟩ rfl Go.AM.Leaves.refl
theorem g_aloneTexts {h : List B} {bk r g m : Nat} (h1 : h[bk]? = some (bookB r g m)) : GCall Tryz.prog GV 85 [.ptr bk 0] h (fun v h' => v = .bool true ∧ h' = h) := by
  refine GCall_body Tryz.func85 rfl (by decide) Tryz.ntmps85 (by simp) Tryz.results85 ?_
  repeat' (first
    |refine AW_loop0 ?_
    |refine AW_seq_k fun K hK=>?_|refine Step.by1 ?_|refine SBlock_exit_ne (by decide) ?_
    |((first|refine AW_region_AO ?_);simp [h1, bookB])
    |(refine Split.by2 (fun h=>?_) (fun h=>?_)<;>(simp [h, h1, bookB]))
    |refine ct rfl ?_|refine cf rfl ?_|refine cnd rfl (fun h=>?_) (fun h=>?_)|refine cd rfl (fun h=>?_) (fun h=>?_)|refine cn rfl (fun h=>?_) (fun h=>?_)|refine cc rfl (fun h=>?_) (fun h=>?_)
    |(apply hK;clear hK K)|(refine AWh (by assumption) ?_))
  exact retg1 ⟨rfl, rfl⟩ rfl Go.AM.Leaves.refl
theorem g_aloneInt64s {h : List B} {bk r g m : Nat} (h1 : h[bk]? = some (bookB r g m)) : GCall Tryz.prog GV 87 [.ptr bk 0] h (fun v h' => v = .bool true ∧ h' = h) := by
  refine GCall_body Tryz.func87 rfl (by decide) Tryz.ntmps87 (by simp) Tryz.results87 ?_
  repeat' (first
    |refine AW_loop0 ?_
    |refine AW_seq_k fun K hK=>?_|refine Step.by1 ?_|refine SBlock_exit_ne (by decide) ?_
    |((first|refine AW_region_AO ?_);simp [h1, bookB])
    |(refine Split.by2 (fun h=>?_) (fun h=>?_)<;>(simp [h, h1, bookB]))
    |refine ct rfl ?_|refine cf rfl ?_|refine cnd rfl (fun h=>?_) (fun h=>?_)|refine cd rfl (fun h=>?_) (fun h=>?_)|refine cn rfl (fun h=>?_) (fun h=>?_)|refine cc rfl (fun h=>?_) (fun h=>?_)
    |(apply hK;clear hK K)|(refine AWh (by assumption) ?_))
  exact retg1 ⟨rfl, rfl⟩ rfl Go.AM.Leaves.refl
theorem g_aloneBounds {h : List B} {bk r g m : Nat} (h1 : h[bk]? = some (bookB r g m)) : GCall Tryz.prog GV 88 [.ptr bk 0] h (fun v h' => v = .bool true ∧ h' = h) := by
  refine GCall_body Tryz.func88 rfl (by decide) Tryz.ntmps88 (by simp) Tryz.results88 ?_
  repeat' (first
    |refine AW_loop0 ?_
    |refine AW_seq_k fun K hK=>?_|refine Step.by1 ?_|refine SBlock_exit_ne (by decide) ?_
    |((first|refine AW_region_AO ?_);simp [h1, bookB])
    |(refine Split.by2 (fun h=>?_) (fun h=>?_)<;>(simp [h, h1, bookB]))
    |refine ct rfl ?_|refine cf rfl ?_|refine cnd rfl (fun h=>?_) (fun h=>?_)|refine cd rfl (fun h=>?_) (fun h=>?_)|refine cn rfl (fun h=>?_) (fun h=>?_)|refine cc rfl (fun h=>?_) (fun h=>?_)
    |(apply hK;clear hK K)|(refine AWh (by assumption) ?_))
  exact retg1 ⟨rfl, rfl⟩ rfl Go.AM.Leaves.refl
theorem g_aloneRats {h : List B} {bk r g m : Nat} (h1 : h[bk]? = some (bookB r g m)) : GCall Tryz.prog GV 89 [.ptr bk 0] h (fun v h' => v = .bool true ∧ h' = h) := by
  refine GCall_body Tryz.func89 rfl (by decide) Tryz.ntmps89 (by simp) Tryz.results89 ?_
  repeat' (first
    |refine AW_loop0 ?_
    |refine AW_seq_k fun K hK=>?_|refine Step.by1 ?_|refine SBlock_exit_ne (by decide) ?_
    |((first|refine AW_region_AO ?_);simp [h1, bookB])
    |(refine Split.by2 (fun h=>?_) (fun h=>?_)<;>(simp [h, h1, bookB]))
    |refine ct rfl ?_|refine cf rfl ?_|refine cnd rfl (fun h=>?_) (fun h=>?_)|refine cd rfl (fun h=>?_) (fun h=>?_)|refine cn rfl (fun h=>?_) (fun h=>?_)|refine cc rfl (fun h=>?_) (fun h=>?_)
    |(apply hK;clear hK K)|(refine AWh (by assumption) ?_))
  exact retg1 ⟨rfl, rfl⟩ rfl Go.AM.Leaves.refl
theorem g_aloneLimits {h : List B} {bk r g m : Nat} (h1 : h[bk]? = some (bookB r g m)) : GCall Tryz.prog GV 90 [.ptr bk 0] h (fun v h' => v = .bool true ∧ h' = h) := by
  refine GCall_body Tryz.func90 rfl (by decide) Tryz.ntmps90 (by simp) Tryz.results90 ?_
  repeat' (first
    |refine AW_loop0 ?_
    |refine AW_seq_k fun K hK=>?_|refine Step.by1 ?_|refine SBlock_exit_ne (by decide) ?_
    |((first|refine AW_region_AO ?_);simp [h1, bookB])
    |(refine Split.by2 (fun h=>?_) (fun h=>?_)<;>(simp [h, h1, bookB]))
    |refine ct rfl ?_|refine cf rfl ?_|refine cnd rfl (fun h=>?_) (fun h=>?_)|refine cd rfl (fun h=>?_) (fun h=>?_)|refine cn rfl (fun h=>?_) (fun h=>?_)|refine cc rfl (fun h=>?_) (fun h=>?_)
    |(apply hK;clear hK K)|(refine AWh (by assumption) ?_))
  exact retg1 ⟨rfl, rfl⟩ rfl Go.AM.Leaves.refl
theorem g_aloneGuards {h : List B} {bk r g m : Nat} (h1 : h[bk]? = some (bookB r g m)) : GCall Tryz.prog GV 91 [.ptr bk 0] h (fun v h' => v = .bool true ∧ h' = h) := by
  refine GCall_body Tryz.func91 rfl (by decide) Tryz.ntmps91 (by simp) Tryz.results91 ?_
  repeat' (first
    |refine AW_loop0 ?_
    |refine AW_seq_k fun K hK=>?_|refine Step.by1 ?_|refine SBlock_exit_ne (by decide) ?_
    |((first|refine AW_region_AO ?_);simp [h1, bookB])
    |(refine Split.by2 (fun h=>?_) (fun h=>?_)<;>(simp [h, h1, bookB]))
    |refine ct rfl ?_|refine cf rfl ?_|refine cnd rfl (fun h=>?_) (fun h=>?_)|refine cd rfl (fun h=>?_) (fun h=>?_)|refine cn rfl (fun h=>?_) (fun h=>?_)|refine cc rfl (fun h=>?_) (fun h=>?_)
    |(apply hK;clear hK K)|(refine AWh (by assumption) ?_))
  exact retg1 ⟨rfl, rfl⟩ rfl Go.AM.Leaves.refl
theorem g_aloneNodes {h : List B} {bk r g m : Nat} (h1 : h[bk]? = some (bookB r g m)) : GCall Tryz.prog GV 92 [.ptr bk 0] h (fun v h' => v = .bool true ∧ h' = h) := by
  refine GCall_body Tryz.func92 rfl (by decide) Tryz.ntmps92 (by simp) Tryz.results92 ?_
  repeat' (first
    |refine AW_loop0 ?_
    |refine AW_seq_k fun K hK=>?_|refine Step.by1 ?_|refine SBlock_exit_ne (by decide) ?_
    |((first|refine AW_region_AO ?_);simp [h1, bookB])
    |(refine Split.by2 (fun h=>?_) (fun h=>?_)<;>(simp [h, h1, bookB]))
    |refine ct rfl ?_|refine cf rfl ?_|refine cnd rfl (fun h=>?_) (fun h=>?_)|refine cd rfl (fun h=>?_) (fun h=>?_)|refine cn rfl (fun h=>?_) (fun h=>?_)|refine cc rfl (fun h=>?_) (fun h=>?_)
    |(apply hK;clear hK K)|(refine AWh (by assumption) ?_))
  exact retg1 ⟨rfl, rfl⟩ rfl Go.AM.Leaves.refl
theorem g_aloneMoves {h : List B} {bk r g m : Nat} (h1 : h[bk]? = some (bookB r g m)) : GCall Tryz.prog GV 93 [.ptr bk 0] h (fun v h' => v = .bool true ∧ h' = h) := by
  refine GCall_body Tryz.func93 rfl (by decide) Tryz.ntmps93 (by simp) Tryz.results93 ?_
  repeat' (first
    |refine AW_loop0 ?_
    |refine AW_seq_k fun K hK=>?_|refine Step.by1 ?_|refine SBlock_exit_ne (by decide) ?_
    |((first|refine AW_region_AO ?_);simp [h1, bookB])
    |(refine Split.by2 (fun h=>?_) (fun h=>?_)<;>(simp [h, h1, bookB]))
    |refine ct rfl ?_|refine cf rfl ?_|refine cnd rfl (fun h=>?_) (fun h=>?_)|refine cd rfl (fun h=>?_) (fun h=>?_)|refine cn rfl (fun h=>?_) (fun h=>?_)|refine cc rfl (fun h=>?_) (fun h=>?_)
    |(apply hK;clear hK K)|(refine AWh (by assumption) ?_))
  exact retg1 ⟨rfl, rfl⟩ rfl Go.AM.Leaves.refl
theorem g_aloneDiffs {h : List B} {bk r g m : Nat} (h1 : h[bk]? = some (bookB r g m)) : GCall Tryz.prog GV 94 [.ptr bk 0] h (fun v h' => v = .bool true ∧ h' = h) := by
  refine GCall_body Tryz.func94 rfl (by decide) Tryz.ntmps94 (by simp) Tryz.results94 ?_
  repeat' (first
    |refine AW_loop0 ?_
    |refine AW_seq_k fun K hK=>?_|refine Step.by1 ?_|refine SBlock_exit_ne (by decide) ?_
    |((first|refine AW_region_AO ?_);simp [h1, bookB])
    |(refine Split.by2 (fun h=>?_) (fun h=>?_)<;>(simp [h, h1, bookB]))
    |refine ct rfl ?_|refine cf rfl ?_|refine cnd rfl (fun h=>?_) (fun h=>?_)|refine cd rfl (fun h=>?_) (fun h=>?_)|refine cn rfl (fun h=>?_) (fun h=>?_)|refine cc rfl (fun h=>?_) (fun h=>?_)
    |(apply hK;clear hK K)|(refine AWh (by assumption) ?_))
  exact retg1 ⟨rfl, rfl⟩ rfl Go.AM.Leaves.refl
theorem g_aloneSteps {h : List B} {bk r g m : Nat} (h1 : h[bk]? = some (bookB r g m)) : GCall Tryz.prog GV 95 [.ptr bk 0] h (fun v h' => v = .bool true ∧ h' = h) := by
  refine GCall_body Tryz.func95 rfl (by decide) Tryz.ntmps95 (by simp) Tryz.results95 ?_
  repeat' (first
    |refine AW_loop0 ?_
    |refine AW_seq_k fun K hK=>?_|refine Step.by1 ?_|refine SBlock_exit_ne (by decide) ?_
    |((first|refine AW_region_AO ?_);simp [h1, bookB])
    |(refine Split.by2 (fun h=>?_) (fun h=>?_)<;>(simp [h, h1, bookB]))
    |refine ct rfl ?_|refine cf rfl ?_|refine cnd rfl (fun h=>?_) (fun h=>?_)|refine cd rfl (fun h=>?_) (fun h=>?_)|refine cn rfl (fun h=>?_) (fun h=>?_)|refine cc rfl (fun h=>?_) (fun h=>?_)
    |(apply hK;clear hK K)|(refine AWh (by assumption) ?_))
  exact retg1 ⟨rfl, rfl⟩ rfl Go.AM.Leaves.refl
theorem g_aloneAts {h : List B} {bk r g m : Nat} (h1 : h[bk]? = some (bookB r g m)) : GCall Tryz.prog GV 96 [.ptr bk 0] h (fun v h' => v = .bool true ∧ h' = h) := by
  refine GCall_body Tryz.func96 rfl (by decide) Tryz.ntmps96 (by simp) Tryz.results96 ?_
  repeat' (first
    |refine AW_loop0 ?_
    |refine AW_seq_k fun K hK=>?_|refine Step.by1 ?_|refine SBlock_exit_ne (by decide) ?_
    |((first|refine AW_region_AO ?_);simp [h1, bookB])
    |(refine Split.by2 (fun h=>?_) (fun h=>?_)<;>(simp [h, h1, bookB]))
    |refine ct rfl ?_|refine cf rfl ?_|refine cnd rfl (fun h=>?_) (fun h=>?_)|refine cd rfl (fun h=>?_) (fun h=>?_)|refine cn rfl (fun h=>?_) (fun h=>?_)|refine cc rfl (fun h=>?_) (fun h=>?_)
    |(apply hK;clear hK K)|(refine AWh (by assumption) ?_))
  exact retg1 ⟨rfl, rfl⟩ rfl Go.AM.Leaves.refl
theorem g_aloneBools {h : List B} {bk r g m : Nat} (h1 : h[bk]? = some (bookB r g m)) : GCall Tryz.prog GV 97 [.ptr bk 0] h (fun v h' => v = .bool true ∧ h' = h) := by
  refine GCall_body Tryz.func97 rfl (by decide) Tryz.ntmps97 (by simp) Tryz.results97 ?_
  repeat' (first
    |refine AW_loop0 ?_
    |refine AW_seq_k fun K hK=>?_|refine Step.by1 ?_|refine SBlock_exit_ne (by decide) ?_
    |((first|refine AW_region_AO ?_);simp [h1, bookB])
    |(refine Split.by2 (fun h=>?_) (fun h=>?_)<;>(simp [h, h1, bookB]))
    |refine ct rfl ?_|refine cf rfl ?_|refine cnd rfl (fun h=>?_) (fun h=>?_)|refine cd rfl (fun h=>?_) (fun h=>?_)|refine cn rfl (fun h=>?_) (fun h=>?_)|refine cc rfl (fun h=>?_) (fun h=>?_)
    |(apply hK;clear hK K)|(refine AWh (by assumption) ?_))
  exact retg1 ⟨rfl, rfl⟩ rfl Go.AM.Leaves.refl
end Go.Proofs.YtgmlimipejcpgaaGreatDoor
end

section
set_option linter.unusedVariables false
set_option linter.unusedSimpArgs false
namespace Go.Proofs.YtgmlimipejcpgaaGreatDoor
open Go Go.AM Fx
/-! Is each list of the book alone? -/
set_option maxHeartbeats 8000000 in
theorem g_Alone {h : List B} {bk r g : Nat} {refs : List (Nat × Nat × Nat)} (p : Pre h bk r g refs) (hm : refs.length ≤ 1099511627776) (hlen : ∀ x ∈ refs, x.2.2 ≤ 1099511627776) :
    GCall Tryz.prog GV 32 [.ptr bk 0] h (fun v h' => v = .bool true ∧ HL h' ∧ h.length ≤ h'.length ∧ ∀ b, b < h.length → b ≠ r → b ≠ bk → (∀ x ∈ refs, x.1 ≠ b) → h'[b]? = h[b]?) := by
  have hb := p.bk
  have hbk := (List.getElem?_eq_some_iff.1 hb).1
  refine GCall_body Tryz.func32 rfl (by decide) Tryz.ntmps32 (by simp) Tryz.results32 ?_
  repeat' (first
    |refine AW_seq_k fun K hK=>?_|refine Step.by1 ?_|refine SBlock_exit_ne (by decide) ?_
    |((first|refine AW_region_AO ?_);simp [bookB])
    |(refine Split.by2 (fun h=>?_) (fun h=>?_)<;>(simp [h, bookB]))
    |refine ct rfl ?_|refine cf rfl ?_|refine cnd rfl (fun h=>?_) (fun h=>?_)|refine cd rfl (fun h=>?_) (fun h=>?_)|refine cn rfl (fun h=>?_) (fun h=>?_)|refine cc rfl (fun h=>?_) (fun h=>?_)
    |(refine AS_callG (f := 86) rfl rfl (g_aloneInts p hm hlen) rfl (fun v h' hq => ?_); obtain ⟨rfl, k1, k2, k3, k4⟩ := hq; clear hb; simp)
    |(refine AS_callG (f := 84) rfl rfl (g_aloneBytes (r := r) (g := g) (m := refs.length) (by assumption)) rfl (fun v h' hq => ?_); obtain ⟨rfl, rfl⟩ := hq; simp)
    |(refine AS_callG (f := 85) rfl rfl (g_aloneTexts (r := r) (g := g) (m := refs.length) (by assumption)) rfl (fun v h' hq => ?_); obtain ⟨rfl, rfl⟩ := hq; simp)
    |(refine AS_callG (f := 87) rfl rfl (g_aloneInt64s (r := r) (g := g) (m := refs.length) (by assumption)) rfl (fun v h' hq => ?_); obtain ⟨rfl, rfl⟩ := hq; simp)
    |(refine AS_callG (f := 88) rfl rfl (g_aloneBounds (r := r) (g := g) (m := refs.length) (by assumption)) rfl (fun v h' hq => ?_); obtain ⟨rfl, rfl⟩ := hq; simp)
    |(refine AS_callG (f := 89) rfl rfl (g_aloneRats (r := r) (g := g) (m := refs.length) (by assumption)) rfl (fun v h' hq => ?_); obtain ⟨rfl, rfl⟩ := hq; simp)
    |(refine AS_callG (f := 90) rfl rfl (g_aloneLimits (r := r) (g := g) (m := refs.length) (by assumption)) rfl (fun v h' hq => ?_); obtain ⟨rfl, rfl⟩ := hq; simp)
    |(refine AS_callG (f := 91) rfl rfl (g_aloneGuards (r := r) (g := g) (m := refs.length) (by assumption)) rfl (fun v h' hq => ?_); obtain ⟨rfl, rfl⟩ := hq; simp)
    |(refine AS_callG (f := 92) rfl rfl (g_aloneNodes (r := r) (g := g) (m := refs.length) (by assumption)) rfl (fun v h' hq => ?_); obtain ⟨rfl, rfl⟩ := hq; simp)
    |(refine AS_callG (f := 93) rfl rfl (g_aloneMoves (r := r) (g := g) (m := refs.length) (by assumption)) rfl (fun v h' hq => ?_); obtain ⟨rfl, rfl⟩ := hq; simp)
    |(refine AS_callG (f := 94) rfl rfl (g_aloneDiffs (r := r) (g := g) (m := refs.length) (by assumption)) rfl (fun v h' hq => ?_); obtain ⟨rfl, rfl⟩ := hq; simp)
    |(refine AS_callG (f := 95) rfl rfl (g_aloneSteps (r := r) (g := g) (m := refs.length) (by assumption)) rfl (fun v h' hq => ?_); obtain ⟨rfl, rfl⟩ := hq; simp)
    |(refine AS_callG (f := 96) rfl rfl (g_aloneAts (r := r) (g := g) (m := refs.length) (by assumption)) rfl (fun v h' hq => ?_); obtain ⟨rfl, rfl⟩ := hq; simp)
    |(refine AS_callG (f := 97) rfl rfl (g_aloneBools (r := r) (g := g) (m := refs.length) (by assumption)) rfl (fun v h' hq => ?_); obtain ⟨rfl, rfl⟩ := hq; simp)
    |(apply hK;clear hK K)|(refine AWh (by assumption) ?_))
  simp only at k3 k4
  simp [k1, bookB]
  repeat' (first
    |refine AW_seq_k fun K hK=>?_|refine Step.by1 ?_|refine SBlock_exit_ne (by decide) ?_
    |((first|refine AW_region_AO ?_);simp)
    |(refine Split.by2 (fun h=>?_) (fun h=>?_)<;>(simp [h]))
    |refine ct rfl ?_|refine cf rfl ?_|refine cnd rfl (fun h=>?_) (fun h=>?_)|refine cd rfl (fun h=>?_) (fun h=>?_)|refine cn rfl (fun h=>?_) (fun h=>?_)|refine cc rfl (fun h=>?_) (fun h=>?_)
    |(apply hK;clear hK K)|(refine AWh (by assumption) ?_))
  have hl2 : HL (h'.set bk (.var [.nils, .nils, .nils, .nils, .nils, .nils, .nils, .nils, .nils, .nils, .nils, .nils, .nils, .nils])) := k2.set (by simp)
  refine retg1 ⟨rfl, hl2, by rw [List.length_set]; exact k3, fun b hb hb1 hb2 hb3 => ?_⟩ rfl (Go.AM.Leaves.sym (by rw [List.length_set]; exact k3) hl2)
  rw [get_set_ne (fun e => hb2 e.symm)]; exact k4 b hb hb1 hb3
end Go.Proofs.YtgmlimipejcpgaaGreatDoor
end
