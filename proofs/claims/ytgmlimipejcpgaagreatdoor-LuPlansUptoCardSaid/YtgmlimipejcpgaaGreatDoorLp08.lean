/-
  YtgmlimipejcpgaaGreatDoorLp08: steps of the proof of a law of the program: what these texts prove holds under the hypotheses that their theorems name, and no others.
-/
import Derived.Test.YtgmlimipejcpgaaGreatDoorLp07
section
set_option linter.unusedSimpArgs false
set_option linter.unusedVariables false
namespace Go.Proofs.YtgmlimipejcpgaaGreatDoor
open Go Go.AM Fx
structure QS where
  i : Nat
  hc : List B
  f1 : Bool
  ids1 : List (Nat × Nat × Nat)
  f2 : Bool
  ids2 : List (Nat × Nat × Nat)
structure QI (n : NetD) (a : AutoD) (N : Nat) (gs : List (List PartD)) (s : QS) : Prop where
  i : s.i ≤ a.locs.length
  q : Q1 n a N gs s.i s.hc s.f1 s.ids1 s.f2 s.ids2
structure TS where
  mv : Bool
  m1 : List (List Int)
  m2 : List (List Int)
  hc : List B
structure TK where
  k : Nat
  o1 : Bool
  o2 : Bool
  m1 : List (List Int)
  m2 : List (List Int)
  hc : List B
theorem ivs_rep1 {N : Nat} : List.replicate N [V.int .i64 (-1)] = ivs (List.replicate N (-1)) := by simp [ivs]
set_option maxRecDepth 20000 in
set_option maxHeartbeats 32000000 in
theorem r_numbers26 (n : NetD) (hn : n.ok) (a : AutoD) (ham : a ∈ n.autos) (gs : List (List PartD)) (hgl : gs.length ≤ 1048576) (hgs : ∀ g ∈ gs, okGoal g) (he : lookE n gs = 0) :
    PC 107 [.agg n.cells, .agg a.cells, gsV gs] (.tup [.vec (rows2V (luM a n.clocks.length (luB a n.clocks.length lowB gs))) a.locs.length, .vec (rows2V (luM a n.clocks.length (luB a n.clocks.length upB gs))) a.locs.length]) := by
  obtain ⟨h0, hgg⟩ := look_ok he
  have hw := netE_whole h0
  have hE := edges_ok hw a ham
  have ha := hn.2.2.2.2 a ham
  have hal := ha.2.1
  have hae := ha.2.2
  have hN := hn.1.1
  have hgA : ∀ x ∈ guardsA a, okG n.clocks.length x := fun x hx => whole_guards hw x (List.mem_flatMap.2 ⟨a, ham, hx⟩)
  have hgI : ∀ l ∈ a.locs, ∀ x ∈ l.inv, okG n.clocks.length x := fun l hl x hx => hgA x (List.mem_append.2 (.inl (List.mem_flatMap.2 ⟨l, hl, hx⟩)))
  have hgE : ∀ e ∈ a.edges, ∀ x ∈ e.guards, okG n.clocks.length x := fun e he x hx => hgA x (List.mem_append.2 (.inr (List.mem_flatMap.2 ⟨e, he, hx⟩)))
  have hgG : ∀ g ∈ gs, ∀ p ∈ g, ∀ x ∈ p.guards, okG n.clocks.length x := fun g hg => goal_guards (hgg g hg)
  have hno := r_None n hN
  obtain ⟨N, hNe⟩ : ∃ N, n.clocks.length = N := ⟨_, rfl⟩
  rw [hNe] at hgA hgI hgE hgG hN hno ⊢
  rw [ivs_rep1] at hno
  simp only [NetD.cells, vl, hNe] at hno
  have hNb : (N : Int) ≤ 281474976710656 := by omega
  refine pB Tryz.func107 rfl (by decide) Tryz.ntmps107 (by simp) Tryz.results107 ?_
  repeat' (first
 |refine aK fun K hK=>?_|refine Step.by1 ?_|refine sE (by decide) ?_|refine cz rfl ?_|refine Fork.by2 (fun h=>?_) fun h=>?_
 |(refine aR ?_;simp [gsV, vl, NetD.cells, AutoD.cells])
 |(refine Split.by2 (fun h=>?_) (fun h=>?_)<;>(simp [h, gsV, vl, NetD.cells, AutoD.cells]))
 |(apply hK;clear hK K)|refine AWh ‹_› ?_)
  refine AW_nilrow 8 47 rfl (by simp) ?_
  refine AW_nilrow 9 47 rfl (by simp) ?_
  have hQ0 : Q1 n a N gs 0 [.var n.cells, .var a.cells, .row 47 0 0 true [], .row 47 0 0 true []] true [] true [] :=
    ⟨by simp [HL, NetD.cells, AutoD.cells, vl], rfl, rfl, rfl, rfl, by simp, by simp, ⟨rfl, fun _ => rfl, rfl, fun i y hy => by simp at hy, ⟨by omega, by simp⟩, by simp⟩, ⟨rfl, fun _ => rfl, rfl, fun i y hy => by simp at hy, ⟨by omega, by simp⟩, by simp⟩, by simp⟩
  refine AW_loopGL [2, 3, 4] (fun s : QS => [(8, .ref 2 s.i 0 s.i), (9, .ref 3 s.i 0 s.i), (10, .int .i64 s.i)]) (fun s => s.hc) (QI n a N gs) (fun s => a.locs.length - s.i) ⟨0, _, true, [], true, []⟩ ⟨Nat.zero_le _, hQ0⟩
    (Weak.sym (x := []) (by simp [NetD.cells, AutoD.cells, vl]) hQ0.hl (by simp [vl, gsV])) (fun s hs => by have := hs.q.p2.b_lt; simp; omega) ?_
  clear hQ0
  rintro ⟨i, hc, f1, ids1, f2, ids2⟩ ⟨hi, hq⟩
  simp only at hi hq
  have hb3 := hq.p2.b_lt
  have c0 := hq.c0
  have c1 := hq.c1
  simp only [NetD.cells, AutoD.cells, vl, hNe] at c0 c1
  by_cases hlt : i < a.locs.length
  · have hlt' : (i : Int) < a.locs.length := by omega
    have w1 : IntKind.i64.wrap ((i : Int) + 1) = i + 1 := wI (by omega) (by omega)
    obtain ⟨l, hle⟩ : ∃ l, a.locs[i] = l := ⟨_, rfl⟩
    have hlm : l ∈ a.locs := hle ▸ List.getElem_mem hlt
    have hli := (hal.2 l hlm).2.2
    have hiv : invAt a i = l.inv := by simp [invAt, hlt, hle]
    have hby : (i + 1) * 24 ≤ 140737488355328 := by omega
    obtain ⟨rr, hrr⟩ : ∃ rr, raise2G gs (raiseF i a.edges (raise2 (invAt a i) (List.replicate N (-1), List.replicate N (-1)))) = rr := ⟨_, rfl⟩
    have hbr := base_ref (a := a) (N := N) (gs := gs) (i := i)
    rw [hrr] at hbr
    rw [hiv] at hrr
    have hH : HL (hc ++ [B.row 3 0 0 true (ivs (List.replicate N (-1))), B.row 3 0 0 true (ivs (List.replicate N (-1)))]) := hq.hl.app (by simp)
    have x0 : (hc ++ [B.row 3 0 0 true (ivs (List.replicate N (-1))), B.row 3 0 0 true (ivs (List.replicate N (-1)))])[hc.length]? = some (.row 3 0 0 true (ivs (List.replicate N (-1)))) := ga0 rfl
    have x1 : (hc ++ [B.row 3 0 0 true (ivs (List.replicate N (-1))), B.row 3 0 0 true (ivs (List.replicate N (-1)))])[hc.length + 1]? = some (.row 3 0 0 true (ivs (List.replicate N (-1)))) := ga1 (k := 1) rfl
    have hself := RH2.self x0 x1
    have hHl : (hc ++ [B.row 3 0 0 true (ivs (List.replicate N (-1))), B.row 3 0 0 true (ivs (List.replicate N (-1)))]).length = hc.length + 2 := by simp
    have hRx := fun (l : List GuardD) (s : List Int × List Int) => r_RaiseX (b1 := hc.length) (g1 := 0) (b2 := hc.length + 1) (g2 := 0) (N := N) hH (by rw [hHl]; omega) (by rw [hHl]; omega) (by omega) l s
    have hra := hRx l.inv (List.replicate N (-1), List.replicate N (-1)) hli.1 (by simp) (by simp) hN (hgI l hlm)
    rw [hself] at hra
    simp only [vl] at hra
    have hold : ∀ (s : List Int × List Int) (k : Nat), k < hc.length → (RH2 (hc ++ [B.row 3 0 0 true (ivs (List.replicate N (-1))), B.row 3 0 0 true (ivs (List.replicate N (-1)))]) hc.length 0 (hc.length + 1) 0 s)[k]? = hc[k]? := fun s k hk => by
      rw [RH2.old (by omega) (by omega), get_app hk]
    have hRl : ∀ s, (RH2 (hc ++ [B.row 3 0 0 true (ivs (List.replicate N (-1))), B.row 3 0 0 true (ivs (List.replicate N (-1)))]) hc.length 0 (hc.length + 1) 0 s).length = hc.length + 2 := fun s => by rw [RH2.len, hHl]
    have hRh : ∀ s, HL (RH2 (hc ++ [B.row 3 0 0 true (ivs (List.replicate N (-1))), B.row 3 0 0 true (ivs (List.replicate N (-1)))]) hc.length 0 (hc.length + 1) 0 s) := fun s => RH2.hl hH
    have hR1 : ∀ s, (RH2 (hc ++ [B.row 3 0 0 true (ivs (List.replicate N (-1))), B.row 3 0 0 true (ivs (List.replicate N (-1)))]) hc.length 0 (hc.length + 1) 0 s)[hc.length]? = some (.row 3 0 0 true (ivs s.1)) := fun s => RH2.get1 (by rw [hHl]; omega) (by omega)
    have hR2 : ∀ s, (RH2 (hc ++ [B.row 3 0 0 true (ivs (List.replicate N (-1))), B.row 3 0 0 true (ivs (List.replicate N (-1)))]) hc.length 0 (hc.length + 1) 0 s)[hc.length + 1]? = some (.row 3 0 0 true (ivs s.2)) := fun s => RH2.get2 (by rw [hHl]; omega)
    generalize hRR : RH2 (hc ++ [B.row 3 0 0 true (ivs (List.replicate N (-1))), B.row 3 0 0 true (ivs (List.replicate N (-1)))]) hc.length 0 (hc.length + 1) 0 = R at *
    have k0 := fun x : List B => (get_app (x := x) (show 0 < hc.length by omega)).trans c0
    have k1 := fun x : List B => (get_app (x := x) (show 1 < hc.length by omega)).trans c1
    have k0e := fun (x : List B) (hx : 0 < (hc ++ x).length) => getke (k0 x) hx
    have k1e := fun (x : List B) (hx : 1 < (hc ++ x).length) => getke (k1 x) hx
    have d0 := fun s => (hold s 0 (by omega)).trans c0
    have d1 := fun s => (hold s 1 (by omega)).trans c1
    have d0e := fun s (hx : 0 < (R s).length) => getke (d0 s) hx
    have d1e := fun s (hx : 1 < (R s).length) => getke (d1 s) hx
    have hrl0 : (ivs (List.replicate N (-1))).length = N := by simp [ivs]
    repeat' (first
 |refine aK fun K hK=>?_|refine Step.by1 ?_|refine sE (by decide) ?_|refine cz rfl ?_|refine Fork.by2 (fun h=>?_) fun h=>?_
 |((first|refine aR ?_|refine AS_callO (f:=160) rfl rfl (hno) rfl rfl ?_);simp [gsV, vl, NetD.cells, AutoD.cells, hNe, c0, c1, k0, k0e, k1, k1e, d0, d1, d0e, d1e, hrl0, hlt, hlt', hle, LocD.cells])
 |(refine Split.by2 (fun h=>?_) (fun h=>?_)<;>(simp [h, gsV, vl, NetD.cells, AutoD.cells, hNe, c0, c1, k0, k0e, k1, k1e, d0, d1, d0e, d1e, hrl0, hlt, hlt', hle, LocD.cells]))
 |(refine aG (f := 161) rfl rfl hra rfl (fun v h' hq => ?_); obtain ⟨rfl, rfl⟩ := hq; simp)
 |(apply hK;clear hK K)|refine AWh ‹_› ?_)
    obtain ⟨r1, hr1⟩ : ∃ r1, raiseF i a.edges (raise2 l.inv (List.replicate N (-1), List.replicate N (-1))) = r1 := ⟨_, rfl⟩
    rw [hr1] at hrr
    refine AW_range (r := r1) a.edges 13 [2, 3, 4, 8, 9, 10, 11, 12] (fun _ : List Int × List Int => []) (fun s => R s) (fun _ s => s.1.length = N ∧ s.2.length = N) (raiseF i) (raise2 l.inv (List.replicate N (-1), List.replicate N (-1))) hr1 ⟨by rw [(raise2_len).1]; simp, by rw [(raise2_len).2]; simp⟩
      (Weak.sym (x := []) (by simp) (hRh _) (by simp [vl, gsV, hRl]; omega)) (fun _ s _ => by simp [hRl]) ?_ ?_
    · intro k s e hek hk hee hJ hF
      rw [raiseF_cons] at hF
      have hem : e ∈ a.edges := List.mem_of_getElem? hek
      have hk' : (k : Int) < a.edges.length := by omega
      have w2 : IntKind.i64.wrap ((k : Int) + 1) = k + 1 := wI (by omega) (by omega)
      have hrb := hRx e.guards s (hae.2 e hem).2.2.1.1 hJ.1 hJ.2 hN (hgE e hem)
      simp only [vl] at hrb
      clear hek hem
      by_cases hfi : e.frm = (i : Int)
      · rw [if_pos hfi] at hF
        repeat' (first
 |refine aK fun K hK=>?_|refine Step.by1 ?_|refine sE (by decide) ?_|refine cz rfl ?_|refine Fork.by2 (fun h=>?_) fun h=>?_
 |(refine aR ?_;simp [vl, EdgeD.cells, d1, d1e, hk, hk', hee, hfi, w2])
 |(refine Split.by2 (fun h=>?_) (fun h=>?_)<;>(simp [h, vl, EdgeD.cells, d1, d1e, hk, hk', hee, hfi, w2]))
 |(refine aG (f := 161) rfl rfl hrb rfl (fun v h' hq => ?_); obtain ⟨rfl, rfl⟩ := hq; simp)
 |(apply hK;clear hK K)|refine AWh ‹_› ?_)
        exact ⟨(raise2 e.guards s).1, (raise2 e.guards s).2, hF, ⟨by rw [(raise2_len).1]; exact hJ.1, by rw [(raise2_len).2]; exact hJ.2⟩, Weak.sym (x := []) (by simp) (hRh _) (by simp [vl, gsV, hRl]; omega)⟩
      · rw [if_neg hfi] at hF
        repeat' (first
 |refine aK fun K hK=>?_|refine Step.by1 ?_|refine sE (by decide) ?_|refine cz rfl ?_|refine Fork.by2 (fun h=>?_) fun h=>?_
 |(refine aR ?_;simp [vl, EdgeD.cells, d1, d1e, hk, hk', hee, hfi, w2])
 |(refine Split.by2 (fun h=>?_) (fun h=>?_)<;>(simp [h, vl, EdgeD.cells, d1, d1e, hk, hk', hee, hfi, w2]))
 |(apply hK;clear hK K)|refine AWh ‹_› ?_)
        exact ⟨s.1, s.2, hF, hJ, Weak.sym (x := []) (by simp) (hRh _) (by simp [vl, gsV, hRl]; omega)⟩
    · intro s hJ hF
      rw [raiseF_nil] at hF
      subst s
      repeat' (first
 |refine aK fun K hK=>?_|refine Step.by1 ?_|refine sE (by decide) ?_|refine cz rfl ?_|refine Fork.by2 (fun h=>?_) fun h=>?_
 |(refine aR ?_;simp [vl, d1, d1e])
 |(refine Split.by2 (fun h=>?_) (fun h=>?_)<;>(simp [h, vl, d1, d1e]))
 |(apply hK;clear hK K)|refine AWh ‹_› ?_)
      refine AW_range (r := rr) gs 14 [2, 3, 4, 8, 9, 10, 11, 12] (fun _ : List Int × List Int => []) (fun s => R s) (fun _ s => s.1.length = N ∧ s.2.length = N) raise2G r1 hrr hJ
        (Weak.sym (x := []) (by simp) (hRh _) (by simp [vl, gsV, hRl]; omega)) (fun _ s _ => by simp [hRl]) ?_ ?_
      · intro q s g hgq hq' hge hJ hF
        rw [raise2G_cons] at hF
        obtain ⟨c2, hc2⟩ : ∃ c2, raise2P g s = c2 := ⟨_, rfl⟩
        rw [hc2] at hF
        have hgm : g ∈ gs := List.mem_of_getElem? hgq
        have hgo := hgs g hgm
        have hgG2 := hgG g hgm
        have hqi : (q : Int) < gs.length := by omega
        have w2 : IntKind.i64.wrap ((q : Int) + 1) = q + 1 := wI (by omega) (by omega)
        clear hgq hgm
        repeat' (first
 |refine aK fun K hK=>?_|refine Step.by1 ?_|refine sE (by decide) ?_|refine cz rfl ?_|refine Fork.by2 (fun h=>?_) fun h=>?_
 |(refine aR ?_;simp [gsV, vl, hq', hqi, hge])
 |(refine Split.by2 (fun h=>?_) (fun h=>?_)<;>(simp [h, gsV, vl, hq', hqi, hge]))
 |(apply hK;clear hK K)|refine AWh ‹_› ?_)
        refine AW_range (r := c2) g 15 [2, 3, 4, 8, 9, 10, 11, 12, 14] (fun _ : List Int × List Int => []) (fun s => R s) (fun _ s => s.1.length = N ∧ s.2.length = N) raise2P s hc2 hJ
          (Weak.sym (x := []) (by simp) (hRh _) (by simp [vl, gsV, hRl]; omega)) (fun _ s _ => by simp [hRl]) ?_ ?_
        · intro j s p hpj hj hpe hJ hF2
          rw [raise2P_cons] at hF2
          have hpm : p ∈ g := List.mem_of_getElem? hpj
          have hpg := (hgo.2 p hpm).2.1
          have hj' : (j : Int) < g.length := by omega
          have w3 : IntKind.i64.wrap ((j : Int) + 1) = j + 1 := wI (by have := hgo.1; omega) (by have := hgo.1; omega)
          have hrb := hRx p.guards s hpg.1 hJ.1 hJ.2 hN (hgG2 p hpm)
          simp only [vl] at hrb
          clear hpj hpm
          repeat' (first
 |refine aK fun K hK=>?_|refine Step.by1 ?_|refine sE (by decide) ?_|refine cz rfl ?_|refine Fork.by2 (fun h=>?_) fun h=>?_
 |(refine aR ?_;simp [gsV, vl, PartD.cells, hq', hqi, hge, hj, hj', hpe, w3])
 |(refine Split.by2 (fun h=>?_) (fun h=>?_)<;>(simp [h, gsV, vl, PartD.cells, hq', hqi, hge, hj, hj', hpe, w3]))
 |(refine aG (f := 161) rfl rfl hrb rfl (fun v h' hq => ?_); obtain ⟨rfl, rfl⟩ := hq; simp)
 |(apply hK;clear hK K)|refine AWh ‹_› ?_)
          exact ⟨(raise2 p.guards s).1, (raise2 p.guards s).2, hF2, ⟨by rw [(raise2_len).1]; exact hJ.1, by rw [(raise2_len).2]; exact hJ.2⟩, Weak.sym (x := []) (by simp) (hRh _) (by simp [vl, gsV, hRl]; omega)⟩
        · intro s hJ hF2
          rw [raise2P_nil] at hF2
          subst s
          repeat' (first
 |refine aK fun K hK=>?_|refine Step.by1 ?_|refine sE (by decide) ?_|refine cz rfl ?_|refine Fork.by2 (fun h=>?_) fun h=>?_
 |(refine aR ?_;simp [gsV, vl, hq', hqi, hge, w2])
 |(refine Split.by2 (fun h=>?_) (fun h=>?_)<;>(simp [h, gsV, vl, hq', hqi, hge, w2]))
 |(apply hK;clear hK K)|refine AWh ‹_› ?_)
          exact ⟨c2.1, c2.2, hF, hJ, Weak.sym (x := []) (by simp) (hRh _) (by simp [vl, gsV, hRl]; omega)⟩
      · intro s hJ hF
        rw [raise2G_nil] at hF
        subst s
        have hRold := hold rr
        have hR1' : (R rr)[hc.length]? = some (.row 3 0 0 true (ivs (luBase a N lowB gs i))) := by rw [hR1 rr, hbr]
        have hR2' : (R rr)[hc.length + 1]? = some (.row 3 0 0 true (ivs (luBase a N upB gs i))) := by rw [hR2 rr, hbr]
        have hRh' := hRh rr
        have hRl' := hRl rr
        have hst := hq.step hRh' hRl' hRold hR1' hR2'
        have e2 := (hRold 2 (by omega)).trans hq.p1.at0
        have e3 := (hRold 3 (by omega)).trans hq.p2.at0
        unfold qH at hst
        clear hR1' hR2' hbr hrr hRx hra hold hRl hRh hR1 hR2 hRR d0 d1 d0e d1e
        generalize R rr = RR at *
        have m1l : (ids1.map fun x => [rv x]).length = i := by simp [hq.l1]
        have m2l : (ids2.map fun x => [rv x]).length = i := by simp [hq.l2]
        have r2 : 2 < RR.length := by omega
        have r3 : 3 < RR.length := by omega
        have e2e := fun (x : List B) (hx : 2 < (RR ++ x).length) => getke ((get_app (x := x) r2).trans e2) hx
        have sb2 := fun (x : List B) (y : B) => set_app (x := x) (y := y) r2
        have e3e := fun (y : B) (x : List B) (hx : 3 < (RR.set 2 y ++ x).length) => getke ((get_app (x := x) (show 3 < (RR.set 2 y).length by rw [List.length_set]; exact r3)).trans ((gN (show 2 ≠ 3 by omega)).trans e3)) hx
        have sb3 := fun (z : B) (x : List B) (y : B) => set_app (h := RR.set 2 z) (i := 3) (x := x) (y := y) (by rw [List.length_set]; exact r3)
        repeat' (first
 |refine aK fun K hK=>?_|refine Step.by1 ?_|refine sE (by decide) ?_|refine cz rfl ?_|refine Fork.by2 (fun h=>?_) fun h=>?_
 |(refine aR ?_;simp [e2e, e3e, sb2, sb3, m1l, m2l, hby, w1, hRl', hq.l1, hq.l2])
 |(refine Split.by2 (fun h=>?_) (fun h=>?_)<;>(simp [h, e2e, e3e, sb2, sb3, m1l, m2l, hby, w1, hRl', hq.l1, hq.l2]))
 |(apply hK;clear hK K)|refine AWh ‹_› ?_)
        have hI : QI n a N gs ⟨i + 1, _, false, ids1 ++ [(hc.length, 0, N)], false, ids2 ++ [(hc.length + 1, 0, N)]⟩ := ⟨by show i + 1 ≤ _; omega, hst⟩
        exact ⟨_, hI, by show _ - (i + 1) < _ - i; omega, Weak.sym (x := [B.row 47 0 0 false [[V.ref hc.length 0 0 N]], B.row 47 0 0 false [[V.ref (hc.length + 1) 0 0 N]]]) (by simp [rv]) hst.hl (by have := hst.p2.b_lt; simp [vl, gsV]; omega)⟩
  · obtain rfl : i = a.locs.length := by omega
    repeat' (first
 |refine aK fun K hK=>?_|refine Step.by1 ?_|refine sE (by decide) ?_|refine cz rfl ?_|refine Fork.by2 (fun h=>?_) fun h=>?_
 |(refine aR ?_;simp [gsV, vl, NetD.cells, AutoD.cells, hNe, c0, c1])
 |(refine Split.by2 (fun h=>?_) (fun h=>?_)<;>(simp [h, gsV, vl, NetD.cells, AutoD.cells, hNe, c0, c1]))
 |(apply hK;clear hK K)|refine AWh ‹_› ?_)
    have hw2 := hq.w2
    have hf1 := hq.p1.flat
    have hf2 := hq.p2.flat
    obtain ⟨js1, hjs1⟩ : ∃ js, (ids1.map fun x => (x.1, x.2.1)) = js := ⟨_, rfl⟩
    obtain ⟨js2, hjs2⟩ : ∃ js, (ids2.map fun x => (x.1, x.2.1)) = js := ⟨_, rfl⟩
    have l1 : js1.length = a.locs.length := by rw [← hjs1]; simp [hq.l1]
    have l2 : js2.length = a.locs.length := by rw [← hjs2]; simp [hq.l2]
    have z1 : f1 = true → js1 = [] := fun h => by rw [← hjs1, hf1 h]; rfl
    have z2 : f2 = true → js2 = [] := fun h => by rw [← hjs2, hf2 h]; rfl
    rw [hjs1, hjs2] at hw2
    have hls1 : LS a N (luB a N lowB gs) ((List.range a.locs.length).map (luBase a N lowB gs)) := L3.ls ⟨by simp, fun i hi => by simp [hi, luBase]⟩
    have hls2 : LS a N (luB a N upB gs) ((List.range a.locs.length).map (luBase a N upB gs)) := L3.ls ⟨by simp, fun i hi => by simp [hi, luBase]⟩
    generalize (List.range a.locs.length).map (luBase a N lowB gs) = m1 at *
    generalize (List.range a.locs.length).map (luBase a N upB gs) = m2 at *
    obtain ⟨K0, hK0⟩ : ∃ K, hc.length = K := ⟨_, rfl⟩
    rw [hK0] at hw2
    have hK3 : 3 < K0 := by omega
    clear c0 c1 hb3 hf1 hf2
    refine aL [3, 4, 8, 9] (fun s : TS => [(16, .bool s.mv)]) (fun s => s.hc) (fun s => (LS a N (luB a N lowB gs) s.m1 ∧ LS a N (luB a N upB gs) s.m2 ∧ (s.mv = false → ∀ e ∈ a.edges, ∀ c, c < N → nclos s.m1 e c ∧ nclos s.m2 e c)) ∧ W2 n a N K0 a.locs.length f1 js1 f2 js2 s.m1 s.m2 s.hc)
      (fun s => 2 * (nM a (luB a N lowB gs) s.m1 + nM a (luB a N upB gs) s.m2) + s.mv.toNat) ⟨true, m1, m2, hc⟩ ⟨⟨hls1, hls2, fun h => by cases h⟩, hw2⟩
      (Weak.sym (x := []) (by simp) hw2.p1.hl (by simp [hK0]; omega)) (fun s hs => by rw [hs.2.len, hK0]) ?_
    clear hls1 hls2 hw2 hq m1 m2 hjs1 hjs2
    rintro ⟨mv, m1, m2, hd⟩ ⟨⟨hs1, hs2, hcl⟩, hw2⟩
    simp only at hs1 hs2 hcl hw2
    cases mv
    · have u1 : IsLu a N (luB a N lowB gs) m1 := ⟨hs1, fun e he c hc => (hcl rfl e he c hc).1⟩
      have u2 : IsLu a N (luB a N upB gs) m2 := ⟨hs2, fun e he c hc => (hcl rfl e he c hc).2⟩
      have n1 := hw2.p1.toN2 z1 (o := 0) ⟨Nat.zero_le _, fun _ _ => Nat.zero_le _⟩
      have n2 := hw2.p2.toN2 z2 (o := 0) ⟨Nat.zero_le _, fun _ _ => Nat.zero_le _⟩
      have q1 := n1.frz
      have q2 := n2.frz
      have p1 := hs1.len
      have p2 := hs2.len
      simp only [List.length_map, l1, l2, p1, p2] at q1 q2
      repeat' (first
 |refine aK fun K hK=>?_|refine Step.by1 ?_|refine sE (by decide) ?_|refine cz rfl ?_|refine Fork.by2 (fun h=>?_) fun h=>?_
 |(refine aR ?_;simp)
 |(refine Split.by2 (fun h=>?_) (fun h=>?_)<;>(simp [h]))
 |(apply hK;clear hK K)|refine AWh ‹_› ?_)
      exact retq2 (.inl ⟨3, by show _ = V.tup [Go.AM.frz hd 2 (.ref 2 a.locs.length 0 a.locs.length), Go.AM.frz hd 2 (.ref 3 a.locs.length 0 a.locs.length)]; rw [q1, q2, u1.luM hE, u2.luM hE], rfl⟩)
    · clear hcl
      repeat' (first
 |refine aK fun K hK=>?_|refine Step.by1 ?_|refine sE (by decide) ?_|refine cz rfl ?_|refine Fork.by2 (fun h=>?_) fun h=>?_
 |(refine aR ?_;simp)
 |(refine Split.by2 (fun h=>?_) (fun h=>?_)<;>(simp [h]))
 |(apply hK;clear hK K)|refine AWh ‹_› ?_)
      refine aL [3, 4, 8, 9] (fun s : TK => [(16, .bool (s.o1 || s.o2)), (17, .int .i64 s.k)]) (fun s => s.hc) (fun s => (s.k ≤ a.edges.length ∧ NPass a N (luB a N lowB gs) m1 s.k 0 s.o1 s.m1 ∧ NPass a N (luB a N upB gs) m2 s.k 0 s.o2 s.m2) ∧ W2 n a N K0 a.locs.length f1 js1 f2 js2 s.m1 s.m2 s.hc)
        (fun s => a.edges.length - s.k) ⟨0, false, false, m1, m2, hd⟩ ⟨⟨Nat.zero_le _, .init hs1, .init hs2⟩, hw2⟩ (Weak.sym (x := []) (by simp) hw2.p1.hl (by simp [hw2.len]; omega)) (fun s hs => by rw [hs.2.len, hw2.len]) ?_
      have hdl := hw2.len
      clear hw2
      rintro ⟨k, o1, o2, p1, p2, hc⟩ ⟨⟨hk, hp1, hp2⟩, hw2⟩
      simp only at hk hp1 hp2 hw2
      have hcl := hw2.len
      have c0 := hw2.c0
      have c1 := hw2.c1
      simp only [NetD.cells, AutoD.cells, vl, hNe] at c0 c1
      have c1e := fun (hx : 1 < hc.length) => getke c1 hx
      by_cases hkt : k < a.edges.length
      · obtain ⟨e, he⟩ : ∃ e, a.edges[k] = e := ⟨_, rfl⟩
        have he' : a.edges[k]? = some e := by rw [List.getElem?_eq_getElem hkt, he]
        have hem := List.mem_of_getElem? he'
        obtain ⟨⟨e1, e2⟩, t1, t2⟩ := hE e hem
        obtain ⟨p, hpp⟩ := Int.eq_ofNat_of_zero_le e1
        obtain ⟨q, hqq⟩ := Int.eq_ofNat_of_zero_le t1
        have hes := (hae.2 e hem).2.2.2.2.2.2.1
        have hkt' : (k : Int) < a.edges.length := by omega
        have w1 : IntKind.i64.wrap ((k : Int) + 1) = k + 1 := wI (by omega) (by omega)
        have g0 := fun x : List B => ga0 (x := x) hcl
        have hHe : ∀ {hx : List B}, HL hx → HL (hx ++ [B.var e.cells]) := fun h => h.app (by simp [EdgeD.cells, vl])
        repeat' (first
 |refine aK fun K hK=>?_|refine Step.by1 ?_|refine sE (by decide) ?_|refine cz rfl ?_|refine Fork.by2 (fun h=>?_) fun h=>?_
 |(refine aR ?_;simp [vl, EdgeD.cells, c1, c1e, hkt, hkt', he, hpp, hqq, hcl, g0])
 |(refine Split.by2 (fun h=>?_) (fun h=>?_)<;>(simp [h, vl, EdgeD.cells, c1, c1e, hkt, hkt', he, hpp, hqq, hcl, g0]))
 |(apply hK;clear hK K)|refine AWh ‹_› ?_)
        refine aL [3, 4, 8, 9, 17, 18] (fun s : TK => [(16, .bool (s.o1 || s.o2)), (19, .int .i64 ((s.k : Int) + 1))]) (fun s => s.hc ++ [B.var e.cells]) (fun s => (s.k ≤ N ∧ NPass a N (luB a N lowB gs) m1 k s.k s.o1 s.m1 ∧ NPass a N (luB a N upB gs) m2 k s.k s.o2 s.m2) ∧ W2 n a N K0 a.locs.length f1 js1 f2 js2 s.m1 s.m2 s.hc)
          (fun s => N - s.k) ⟨0, o1, o2, p1, p2, hc⟩ ⟨⟨Nat.zero_le _, hp1, hp2⟩, hw2⟩ (Weak.sym (x := []) (by simp [EdgeD.cells, vl, hpp, hqq]) (hHe hw2.p1.hl) (by simp [hcl]; omega)) (fun s hs => by simp [hs.2.len, hcl]) ?_
        clear hp1 hp2 hw2 c0 c1 c1e g0
        rintro ⟨j, o1', o2', p1, p2, hc'⟩ ⟨⟨hj, hp1, hp2⟩, hw2⟩
        simp only at hj hp1 hp2 hw2
        have hcl' := hw2.len
        have c0 := hw2.c0
        simp only [NetD.cells, vl, hNe] at c0
        have hHe2 : HL (hc' ++ [B.var e.cells]) := hHe hw2.p1.hl
        have k0e := fun (x : List B) (hx : 0 < (hc' ++ x).length) => getke ((get_app (x := x) (show 0 < hc'.length by omega)).trans c0) hx
        by_cases hjt : j < N
        · have hpl : p < js1.length := by omega
          have hql : q < js1.length := by omega
          have hpl2 : p < js2.length := by omega
          have hql2 : q < js2.length := by omega
          have hpL : p < a.locs.length := by omega
          have hqL : q < a.locs.length := by omega
          have hpL' : (p : Int) < a.locs.length := by omega
          have hqL' : (q : Int) < a.locs.length := by omega
          obtain ⟨xf, hxf, hmp⟩ := hw2.p1.at hpl
          obtain ⟨xt, hxt, hmq⟩ := hw2.p1.at hql
          obtain ⟨yf, hyf, hnp⟩ := hw2.p2.at hpl2
          obtain ⟨yt, hyt, hnq⟩ := hw2.p2.at hql2
          obtain ⟨rt, hrt, hrtl, ht⟩ := hw2.p1.rows q xt hxt
          obtain ⟨rf, hrf, hrfl, hf⟩ := hw2.p1.rows p xf hxf
          obtain ⟨st, hst, hstl, hu⟩ := hw2.p2.rows q yt hyt
          obtain ⟨sf, hsf, hsfl, hv⟩ := hw2.p2.rows p yf hyf
          have i1 := (List.getElem?_eq_some_iff.1 ht).1
          have i2 := (List.getElem?_eq_some_iff.1 hf).1
          have i3 := (List.getElem?_eq_some_iff.1 hu).1
          have i4 := (List.getElem?_eq_some_iff.1 hv).1
          have b1 := fun x : List B => (get_app (x := x) i1).trans ht
          have b2 := fun x : List B => (get_app (x := x) i2).trans hf
          have b3 := fun x : List B => (get_app (x := x) i3).trans hu
          have b4 := fun x : List B => (get_app (x := x) i4).trans hv
          have k2e := fun (x : List B) (hx : 2 < (hc' ++ x).length) => getke ((get_app (x := x) (show 2 < hc'.length by omega)).trans hw2.p1.mr) hx
          have k3e := fun (x : List B) (hx : 3 < (hc' ++ x).length) => getke ((get_app (x := x) (show 3 < hc'.length by omega)).trans hw2.p2.mr) hx
          have k2q := fun (x : List B) => (get_app (x := x) (show 2 < hc'.length by omega)).trans hw2.p1.mr
          have k3q := fun (x : List B) => (get_app (x := x) (show 3 < hc'.length by omega)).trans hw2.p2.mr
          have g0 := fun x : List B => ga0 (x := x) hcl'
          have ml1 : (mrefs js1 N).length = a.locs.length := by simp [mrefs, l1]
          have ml2 : (mrefs js2 N).length = a.locs.length := by simp [mrefs, l2]
          have hjt1 : (j : Int) + 1 ≤ N := by omega
          have hjt' : (j : Int) < N := by omega
          have wj : IntKind.i64.wrap (j : Int) = j := wI (by omega) (by omega)
          have w2 : IntKind.i64.wrap ((j : Int) + 1 + 1) = j + 1 + 1 := wI (by omega) (by omega)
          obtain ⟨v, hv1⟩ : ∃ v, rf[j]? = some v := ⟨_, List.getElem?_eq_getElem (by omega)⟩
          obtain ⟨u, hu1⟩ : ∃ u, rt[j]? = some u := ⟨_, List.getElem?_eq_getElem (by omega)⟩
          obtain ⟨v', hv2⟩ : ∃ v, sf[j]? = some v := ⟨_, List.getElem?_eq_getElem (by omega)⟩
          obtain ⟨u', hu2⟩ : ∃ u, st[j]? = some u := ⟨_, List.getElem?_eq_getElem (by omega)⟩
          have d1 : (ivs rt).length = N := by simp [ivs, hrtl]
          have d2 : (ivs rf).length = N := by simp [ivs, hrfl]
          have d3 : (ivs st).length = N := by simp [ivs, hstl]
          have d4 : (ivs sf).length = N := by simp [ivs, hsfl]
          have v1 : (ivs rt)[j]'(by omega) = [V.int .i64 u] := by rw [List.getElem_eq_iff]; simp [ivs, hu1]
          have v2 : (ivs rf)[j]'(by omega) = [V.int .i64 v] := by rw [List.getElem_eq_iff]; simp [ivs, hv1]
          have v3 : (ivs st)[j]'(by omega) = [V.int .i64 u'] := by rw [List.getElem_eq_iff]; simp [ivs, hu2]
          have v4 : (ivs sf)[j]'(by omega) = [V.int .i64 v'] := by rw [List.getElem_eq_iff]; simp [ivs, hv2]
          have x1 : ∀ w, (ivs rf).set j [V.int .i64 w] = ivs (rf.set j w) := fun w => by simp [ivs, List.map_set]
          have x2 : ∀ w, (ivs sf).set j [V.int .i64 w] = ivs (sf.set j w) := fun w => by simp [ivs, List.map_set]
          have hpt : e.frm.toNat = p := by omega
          have hqt : e.to.toNat = q := by omega
          have mt1 : nget p1 e.to.toNat j = some u := nget_of (r := rt) (by rw [hqt]; exact hrt) hu1
          have mf1 : nget p1 e.frm.toNat j = some v := nget_of (r := rf) (by rw [hpt]; exact hrf) hv1
          have mt2 : nget p2 e.to.toNat j = some u' := nget_of (r := st) (by rw [hqt]; exact hst) hu2
          have mf2 : nget p2 e.frm.toNat j = some v' := nget_of (r := sf) (by rw [hpt]; exact hsf) hv2
          have kp1 := hp1.keep he'
          have kp2 := hp2.keep he'
          have sp1 := fun hsb huv => hp1.step he' (r := rf) (by rw [hpt]; exact hrf) mt1 hsb hv1 huv
          have sp2 := fun hsb huv => hp2.step he' (r := sf) (by rw [hpt]; exact hsf) mt2 hsb hv2 huv
          rw [hpt] at sp1 sp2
          have hcs := r_Sets e ((j : Int) + 1) hes
          obtain ⟨sb, hsb⟩ : ∃ sb, setsB ((j : Int) + 1) e.sets = sb := ⟨_, rfl⟩
          rw [hsb] at hcs sp1 sp2
          simp only [EdgeD.cells, vl, hpp, hqq] at hcs
          have nc1 : (sb = true ∨ ¬ v < u) → nclos p1 e j := fun hor x y hx hs2 hy => by
            rw [mt1] at hx; rw [mf1] at hy; cases hx; cases hy
            rw [hsb] at hs2
            rcases hor with h | h
            · rw [h] at hs2; cases hs2
            · omega
          have nc2 : (sb = true ∨ ¬ v' < u') → nclos p2 e j := fun hor x y hx hs2 hy => by
            rw [mt2] at hx; rw [mf2] at hy; cases hx; cases hy
            rw [hsb] at hs2
            rcases hor with h | h
            · rw [h] at hs2; cases hs2
            · omega
          cases sb
          · have ne1 : xf.1 ≠ yt.1 := hw2.dj xf (List.mem_of_getElem? hxf) yt (List.mem_of_getElem? hyt)
            have ne2 : xf.1 ≠ yf.1 := hw2.dj xf (List.mem_of_getElem? hxf) yf (List.mem_of_getElem? hyf)
            have ne3 : xf.1 ≠ 3 := hw2.p1.ne_row (List.mem_of_getElem? hxf) (fun xs g => by rw [hw2.p2.mr]; simp)
            have sf1 := fun (x : List B) (y : B) => set_app (x := x) (y := y) i2
            have sf2 := fun (x : List B) (y : B) => set_app (x := x) (y := y) i4
            have c3 := fun (y : B) (x : List B) => (get_app (h := hc'.set xf.1 y) (x := x) (i := yt.1) (by rw [List.length_set]; exact i3)).trans ((gN ne1).trans hu)
            have c4 := fun (y : B) (x : List B) => (get_app (h := hc'.set xf.1 y) (x := x) (i := yf.1) (by rw [List.length_set]; exact i4)).trans ((gN ne2).trans hv)
            have k3f := fun (y : B) (x : List B) (hx : 3 < (hc'.set xf.1 y ++ x).length) => getke ((get_app (h := hc'.set xf.1 y) (x := x) (i := 3) (by rw [List.length_set]; omega)).trans ((gN ne3).trans hw2.p2.mr)) hx
            have k3fq := fun (y : B) (x : List B) => (get_app (h := hc'.set xf.1 y) (x := x) (i := 3) (by rw [List.length_set]; omega)).trans ((gN ne3).trans hw2.p2.mr)
            have sfy := fun (y : B) (x : List B) (z : B) => set_app (h := hc'.set xf.1 y) (i := yf.1) (x := x) (y := z) (by rw [List.length_set]; exact i4)
            have gs0 := fun (y : B) (x : List B) => ga0 (h := hc'.set xf.1 y) (x := x) (n := K0) (by rw [List.length_set]; exact hcl')
            by_cases q1 : v < u
            · by_cases q2 : v' < u'
              · have n1 := sp1 rfl q1
                have n2 := sp2 rfl q2
                have W := ((hw2.set1 hxf (r := rf.set j u) (by simp [hrfl])).set2 hyf (r := sf.set j u') (by simp [hsfl]))
                have hWl := W.len
                repeat' (first
 |refine aK fun K hK=>?_|refine Step.by1 ?_|refine sE (by decide) ?_|refine cz rfl ?_|refine Fork.by2 (fun h=>?_) fun h=>?_
 |((first|refine aR ?_|refine aX (id:=33) 19 mixed (by decide) ?_|refine aX (id:=34) 17 mixed (by decide) ?_|refine aX (id:=36) 19 mixed (by decide) ?_|refine aX (id:=37) 17 mixed (by decide) ?_|refine aC (f:=165) rfl rfl (hcs) rfl rfl rfl ?_);simp [NetD.cells, vl, EdgeD.cells, hpp, hqq, k0e, k2e, k3e, k2q, k3q, k3fq, g0, b1, b2, b3, b4, sf1, sf2, c3, c4, k3f, sfy, gs0, ml1, ml2, hmp, hmq, hnp, hnq, hpL, hpL', hqL, hqL', d1, d2, d3, d4, v1, v2, v3, v4, x1, x2, hjt, hjt', hjt1, hNe, wj, w2, q1, q2])
 |(refine Split.by2 (fun h=>?_) (fun h=>?_)<;>(simp [h, NetD.cells, vl, EdgeD.cells, hpp, hqq, k0e, k2e, k3e, k2q, k3q, k3fq, g0, b1, b2, b3, b4, sf1, sf2, c3, c4, k3f, sfy, gs0, ml1, ml2, hmp, hmq, hnp, hnq, hpL, hpL', hqL, hqL', d1, d2, d3, d4, v1, v2, v3, v4, x1, x2, hjt, hjt', hjt1, hNe, wj, w2, q1, q2]))
 |(apply hK;clear hK K)|refine AWh ‹_› ?_)
                exact ⟨⟨j + 1, true, true, p1.set p (rf.set j u), p2.set p (sf.set j u'), (hc'.set xf.1 (.row 3 xf.2 0 true (ivs (rf.set j u)))).set yf.1 (.row 3 yf.2 0 true (ivs (sf.set j u')))⟩, ⟨⟨by show j + 1 ≤ _; omega, n1, n2⟩, W⟩, by show _ - (j + 1) < _ - j; omega, Weak.sym (x := []) (by simp [EdgeD.cells, vl, hpp, hqq]) (W.p1.hl.app (by simp [EdgeD.cells, vl])) (by simp [hcl']; omega)⟩
              · have n1 := sp1 rfl q1
                have n2 := kp2 (nc2 (.inr q2))
                have W := (hw2.set1 hxf (r := rf.set j u) (by simp [hrfl]))
                have hWl := W.len
                repeat' (first
 |refine aK fun K hK=>?_|refine Step.by1 ?_|refine sE (by decide) ?_|refine cz rfl ?_|refine Fork.by2 (fun h=>?_) fun h=>?_
 |((first|refine aR ?_|refine aX (id:=33) 19 mixed (by decide) ?_|refine aX (id:=34) 17 mixed (by decide) ?_|refine aX (id:=36) 19 mixed (by decide) ?_|refine aX (id:=37) 17 mixed (by decide) ?_|refine aC (f:=165) rfl rfl (hcs) rfl rfl rfl ?_);simp [NetD.cells, vl, EdgeD.cells, hpp, hqq, k0e, k2e, k3e, k2q, k3q, k3fq, g0, b1, b2, b3, b4, sf1, sf2, c3, c4, k3f, sfy, gs0, ml1, ml2, hmp, hmq, hnp, hnq, hpL, hpL', hqL, hqL', d1, d2, d3, d4, v1, v2, v3, v4, x1, x2, hjt, hjt', hjt1, hNe, wj, w2, q1, q2])
 |(refine Split.by2 (fun h=>?_) (fun h=>?_)<;>(simp [h, NetD.cells, vl, EdgeD.cells, hpp, hqq, k0e, k2e, k3e, k2q, k3q, k3fq, g0, b1, b2, b3, b4, sf1, sf2, c3, c4, k3f, sfy, gs0, ml1, ml2, hmp, hmq, hnp, hnq, hpL, hpL', hqL, hqL', d1, d2, d3, d4, v1, v2, v3, v4, x1, x2, hjt, hjt', hjt1, hNe, wj, w2, q1, q2]))
 |(apply hK;clear hK K)|refine AWh ‹_› ?_)
                exact ⟨⟨j + 1, true, o2', p1.set p (rf.set j u), p2, hc'.set xf.1 (.row 3 xf.2 0 true (ivs (rf.set j u)))⟩, ⟨⟨by show j + 1 ≤ _; omega, n1, n2⟩, W⟩, by show _ - (j + 1) < _ - j; omega, Weak.sym (x := []) (by simp [EdgeD.cells, vl, hpp, hqq]) (W.p1.hl.app (by simp [EdgeD.cells, vl])) (by simp [hcl']; omega)⟩
            · by_cases q2 : v' < u'
              · have n1 := kp1 (nc1 (.inr q1))
                have n2 := sp2 rfl q2
                have W := (hw2.set2 hyf (r := sf.set j u') (by simp [hsfl]))
                have hWl := W.len
                repeat' (first
 |refine aK fun K hK=>?_|refine Step.by1 ?_|refine sE (by decide) ?_|refine cz rfl ?_|refine Fork.by2 (fun h=>?_) fun h=>?_
 |((first|refine aR ?_|refine aX (id:=33) 19 mixed (by decide) ?_|refine aX (id:=34) 17 mixed (by decide) ?_|refine aX (id:=36) 19 mixed (by decide) ?_|refine aX (id:=37) 17 mixed (by decide) ?_|refine aC (f:=165) rfl rfl (hcs) rfl rfl rfl ?_);simp [NetD.cells, vl, EdgeD.cells, hpp, hqq, k0e, k2e, k3e, k2q, k3q, k3fq, g0, b1, b2, b3, b4, sf1, sf2, c3, c4, k3f, sfy, gs0, ml1, ml2, hmp, hmq, hnp, hnq, hpL, hpL', hqL, hqL', d1, d2, d3, d4, v1, v2, v3, v4, x1, x2, hjt, hjt', hjt1, hNe, wj, w2, q1, q2])
 |(refine Split.by2 (fun h=>?_) (fun h=>?_)<;>(simp [h, NetD.cells, vl, EdgeD.cells, hpp, hqq, k0e, k2e, k3e, k2q, k3q, k3fq, g0, b1, b2, b3, b4, sf1, sf2, c3, c4, k3f, sfy, gs0, ml1, ml2, hmp, hmq, hnp, hnq, hpL, hpL', hqL, hqL', d1, d2, d3, d4, v1, v2, v3, v4, x1, x2, hjt, hjt', hjt1, hNe, wj, w2, q1, q2]))
 |(apply hK;clear hK K)|refine AWh ‹_› ?_)
                exact ⟨⟨j + 1, o1', true, p1, p2.set p (sf.set j u'), (hc').set yf.1 (.row 3 yf.2 0 true (ivs (sf.set j u')))⟩, ⟨⟨by show j + 1 ≤ _; omega, n1, n2⟩, W⟩, by show _ - (j + 1) < _ - j; omega, Weak.sym (x := []) (by simp [EdgeD.cells, vl, hpp, hqq]) (W.p1.hl.app (by simp [EdgeD.cells, vl])) (by simp [hcl']; omega)⟩
              · have n1 := kp1 (nc1 (.inr q1))
                have n2 := kp2 (nc2 (.inr q2))
                have W := hw2
                have hWl := W.len
                repeat' (first
 |refine aK fun K hK=>?_|refine Step.by1 ?_|refine sE (by decide) ?_|refine cz rfl ?_|refine Fork.by2 (fun h=>?_) fun h=>?_
 |((first|refine aR ?_|refine aX (id:=33) 19 mixed (by decide) ?_|refine aX (id:=34) 17 mixed (by decide) ?_|refine aX (id:=36) 19 mixed (by decide) ?_|refine aX (id:=37) 17 mixed (by decide) ?_|refine aC (f:=165) rfl rfl (hcs) rfl rfl rfl ?_);simp [NetD.cells, vl, EdgeD.cells, hpp, hqq, k0e, k2e, k3e, k2q, k3q, k3fq, g0, b1, b2, b3, b4, sf1, sf2, c3, c4, k3f, sfy, gs0, ml1, ml2, hmp, hmq, hnp, hnq, hpL, hpL', hqL, hqL', d1, d2, d3, d4, v1, v2, v3, v4, x1, x2, hjt, hjt', hjt1, hNe, wj, w2, q1, q2])
 |(refine Split.by2 (fun h=>?_) (fun h=>?_)<;>(simp [h, NetD.cells, vl, EdgeD.cells, hpp, hqq, k0e, k2e, k3e, k2q, k3q, k3fq, g0, b1, b2, b3, b4, sf1, sf2, c3, c4, k3f, sfy, gs0, ml1, ml2, hmp, hmq, hnp, hnq, hpL, hpL', hqL, hqL', d1, d2, d3, d4, v1, v2, v3, v4, x1, x2, hjt, hjt', hjt1, hNe, wj, w2, q1, q2]))
 |(apply hK;clear hK K)|refine AWh ‹_› ?_)
                exact ⟨⟨j + 1, o1', o2', p1, p2, hc'⟩, ⟨⟨by show j + 1 ≤ _; omega, n1, n2⟩, W⟩, by show _ - (j + 1) < _ - j; omega, Weak.sym (x := []) (by simp [EdgeD.cells, vl, hpp, hqq]) (W.p1.hl.app (by simp [EdgeD.cells, vl])) (by simp [hcl']; omega)⟩
          · have q1 := kp1 (nc1 (.inl rfl))
            have q2 := kp2 (nc2 (.inl rfl))
            repeat' (first
 |refine aK fun K hK=>?_|refine Step.by1 ?_|refine sE (by decide) ?_|refine cz rfl ?_|refine Fork.by2 (fun h=>?_) fun h=>?_
 |((first|refine aR ?_|refine aC (f:=165) rfl rfl (hcs) rfl rfl rfl ?_);simp [NetD.cells, vl, EdgeD.cells, hpp, hqq, k0e, g0, hjt1, hNe, w2])
 |(refine Split.by2 (fun h=>?_) (fun h=>?_)<;>(simp [h, NetD.cells, vl, EdgeD.cells, hpp, hqq, k0e, g0, hjt1, hNe, w2]))
 |(apply hK;clear hK K)|refine AWh ‹_› ?_)
            exact ⟨⟨j + 1, o1', o2', p1, p2, hc'⟩, ⟨⟨by show j + 1 ≤ _; omega, q1, q2⟩, hw2⟩, by show _ - (j + 1) < _ - j; omega, Weak.sym (x := []) (by simp [EdgeD.cells, vl, hpp, hqq]) (hw2.p1.hl.app (by simp [EdgeD.cells, vl])) (by simp [hcl']; omega)⟩
        · obtain rfl : j = N := by omega
          have hnj : ¬ ((j : Int) + 1 ≤ j) := by omega
          repeat' (first
 |refine aK fun K hK=>?_|refine Step.by1 ?_|refine sE (by decide) ?_|refine cz rfl ?_|refine Fork.by2 (fun h=>?_) fun h=>?_
 |(refine aR ?_;simp [NetD.cells, vl, k0e, hNe, w1, hnj])
 |(refine Split.by2 (fun h=>?_) (fun h=>?_)<;>(simp [h, NetD.cells, vl, k0e, hNe, w1, hnj]))
 |(apply hK;clear hK K)|refine AWh ‹_› ?_)
          exact ⟨⟨k + 1, o1', o2', p1, p2, hc'⟩, ⟨⟨by show k + 1 ≤ _; omega, hp1.next, hp2.next⟩, hw2⟩, by show _ - (k + 1) < _ - k; omega, Weak.sym (x := [B.var e.cells]) (by simp [EdgeD.cells, vl, hpp, hqq]) hw2.p1.hl (by simp [hcl']; omega)⟩
      · obtain rfl : k = a.edges.length := by omega
        repeat' (first
 |refine aK fun K hK=>?_|refine Step.by1 ?_|refine sE (by decide) ?_|refine cz rfl ?_|refine Fork.by2 (fun h=>?_) fun h=>?_
 |(refine aR ?_;simp [vl, c1, c1e])
 |(refine Split.by2 (fun h=>?_) (fun h=>?_)<;>(simp [h, vl, c1, c1e]))
 |(apply hK;clear hK K)|refine AWh ‹_› ?_)
        refine ⟨⟨o1 || o2, p1, p2, hc⟩, ⟨⟨hp1.s, hp2.s, fun h => ?_⟩, hw2⟩, ?_, Weak.sym (x := []) (by simp) hw2.p1.hl (by simp [hcl]; omega)⟩
        · simp only [Bool.or_eq_false_iff] at h
          obtain ⟨rfl, rfl⟩ := h
          exact fun e he c hc => ⟨hp1.done e he c hc, hp2.done e he c hc⟩
        · show 2 * (nM a (luB a N lowB gs) p1 + nM a (luB a N upB gs) p2) + (o1 || o2).toNat < 2 * (nM a (luB a N lowB gs) m1 + nM a (luB a N upB gs) m2) + true.toNat
          have e1 : o1 = true → _ := hp1.lt
          have e2 : o2 = true → _ := hp2.lt
          have e3 : o1 = false → p1 = m1 := fun h => (hp1.eq h).1
          have e4 : o2 = false → p2 = m2 := fun h => (hp2.eq h).1
          cases o1 <;> cases o2
          · rw [e3 rfl, e4 rfl]; simp
          · have := e2 rfl; rw [e3 rfl]; simp; omega
          · have := e1 rfl; rw [e4 rfl]; simp; omega
          · have := e1 rfl; have := e2 rfl; simp; omega
end Go.Proofs.YtgmlimipejcpgaaGreatDoor
end
