/-
  YtbgooadmonnjaaaGreatDoorRc30: steps of the proof of a law of the program: what these texts prove holds under the hypotheses that their theorems name, and no others.
-/
import Derived.Test.YtbgooadmonnjaaaGreatDoorRc23
import Derived.Test.YtbgooadmonnjaaaGreatDoorRc26
import Derived.Test.YtbgooadmonnjaaaGreatDoorRc18
import Derived.Test.YtbgooadmonnjaaaGreatDoorRc27
section
set_option linter.unusedSimpArgs false
set_option linter.unusedVariables false
namespace Go.Proofs.YtbgooadmonnjaaaGreatDoor
open Go Go.AM Fx
def sideP (p : Int × EdgeD) : List V := sideC p.1 p.2
theorem c_sidesL {n : NetD} {m : MoveD} {L : List (Int × EdgeD)} (h : movL n m = some L) : PC 195 [.agg n.cells, .agg m.cells] (.tup [.vec (L.map sideP) L.length, .bool true]) := by
  have h1 := c_sides n m
  unfold sidesS at h1
  rcases movL_cases h with ⟨e, h2, hw, rfl⟩ | ⟨e, f, h2, hw, h3, h4, rfl⟩
  · rw [h2] at h1
    unfold movL at h
    rw [h2] at h
    simp only [hw, if_true] at h h1
    cases hb : (decide (e.chan = 0) && decide (m.take = 0))
    · rw [hb] at h; simp at h
    · rw [hb] at h1; exact h1
  · rw [h2] at h1
    simp only [hw, if_false] at h1
    rw [h3] at h1
    simp only [h4, if_true] at h1
    exact h1
theorem c_sidesN {n : NetD} {m : MoveD} (h : movL n m = none) : PC 195 [.agg n.cells, .agg m.cells] (.tup [.nils, .bool false]) ∨ ∃ a e, PC 195 [.agg n.cells, .agg m.cells] (.tup [.vec [sideC a e] 1, .bool false]) := by
  have h1 := c_sides n m
  unfold sidesS at h1
  unfold movL at h
  cases he : edgeO n m.auto m.edge with
  | none => rw [he] at h1; exact .inl h1
  | some e =>
    rw [he] at h h1
    by_cases hw : m.wth = 0
    · simp only [hw, if_true] at h h1
      cases hb : (decide (e.chan = 0) && decide (m.take = 0))
      · rw [hb] at h1; exact .inr ⟨_, _, h1⟩
      · rw [hb] at h; simp at h
    · simp only [hw, if_false] at h h1
      cases hf : edgeO n (otherM m) m.take with
      | none => rw [hf] at h1; exact .inl h1
      | some f =>
        rw [hf] at h h1
        simp only at h h1
        cases hp : pairB m e f
        · rw [hp] at h1; exact .inl h1
        · rw [hp] at h; simp at h
/-- What is handed back: nothing, where there is an error. -/
def stV (p : Int × StateD) : V := if p.1 = 0 then .agg p.2.cells else .agg [.nils, .nils]
def HP (n : NetD) (s : StateD) (m : MoveD) (L W : List Int) : List B :=
  [.var n.cells, .var s.cells, .var m.cells, .var [.nils, .nils], .row 3 1 0 true (ivs L), .row 3 1 0 true (ivs W), .var [.ref 4 1 0 L.length, .ref 5 1 0 W.length]]
set_option maxRecDepth 40000 in
set_option maxHeartbeats 16000000 in
theorem c_pass1 (n : NetD) (hn : n.ok) (s : StateD) (hs : s.ok) (hr : rightSE n s = true) (m : MoveD) : PC 138 [.agg n.cells, .agg s.cells, .agg m.cells] (.tup [stV (passR n s m), .int .i64 (passR n s m).1]) := by
  unfold passR
  cases hm : movL n m with
  | none =>
    rcases c_sidesN hm with h1 | ⟨a, e, h1⟩
    all_goals
      simp only [NetD.cells, StateD.cells, MoveD.cells, vl, passA, stV, noS, sideC, EdgeD.cells] at h1 ⊢
      refine pB Tryz.func138 rfl (by decide) Tryz.ntmps138 (by simp) Tryz.results138 ?_
      repeat' (first
 |refine aK fun K hK=>?_|refine Step.by1 ?_|refine sE (by decide) ?_|refine cz rfl ?_|refine Fork.by2 (fun h=>?_) fun h=>?_
 |((first|refine aR ?_|refine aC (f:=195) rfl rfl (h1) rfl rfl rfl ?_);simp)
 |(refine Split.by2 (fun h=>?_) (fun h=>?_)<;>(simp [h]))
 |(apply hK;clear hK K)|refine AWh ‹_› ?_)
      exact retq2ct rfl (by simp) (cE (by simp) (by simp))
  | some L =>
    have h1 := c_sidesL hm
    obtain ⟨hL2, hLa⟩ := movL_at hm
    obtain ⟨hw, hlo, hvo⟩ := right_split hr
    obtain ⟨r1, r2, r3⟩ := right_at hr
    have hcom := fun (i : Nat) (a : AutoD) (k : Int) => c_isCom n hn s hs hr i a k
    have hC := c_Com n hn s hs
    have hiv : (ivs s.locs).length = s.locs.length := by simp [ivs]
    have hivv : (ivs s.vars).length = s.vars.length := by simp [ivs]
    have hsl := hs.1
    have hsv := hs.2
    have hv64 := vals_i64 hn hvo
    obtain ⟨E, hE⟩ : ∃ E, thF n s L false = E := ⟨_, rfl⟩
    simp only [passA, hE]
    obtain ⟨Z, hZ⟩ : ∃ Z, passB n s L E = Z := ⟨_, rfl⟩
    rw [hZ]
    have hcells : n.cells = [.vec (n.clocks.map fun x => [.str x]) n.clocks.length, .vec (n.vars.map VarD.cells) n.vars.length, .vec (n.chans.map fun x => [.str x]) n.chans.length, .vec (n.autos.map AutoD.cells) n.autos.length] := rfl
    have scells : s.cells = [.vec (ivs s.locs) s.locs.length, .vec (ivs s.vars) s.vars.length] := rfl
    have mcells : m.cells = [.int .i64 m.auto, .int .i64 m.edge, .int .i64 m.wth, .int .i64 m.take] := rfl
    simp only [hcells, scells, mcells] at h1 hcom hC ⊢
    refine pB Tryz.func138 rfl (by decide) Tryz.ntmps138 (by simp) Tryz.results138 ?_
    repeat' (first
 |refine aK fun K hK=>?_|refine Step.by1 ?_|refine sE (by decide) ?_|refine cz rfl ?_|refine Fork.by2 (fun h=>?_) fun h=>?_
 |((first|refine aR ?_|refine aC (f:=195) rfl rfl (h1) rfl rfl rfl ?_);simp [hL2])
 |(refine Split.by2 (fun h=>?_) (fun h=>?_)<;>(simp [h, hL2]))
 |(apply hK;clear hK K)|refine AWh ‹_› ?_)
    refine AW_range L 35 [3, 4, 6, 8, 33, 34] (fun c : Bx => [(10, .bool c.b)]) (fun c => [.var n.cells, .var s.cells, .var m.cells, .var [.nils, .nils]]) (fun i c => True) (thFx n s) ⟨false⟩ (r := E) hE trivial (by apply Weak.mk' <;> simp [hcells, scells, mcells]) (fun _ _ _ => rfl) ?_ ?_
    · rintro i ⟨c⟩ ⟨a, e⟩ hx? hlt hx _ hF
      have hF : thF n s ((a, e) :: L.drop (i + 1)) c = E := hF
      obtain ⟨j, A, ea, hA, heA⟩ := hLa _ (hx ▸ List.getElem_mem hlt)
      simp only at ea heA
      subst ea
      have hjn : j < n.autos.length := (List.getElem?_eq_some_iff.1 hA).1
      have hAj : n.autos[j] = A := (List.getElem?_eq_some_iff.1 hA).2
      have hjs : j < s.locs.length := by omega
      have hjs' : (j : Int) < s.locs.length := by omega
      have hlt' : (i : Int) < L.length := by omega
      have w1 : IntKind.i64.wrap ((i : Int) + 1) = i + 1 := wI (by omega) (by omega)
      obtain ⟨k, hk⟩ : ∃ k, s.locs[j] = k := ⟨_, rfl⟩
      have hig : (ivs s.locs)[j]'(by omega) = [.int .i64 k] := by simp [ivs, hk]
      have hc := hcom j A k hjn hjs hAj hk
      have e1 : locOf s (j : Int) = k := by simp [locOf, List.getD, List.getElem?_eq_getElem hjs, hk]
      have e2 : comAt n s (j : Int) = comP (A, k) := by simp [comAt, e1, List.getD, hA]
      rw [thF_cons] at hF
      simp only [e1, e2] at hF
      generalize comP (A, k) = b at *
      obtain ⟨ef, et, eg, ex, ec, es, el⟩ := e
      simp only at hF
      have hx' : L[i] = ((j : Int), EdgeD.mk ef et eg ex ec es el) := hx
      by_cases hkf : k = ef
      · rw [if_pos hkf] at hF
        cases c
        · cases b
          all_goals
            repeat' (first
 |refine aK fun K hK=>?_|refine Step.by1 ?_|refine sE (by decide) ?_|refine cz rfl ?_|refine Fork.by2 (fun h=>?_) fun h=>?_
 |((first|refine aR ?_|refine aX (id:=8) 9 mixed (by decide) ?_|refine aC (f:=198) rfl rfl (hc) rfl rfl rfl ?_);simp [hlt, hlt', hx', sideP, sideC, EdgeD.cells, vl, hjs, hjs', hiv, hig, hkf, w1, hcells, scells, mcells])
 |(refine Split.by2 (fun h=>?_) (fun h=>?_)<;>(simp [h, hlt, hlt', hx', sideP, sideC, EdgeD.cells, vl, hjs, hjs', hiv, hig, hkf, w1, hcells, scells, mcells]))
 |(apply hK;clear hK K)|refine AWh ‹_› ?_)
            refine ⟨⟨_⟩, hF, ?_⟩
            apply Weak.mk' <;> simp [hcells, scells, mcells]
        · repeat' (first
 |refine aK fun K hK=>?_|refine Step.by1 ?_|refine sE (by decide) ?_|refine cz rfl ?_|refine Fork.by2 (fun h=>?_) fun h=>?_
 |((first|refine aR ?_|refine aX (id:=8) 9 mixed (by decide) ?_);simp [hlt, hlt', hx', sideP, sideC, EdgeD.cells, vl, hjs, hjs', hiv, hig, hkf, w1, hcells, scells, mcells])
 |(refine Split.by2 (fun h=>?_) (fun h=>?_)<;>(simp [h, hlt, hlt', hx', sideP, sideC, EdgeD.cells, vl, hjs, hjs', hiv, hig, hkf, w1, hcells, scells, mcells]))
 |(apply hK;clear hK K)|refine AWh ‹_› ?_)
          refine ⟨⟨true⟩, by simpa [thFx] using hF, ?_⟩
          apply Weak.mk' <;> simp [hcells, scells, mcells]
      · rw [if_neg hkf] at hF
        subst hF
        repeat' (first
 |refine aK fun K hK=>?_|refine Step.by1 ?_|refine sE (by decide) ?_|refine cz rfl ?_|refine Fork.by2 (fun h=>?_) fun h=>?_
 |((first|refine aR ?_|refine aX (id:=8) 9 mixed (by decide) ?_);simp [hlt, hlt', hx', sideP, sideC, EdgeD.cells, vl, hjs, hjs', hiv, hig, hkf, w1, hcells, scells, mcells])
 |(refine Split.by2 (fun h=>?_) (fun h=>?_)<;>(simp [h, hlt, hlt', hx', sideP, sideC, EdgeD.cells, vl, hjs, hjs', hiv, hig, hkf, w1, hcells, scells, mcells]))
 |(apply hK;clear hK K)|refine AWh ‹_› ?_)
        exact retq2ct rfl (by simp) (cE (by simp [← hZ, passB, stV]) (by simp))
    · rintro ⟨c⟩ _ hF
      have hF : thF n s [] c = E := hF
      rw [thF_nil] at hF
      subst hF
      obtain ⟨cm, hcm⟩ : ∃ cm, comE n s = cm := ⟨_, rfl⟩
      rw [hcm] at hC
      by_cases hstop : (c || !cm) = false
      · have hc0 : c = false := by cases c <;> simp_all
        have hc1 : cm = true := by cases cm <;> simp_all
        subst hc0; subst hc1
        have hp : passB n s L (some false) = (213, noS) := by simp [passB, hcm]
        repeat' (first
 |refine aK fun K hK=>?_|refine Step.by1 ?_|refine sE (by decide) ?_|refine cz rfl ?_|refine Fork.by2 (fun h=>?_) fun h=>?_
 |((first|refine aR ?_|refine aC (f:=199) rfl rfl (hC) rfl rfl rfl ?_);simp [hcells, scells, mcells])
 |(refine Split.by2 (fun h=>?_) (fun h=>?_)<;>(simp [h, hcells, scells, mcells]))
 |(apply hK;clear hK K)|refine AWh ‹_› ?_)
        exact retq2ct rfl (by simp) (cE (by simp [← hZ, hp, stV]) (by simp))
      · have hp : passB n s L (some c) = passC n s L (moveF s.vars L s.locs) := by simp only [passB, hcm]; rw [if_neg hstop]
        have hstop' : ¬ (c = false ∧ cm = true) := by cases c <;> cases cm <;> simp_all
        rw [hp] at hZ
        obtain ⟨F1, hF1⟩ : ∃ F1, moveF s.vars L s.locs = F1 := ⟨_, rfl⟩
        rw [hF1] at hZ
        have hz1 := eq_true (show ∀ z ∈ ivs s.locs, z.length = 1 by intro z hz; simp [ivs] at hz; obtain ⟨_, _, rfl⟩ := hz; rfl)
        have hz2 := eq_true (show ∀ z ∈ ivs s.vars, z.length = 1 by intro z hz; simp [ivs] at hz; obtain ⟨_, _, rfl⟩ := hz; rfl)
        have tk1 : (ivs s.locs).take s.locs.length = ivs s.locs := List.take_of_length_le (by omega)
        have tk2 : (ivs s.vars).take s.vars.length = ivs s.vars := List.take_of_length_le (by omega)
        have by1 : s.locs.length * 8 ≤ 140737488355328 := by omega
        have by2 : s.vars.length * 8 ≤ 140737488355328 := by omega
        have hset : ∀ (l : List Int) (i : Nat) (v : Int), (ivs l).set i [.int .i64 v] = ivs (l.set i v) := fun l i v => by simp [ivs, List.map_set]
        have ivl : ∀ l : List Int, (ivs l).length = l.length := fun l => by simp [ivs]
        repeat' (first
 |refine AW_mid (id := 12) ⟨164, [(3, .ptr 0 0), (4, .ptr 1 0), (6, .ptr 3 0), (8, .vec (L.map sideP) L.length)], [.var n.cells, .var s.cells, .var m.cells, .var [.nils, .nils]]⟩ (Hold.mk ?_) (Hold.mk ?_)
 |refine aK fun K hK=>?_|refine Step.by1 ?_|refine sE (by decide) ?_|refine cz rfl ?_|refine Fork.by2 (fun h=>?_) fun h=>?_
 |(refine aR ?_;simp)
 |(refine Split.by2 (fun h=>?_) (fun h=>?_)<;>(simp [h]))
 |(apply hK;clear hK K)|refine AWh ‹_› ?_)
        · refine Hold.out ?_
          cases c <;> cases cm
          all_goals first | (exfalso; exact hstop' ⟨rfl, rfl⟩) | skip
          all_goals
            repeat' (first
 |refine aK fun K hK=>?_|refine Step.by1 ?_|refine sE (by decide) ?_|refine cz rfl ?_|refine Fork.by2 (fun h=>?_) fun h=>?_
 |((first|refine aR ?_|refine aC (f:=199) rfl rfl (hC) rfl rfl rfl ?_);simp [hcells, scells, mcells])
 |(refine Split.by2 (fun h=>?_) (fun h=>?_)<;>(simp [h, hcells, scells, mcells]))
 |(apply hK;clear hK K)|refine AWh ‹_› ?_)
            exact SMeet_normal (by apply Weak.mk' <;> simp [hcells, scells, mcells]) rfl
        · refine Hold.out ?_
          clear hstop hstop'
          repeat' (first
 |refine aK fun K hK=>?_|refine Step.by1 ?_|refine sE (by decide) ?_|refine cz rfl ?_|refine Fork.by2 (fun h=>?_) fun h=>?_
 |(refine aR ?_;simp)
 |(refine Split.by2 (fun h=>?_) (fun h=>?_)<;>(simp [h]))
 |(apply hK;clear hK K)|refine AWh ‹_› ?_)
          refine AW_addrow 3 (by simp) ?_
          refine AW_addrow 3 (by simp) ?_
          simp [hcells, scells, mcells]
          have hrest : ∀ st' : St, st'.n = 164 → st'.h = HP n s m s.locs s.vars → lk st'.tm 3 = .ptr 0 0 → lk st'.tm 4 = .ptr 1 0 → lk st'.tm 6 = .ptr 3 0 → lk st'.tm 8 = .vec (L.map sideP) L.length → lk st'.tm 13 = .ptr 6 0 → K st' := by
            rintro ⟨sn, tm, H⟩ hsn hH t3 t4 t6 t8 t13
            refine hK _ ?_
            simp only at hsn hH t3 t4 t6 t8 t13
            subst hsn; subst hH
            refine AW.weak (st' := ⟨164, [(3, .ptr 0 0), (4, .ptr 1 0), (6, .ptr 3 0), (8, .vec (L.map sideP) L.length), (13, .ptr 6 0)], HP n s m s.locs s.vars⟩) (by apply Weak.mk' <;> simp [t3, t4, t6, t8, t13, HP, hcells, scells, mcells]) rfl ?_
            clear hK t3 t4 t6 t8 t13 hC hcom
            repeat' (first
 |refine aK fun K hK=>?_|refine Step.by1 ?_|refine sE (by decide) ?_|refine cz rfl ?_|refine Fork.by2 (fun h=>?_) fun h=>?_
 |(refine aR ?_;simp [hL2])
 |(refine Split.by2 (fun h=>?_) (fun h=>?_)<;>(simp [h, hL2]))
 |(apply hK;clear hK K)|refine AWh ‹_› ?_)
            refine AW_range L 76 [3, 4, 6, 8, 13, 74, 75] (fun c : List Int => []) (fun c => HP n s m c s.vars) (fun i c => c.length = s.locs.length) (moveF s.vars) s.locs (r := F1) hF1 rfl (by apply Weak.mk' <;> simp [HP, hcells, scells, mcells]) (fun _ _ _ => rfl) ?_ ?_
            · rintro i c ⟨a, e⟩ hx? hlt hx hJ hF
              obtain ⟨j, A, ea, hA, heA⟩ := hLa _ (hx ▸ List.getElem_mem hlt)
              simp only at ea heA
              subst ea
              have hjn : j < n.autos.length := (List.getElem?_eq_some_iff.1 hA).1
              have hjs : j < c.length := by omega
              have hjs' : (j : Int) < c.length := by omega
              have hlt' : (i : Int) < L.length := by omega
              have w1 : IntKind.i64.wrap ((i : Int) + 1) = i + 1 := wI (by omega) (by omega)
              have hao := hn.2.2.2.2 A (List.mem_of_getElem? hA)
              have heo := hao.2.2.2 e heA
              have hc := c_HoldsX e.test heo.2.2.2.1 s.vars hs.2 hv64
              have e1 : moveF s.vars (((j : Int), e) :: L.drop (i + 1)) c = if tstB s.vars e = true then moveF s.vars (L.drop (i + 1)) (c.set j e.to) else none := by rw [moveF_cons]; rfl
              rw [e1] at hF
              unfold tstB at hF
              obtain ⟨ef, et, eg, ex, ec, es, el⟩ := e
              simp only at hF hc
              have hx' : L[i] = ((j : Int), EdgeD.mk ef et eg ex ec es el) := hx
              generalize holdsS ex s.vars = q at *
              obtain ⟨qb, qe⟩ := q
              simp only [vl, scells] at hF hc
              by_cases hq : qe = 0
              · subst hq
                cases qb
                · rw [if_neg (by simp)] at hF
                  subst hF
                  repeat' (first
 |refine aK fun K hK=>?_|refine Step.by1 ?_|refine sE (by decide) ?_|refine cz rfl ?_|refine Fork.by2 (fun h=>?_) fun h=>?_
 |((first|refine aR ?_|refine aC (f:=122) rfl rfl (hc) rfl rfl rfl ?_);simp [hlt, hlt', hx', sideP, sideC, EdgeD.cells, vl, HP, hcells, scells, mcells, w1])
 |(refine Split.by2 (fun h=>?_) (fun h=>?_)<;>(simp [h, hlt, hlt', hx', sideP, sideC, EdgeD.cells, vl, HP, hcells, scells, mcells, w1]))
 |(apply hK;clear hK K)|refine AWh ‹_› ?_)
                  exact retq2ct rfl (by simp) (cE (by simp [← hZ, passC, stV]) (by simp))
                · rw [if_pos (by simp)] at hF
                  have hjg : (ivs c)[j]'(by rw [ivl]; exact hjs) = [.int .i64 c[j]] := by simp [ivs]
                  repeat' (first
 |refine aK fun K hK=>?_|refine Step.by1 ?_|refine sE (by decide) ?_|refine cz rfl ?_|refine Fork.by2 (fun h=>?_) fun h=>?_
 |((first|refine aR ?_|refine aC (f:=122) rfl rfl (hc) rfl rfl rfl ?_);simp [hlt, hlt', hx', sideP, sideC, EdgeD.cells, vl, HP, hcells, scells, mcells, w1, hjs, hjs', ivl, hjg])
 |(refine Split.by2 (fun h=>?_) (fun h=>?_)<;>(simp [h, hlt, hlt', hx', sideP, sideC, EdgeD.cells, vl, HP, hcells, scells, mcells, w1, hjs, hjs', ivl, hjg]))
 |(apply hK;clear hK K)|refine AWh ‹_› ?_)
                  refine ⟨_, hF, by simp [hJ], ?_⟩
                  apply Weak.mk' <;> simp [HP, hcells, scells, mcells, hset]
              · rw [if_neg (by simp [hq])] at hF
                subst hF
                repeat' (first
 |refine aK fun K hK=>?_|refine Step.by1 ?_|refine sE (by decide) ?_|refine cz rfl ?_|refine Fork.by2 (fun h=>?_) fun h=>?_
 |((first|refine aR ?_|refine aC (f:=122) rfl rfl (hc) rfl rfl rfl ?_);simp [hlt, hlt', hx', sideP, sideC, EdgeD.cells, vl, HP, hcells, scells, mcells, w1, hq])
 |(refine Split.by2 (fun h=>?_) (fun h=>?_)<;>(simp [h, hlt, hlt', hx', sideP, sideC, EdgeD.cells, vl, HP, hcells, scells, mcells, w1, hq]))
 |(apply hK;clear hK K)|refine AWh ‹_› ?_)
                exact retq2ct rfl (by simp) (cE (by simp [← hZ, passC, stV]) (by simp))
            · intro ls hlsl hF
              rw [moveF_nil] at hF
              subst hF
              obtain ⟨F2, hF2⟩ : ∃ F2, setsLF n L s.vars = F2 := ⟨_, rfl⟩
              have hpc : passC n s L (some ls) = passD ls F2 := by rw [← hF2]; rfl
              rw [hpc] at hZ
              repeat' (first
 |refine aK fun K hK=>?_|refine Step.by1 ?_|refine sE (by decide) ?_|refine cz rfl ?_|refine Fork.by2 (fun h=>?_) fun h=>?_
 |(refine aR ?_;simp [hL2])
 |(refine Split.by2 (fun h=>?_) (fun h=>?_)<;>(simp [h, hL2]))
 |(apply hK;clear hK K)|refine AWh ‹_› ?_)
              refine AW_range L 107 [3, 6, 13, 105, 106] (fun c : List Int => []) (fun c => HP n s m ls c) (fun i c => valsOk n c) (setsLF n) s.vars (r := F2) hF2 hvo (by apply Weak.mk' <;> simp [HP, hcells, scells, mcells]) (fun _ _ _ => rfl) ?_ ?_
              · rintro i c ⟨a, e⟩ hx? hlt hx hJ hF
                obtain ⟨j, A, ea, hA, heA⟩ := hLa _ (hx ▸ List.getElem_mem hlt)
                simp only at heA
                have hlt' : (i : Int) < L.length := by omega
                have w1 : IntKind.i64.wrap ((i : Int) + 1) = i + 1 := wI (by omega) (by omega)
                have hao := hn.2.2.2.2 A (List.mem_of_getElem? hA)
                have heo := hao.2.2.2 e heA
                have heR := (whole_edge hw (List.mem_of_getElem? hA) heA).vars
                have hsl2 := heo.2.2.2.2.2.2
                rw [setsLF_cons] at hF
                obtain ⟨ef, et, eg, ex, ec, es, el⟩ := e
                simp only at hF heR hsl2
                obtain ⟨R2, hR2⟩ : ∃ R2, setsF n el c = R2 := ⟨_, rfl⟩
                rw [hR2] at hF
                have hx' : L[i] = (a, EdgeD.mk ef et eg ex ec es el) := hx
                have hell := hsl2.1
                repeat' (first
 |refine aK fun K hK=>?_|refine Step.by1 ?_|refine sE (by decide) ?_|refine cz rfl ?_|refine Fork.by2 (fun h=>?_) fun h=>?_
 |(refine aR ?_;simp [hlt, hlt', hx', sideP, sideC, EdgeD.cells, vl, HP, hcells, scells, mcells])
 |(refine Split.by2 (fun h=>?_) (fun h=>?_)<;>(simp [h, hlt, hlt', hx', sideP, sideC, EdgeD.cells, vl, HP, hcells, scells, mcells]))
 |(apply hK;clear hK K)|refine AWh ‹_› ?_)
                refine AW_range el 115 [3, 6, 13, 105, 106, 107, 113, 114] (fun c : List Int => []) (fun c => HP n s m ls c ++ [.var (sideP (a, EdgeD.mk ef et eg ex ec es el))]) (fun i c => valsOk n c) (setsF n) c (r := R2) hR2 hJ (by apply Weak.mk' <;> simp [HP, hcells, scells, mcells, sideP, sideC, EdgeD.cells, vl]) (fun _ _ _ => by simp [HP]) ?_ ?_
                · rintro k b x hxk? hkt hxx hJ2 hG
                  have hxm : x ∈ el := hxx ▸ List.getElem_mem hkt
                  have hkt' : (k : Int) < el.length := by omega
                  have w2 : IntKind.i64.wrap ((k : Int) + 1) = k + 1 := wI (by omega) (by omega)
                  have hxo := hsl2.2 x hxm
                  have hxR := heR x hxm
                  rw [setsF_cons] at hG
                  have hblen := vals_len hJ2
                  have hnv := hn.2.1.1
                  have hc := c_ValueX x.expr hxo.2.2.2 b (by omega) (vals_i64 hn hJ2)
                  obtain ⟨xc, xn, xv, xe⟩ := x
                  simp only at hxR hc hG
                  by_cases hxc : xc = 0
                  · subst hxc
                    obtain ⟨v0, v1⟩ := hxR rfl
                    obtain ⟨jv, rfl⟩ := Int.eq_ofNat_of_zero_le v0
                    have hjv : jv < n.vars.length := by omega
                    have hjb : jv < b.length := by omega
                    have hjb' : (jv : Int) < b.length := by omega
                    obtain ⟨V, hV⟩ : ∃ V, n.vars[jv] = V := ⟨_, rfl⟩
                    have hVd : n.vars.getD ((jv : Int)).toNat default = V := by simp [List.getD, List.getElem?_eq_getElem hjv, hV]
                    have e2 : stepV n ⟨0, xn, (jv : Int), xe⟩ b = if (valueS xe b).2 = 0 ∧ V.lo ≤ (valueS xe b).1 ∧ (valueS xe b).1 ≤ V.hi then some (b.set jv (valueS xe b).1) else none := by
                      unfold stepV
                      rw [if_neg (by simp), hVd]; rfl
                    have hst : ∀ ws, stepV n ⟨0, xn, (jv : Int), xe⟩ b = some ws → valsOk n ws := fun ws h => stepV_ok hJ2 h
                    rw [e2] at hG hst
                    generalize valueS xe b = q at *
                    obtain ⟨qv, qe⟩ := q
                    simp only [vl] at hG hc hst
                    by_cases hq : qe = 0
                    · subst hq
                      by_cases hl1 : V.lo ≤ qv
                      · by_cases hl2 : qv ≤ V.hi
                        · rw [if_pos ⟨rfl, hl1, hl2⟩] at hG hst
                          have hl1' : ¬ qv < V.lo := by omega
                          have hl2' : ¬ V.hi < qv := by omega
                          have hjg : (ivs b)[jv]'(by rw [ivl]; exact hjb) = [.int .i64 b[jv]] := by simp [ivs]
                          repeat' (first
 |refine aK fun K hK=>?_|refine Step.by1 ?_|refine sE (by decide) ?_|refine cz rfl ?_|refine Fork.by2 (fun h=>?_) fun h=>?_
 |(refine aR ?_;simp [hkt, hkt', hxx, SetD.cells, vl, HP, hcells, scells, mcells, w2, hjv, v1, hV, VarD.cells, hl1', hl2', hjb, hjb', ivl, hjg])
 |(refine Split.by2 (fun h=>?_) (fun h=>?_)<;>(simp [h, hkt, hkt', hxx, SetD.cells, vl, HP, hcells, scells, mcells, w2, hjv, v1, hV, VarD.cells, hl1', hl2', hjb, hjb', ivl, hjg]))
 |(refine aG (f := 200) rfl rfl (GCall_seenT hc (by simp [seenW, seenV, HP, vl, ivl]) (by simp [vl]) rfl) rfl (fun v h' hq => ?_); obtain ⟨rfl, rfl⟩ := hq; simp)
 |(apply hK;clear hK K)|refine AWh ‹_› ?_)
                          refine ⟨_, hG, hst _ rfl, ?_⟩
                          apply Weak.mk' <;> simp [HP, hcells, scells, mcells, hset, sideP, sideC, EdgeD.cells, vl]
                        · rw [if_neg (fun h => hl2 h.2.2)] at hG
                          have hl1' : ¬ qv < V.lo := by omega
                          have hl2' : V.hi < qv := by omega
                          subst hG
                          subst hF
                          repeat' (first
 |refine aK fun K hK=>?_|refine Step.by1 ?_|refine sE (by decide) ?_|refine cz rfl ?_|refine Fork.by2 (fun h=>?_) fun h=>?_
 |(refine aR ?_;simp [hkt, hkt', hxx, SetD.cells, vl, HP, hcells, scells, mcells, w2, hjv, v1, hV, VarD.cells, hl1', hl2', ivl])
 |(refine Split.by2 (fun h=>?_) (fun h=>?_)<;>(simp [h, hkt, hkt', hxx, SetD.cells, vl, HP, hcells, scells, mcells, w2, hjv, v1, hV, VarD.cells, hl1', hl2', ivl]))
 |(refine aG (f := 200) rfl rfl (GCall_seenT hc (by simp [seenW, seenV, HP, vl, ivl]) (by simp [vl]) rfl) rfl (fun v h' hq => ?_); obtain ⟨rfl, rfl⟩ := hq; simp)
 |(apply hK;clear hK K)|refine AWh ‹_› ?_)
                          exact retq2ct rfl (by simp) (cE (by simp [← hZ, passD, stV]) (by simp))
                      · rw [if_neg (fun h => hl1 h.2.1)] at hG
                        have hl1' : qv < V.lo := by omega
                        subst hG
                        subst hF
                        repeat' (first
 |refine aK fun K hK=>?_|refine Step.by1 ?_|refine sE (by decide) ?_|refine cz rfl ?_|refine Fork.by2 (fun h=>?_) fun h=>?_
 |(refine aR ?_;simp [hkt, hkt', hxx, SetD.cells, vl, HP, hcells, scells, mcells, w2, hjv, v1, hV, VarD.cells, hl1', ivl])
 |(refine Split.by2 (fun h=>?_) (fun h=>?_)<;>(simp [h, hkt, hkt', hxx, SetD.cells, vl, HP, hcells, scells, mcells, w2, hjv, v1, hV, VarD.cells, hl1', ivl]))
 |(refine aG (f := 200) rfl rfl (GCall_seenT hc (by simp [seenW, seenV, HP, vl, ivl]) (by simp [vl]) rfl) rfl (fun v h' hq => ?_); obtain ⟨rfl, rfl⟩ := hq; simp)
 |(apply hK;clear hK K)|refine AWh ‹_› ?_)
                        exact retq2ct rfl (by simp) (cE (by simp [← hZ, passD, stV]) (by simp))
                    · rw [if_neg (fun h => hq h.1)] at hG
                      subst hG
                      subst hF
                      repeat' (first
 |refine aK fun K hK=>?_|refine Step.by1 ?_|refine sE (by decide) ?_|refine cz rfl ?_|refine Fork.by2 (fun h=>?_) fun h=>?_
 |(refine aR ?_;simp [hkt, hkt', hxx, SetD.cells, vl, HP, hcells, scells, mcells, w2, hq, ivl])
 |(refine Split.by2 (fun h=>?_) (fun h=>?_)<;>(simp [h, hkt, hkt', hxx, SetD.cells, vl, HP, hcells, scells, mcells, w2, hq, ivl]))
 |(refine aG (f := 200) rfl rfl (GCall_seenT hc (by simp [seenW, seenV, HP, vl, ivl]) (by simp [vl]) rfl) rfl (fun v h' hq => ?_); obtain ⟨rfl, rfl⟩ := hq; simp)
 |(apply hK;clear hK K)|refine AWh ‹_› ?_)
                      exact retq2ct rfl (by simp) (cE (by simp [← hZ, passD, stV]) (by simp))
                  · have e2 : stepV n ⟨xc, xn, xv, xe⟩ b = some b := by unfold stepV; rw [if_pos hxc]
                    rw [e2] at hG
                    repeat' (first
 |refine aK fun K hK=>?_|refine Step.by1 ?_|refine sE (by decide) ?_|refine cz rfl ?_|refine Fork.by2 (fun h=>?_) fun h=>?_
 |(refine aR ?_;simp [hkt, hkt', hxx, SetD.cells, vl, HP, hcells, scells, mcells, w2, hxc])
 |(refine Split.by2 (fun h=>?_) (fun h=>?_)<;>(simp [h, hkt, hkt', hxx, SetD.cells, vl, HP, hcells, scells, mcells, w2, hxc]))
 |(apply hK;clear hK K)|refine AWh ‹_› ?_)
                    refine ⟨b, hG, hJ2, ?_⟩
                    apply Weak.mk' <;> simp [HP, hcells, scells, mcells, sideP, sideC, EdgeD.cells, vl]
                · intro b hJ2 hG
                  rw [setsF_nil] at hG
                  subst hG
                  repeat' (first
 |refine aK fun K hK=>?_|refine Step.by1 ?_|refine sE (by decide) ?_|refine cz rfl ?_|refine Fork.by2 (fun h=>?_) fun h=>?_
 |(refine aR ?_;simp [w1])
 |(refine Split.by2 (fun h=>?_) (fun h=>?_)<;>(simp [h, w1]))
 |(apply hK;clear hK K)|refine AWh ‹_› ?_)
                  refine ⟨b, hF, hJ2, ?_⟩
                  apply Weak.mk' <;> simp [HP, hcells, scells, mcells]
              · intro vs hJ hF
                rw [setsLF_nil] at hF
                subst hF
                repeat' (first
 |refine aK fun K hK=>?_|refine Step.by1 ?_|refine sE (by decide) ?_|refine cz rfl ?_|refine Fork.by2 (fun h=>?_) fun h=>?_
 |(refine aR ?_;simp [HP, hcells, scells, mcells])
 |(refine Split.by2 (fun h=>?_) (fun h=>?_)<;>(simp [h, HP, hcells, scells, mcells]))
 |(apply hK;clear hK K)|refine AWh ‹_› ?_)
                exact retq2ct rfl (by simp) (.inl ⟨3, by simp [frz, ← hZ, passD, stV, StateD.cells, ivl, Go.AM.V.isF], by simp [← hZ, passD, stV, Go.AM.V.plain, Go.AM.V.isOwn]⟩)
          refine AW_region_chain 9 10 [0, 1, 3, 4] (fun H => H[1]? = some (.var [.vec (ivs s.locs) s.locs.length, .vec (ivs s.vars) s.vars.length])) mixed (by decide) (by decide) rfl rfl ?_
          simp only [List.take_succ_cons, List.take_zero]
          refine PX_op (v := .ptr 1 0) rfl rfl rfl rfl (fun H hs => by simp [hs]) ?_
          refine PX_op (v := .vec (ivs s.locs) s.locs.length) rfl rfl rfl rfl (fun H hs => by simp [hs]) ?_
          refine PX_skip rfl ?_
          refine PX_op (v := .ptr 1 1) rfl rfl rfl rfl (fun H hs => by simp [hs]) ?_
          refine PX_op (v := .vec (ivs s.vars) s.vars.length) rfl rfl rfl rfl (fun H hs => by simp [hs]) ?_
          refine PX_skip rfl ?_
          refine PX_skip rfl ?_
          refine PX_skip rfl ?_
          refine PX_skip rfl ?_
          refine PX_nil ?_
          simp
          refine Ch_2 2 7 (by decide) (by decide) ?_ ?_
          · refine ChS_slot 4 rfl rfl rfl rfl (by simp [hcells, scells, mcells, hiv, hivv, tk1, tk2, hz1, hz2, by1]) rfl rfl (by simp [scells]) ?_; simp [hcells, scells, mcells, hiv, hivv, tk1, tk2, hz1, hz2]
            refine Ch_2 5 7 (by decide) (by decide) ?_ ?_
            · refine ChS_slot 5 rfl rfl rfl rfl (by simp [hcells, scells, mcells, hiv, hivv, tk1, tk2, hz1, hz2, by2]) rfl rfl (by simp [scells]) ?_; simp [hcells, scells, mcells, hiv, hivv, tk1, tk2, hz1, hz2]
              refine Ch_2 6 7 (by decide) (by decide) ?_ ?_
              · refine cS1 rfl rfl rfl rfl (by simp) (by simp [scells]) ?_; simp [hcells, scells, mcells, hiv, hivv, tk1, tk2, hz1, hz2]
                refine Ch_1 7 (by decide) (by decide) ?_
                refine ChS_op rfl rfl rfl rfl (by simp) rfl (by simp [scells]) ?_; simp [hcells, scells, mcells, hiv, hivv, tk1, tk2, hz1, hz2]
                refine Ch_1 8 (by decide) (by decide) ?_
                refine ChS_op rfl rfl rfl rfl (by simp) rfl (by simp [scells]) ?_; simp [hcells, scells, mcells, hiv, hivv, tk1, tk2, hz1, hz2]
                refine Ch_end (by decide) ?_
                refine AS_of_AO ?_; simp; exact hrest _ rfl (by simp [HP, hcells, scells, mcells, hiv, hivv, tk1, tk2]) rfl rfl rfl rfl rfl
              · refine ChS_op rfl rfl rfl rfl (by simp) rfl (by simp [scells]) ?_; simp [hcells, scells, mcells, hiv, hivv, tk1, tk2, hz1, hz2]
                refine Ch_1 6 (by decide) (by decide) ?_
                refine cS1 rfl rfl rfl rfl (by simp) (by simp [scells]) ?_; simp [hcells, scells, mcells, hiv, hivv, tk1, tk2, hz1, hz2]
                refine Ch_1 8 (by decide) (by decide) ?_
                refine ChS_op rfl rfl rfl rfl (by simp) rfl (by simp [scells]) ?_; simp [hcells, scells, mcells, hiv, hivv, tk1, tk2, hz1, hz2]
                refine Ch_end (by decide) ?_
                refine AS_of_AO ?_; simp; exact hrest _ rfl (by simp [HP, hcells, scells, mcells, hiv, hivv, tk1, tk2]) rfl rfl rfl rfl rfl
            · refine ChS_op rfl rfl rfl rfl (by simp) rfl (by simp [scells]) ?_; simp [hcells, scells, mcells, hiv, hivv, tk1, tk2, hz1, hz2]
              refine Ch_1 5 (by decide) (by decide) ?_
              refine ChS_slot 5 rfl rfl rfl rfl (by simp [hcells, scells, mcells, hiv, hivv, tk1, tk2, hz1, hz2, by2]) rfl rfl (by simp [scells]) ?_; simp [hcells, scells, mcells, hiv, hivv, tk1, tk2, hz1, hz2]
              refine Ch_1 6 (by decide) (by decide) ?_
              refine cS1 rfl rfl rfl rfl (by simp) (by simp [scells]) ?_; simp [hcells, scells, mcells, hiv, hivv, tk1, tk2, hz1, hz2]
              refine Ch_1 8 (by decide) (by decide) ?_
              refine ChS_op rfl rfl rfl rfl (by simp) rfl (by simp [scells]) ?_; simp [hcells, scells, mcells, hiv, hivv, tk1, tk2, hz1, hz2]
              refine Ch_end (by decide) ?_
              refine AS_of_AO ?_; simp; exact hrest _ rfl (by simp [HP, hcells, scells, mcells, hiv, hivv, tk1, tk2]) rfl rfl rfl rfl rfl
          · refine ChS_op rfl rfl rfl rfl (by simp) rfl (by simp [scells]) ?_; simp [hcells, scells, mcells, hiv, hivv, tk1, tk2, hz1, hz2]
            refine Ch_1 2 (by decide) (by decide) ?_
            refine ChS_slot 4 rfl rfl rfl rfl (by simp [hcells, scells, mcells, hiv, hivv, tk1, tk2, hz1, hz2, by1]) rfl rfl (by simp [scells]) ?_; simp [hcells, scells, mcells, hiv, hivv, tk1, tk2, hz1, hz2]
            refine Ch_1 5 (by decide) (by decide) ?_
            refine ChS_slot 5 rfl rfl rfl rfl (by simp [hcells, scells, mcells, hiv, hivv, tk1, tk2, hz1, hz2, by2]) rfl rfl (by simp [scells]) ?_; simp [hcells, scells, mcells, hiv, hivv, tk1, tk2, hz1, hz2]
            refine Ch_1 6 (by decide) (by decide) ?_
            refine cS1 rfl rfl rfl rfl (by simp) (by simp [scells]) ?_; simp [hcells, scells, mcells, hiv, hivv, tk1, tk2, hz1, hz2]
            refine Ch_1 8 (by decide) (by decide) ?_
            refine ChS_op rfl rfl rfl rfl (by simp) rfl (by simp [scells]) ?_; simp [hcells, scells, mcells, hiv, hivv, tk1, tk2, hz1, hz2]
            refine Ch_end (by decide) ?_
            refine AS_of_AO ?_; simp; exact hrest _ rfl (by simp [HP, hcells, scells, mcells, hiv, hivv, tk1, tk2]) rfl rfl rfl rfl rfl
theorem pass_err {n : NetD} {s : StateD} {m : MoveD} (h : (passR n s m).1 ≠ 0) : (passR n s m).2 = noS := by
  unfold passR at h ⊢
  cases hm : movL n m with
  | none => rfl
  | some L =>
    rw [hm] at h
    simp only [passA] at h ⊢
    cases ht : thF n s L false with
    | none => rfl
    | some f =>
      rw [ht] at h
      simp only [passB] at h ⊢
      by_cases hf : (f || !comE n s) = false
      · rw [if_pos hf]
      · rw [if_neg hf] at h ⊢
        cases hv : moveF s.vars L s.locs with
        | none => rfl
        | some ls =>
          rw [hv] at h
          simp only [passC] at h ⊢
          cases hs : setsLF n L s.vars with
          | none => rfl
          | some vs => rw [hs] at h; exact absurd rfl h
/-- The state behind a move, or the error. -/
theorem c_pass (n : NetD) (hn : n.ok) (s : StateD) (hs : s.ok) (hr : rightSE n s = true) (m : MoveD) : PC 138 [.agg n.cells, .agg s.cells, .agg m.cells] (.tup [.agg (passR n s m).2.cells, .int .i64 (passR n s m).1]) := by
  have h1 := c_pass1 n hn s hs hr m
  by_cases h : (passR n s m).1 = 0
  · rw [stV, if_pos h] at h1; exact h1
  · rw [stV, if_neg h] at h1
    rw [pass_err h]
    exact h1.dnt (by simp [V.isOwn]) (by simp [V.dns, V.dn, noS, StateD.cells, ivs]) (by simp [V.isOwn])
/-- In a state of the network. -/
theorem c_After (n : NetD) (hn : n.ok) (s : StateD) (hs : s.ok) (hr : rightSE n s = true) (m : MoveD) : PC 66 [.agg n.cells, .agg s.cells, .agg m.cells] (.tup [.agg (passR n s m).2.cells, .int .i64 (passR n s m).1]) := by
  have h1 := c_netRight n hn
  rw [decide_eq_true (right_split hr).1] at h1
  have h2 := c_stRight n hn s
  rw [hr] at h2
  have h3 := c_pass n hn s hs hr m
  generalize passR n s m = q at *
  obtain ⟨qe, ql, qv⟩ := q
  simp only [NetD.cells, StateD.cells, MoveD.cells] at h1 h2 h3 ⊢
  refine pB Tryz.func66 rfl (by decide) Tryz.ntmps66 (by simp) Tryz.results66 ?_
  repeat' (first
 |refine aK fun K hK=>?_|refine Step.by1 ?_|refine sE (by decide) ?_|refine cz rfl ?_|refine Fork.by2 (fun h=>?_) fun h=>?_
 |((first|refine aR ?_|refine aC (f:=137) rfl rfl (h1) rfl rfl rfl ?_|refine aC (f:=119) rfl rfl (h2) rfl rfl rfl ?_|refine aC (f:=138) rfl rfl (h3) rfl rfl rfl ?_);simp)
 |(refine Split.by2 (fun h=>?_) (fun h=>?_)<;>(simp [h]))
 |(apply hK;clear hK K)|refine AWh ‹_› ?_)
  exact retq2ct rfl (by simp) (cE (by simp) (by simp [vl]))
end Go.Proofs.YtbgooadmonnjaaaGreatDoor
end
