/-
  YtgmlimipejcpgaaGreatDoorAp03: steps of the proof of a law of the program: what these texts prove holds under the hypotheses that their theorems name, and no others.
-/
import Derived.Test.YtgmlimipejcpgaaGreatDoorCo29
import Derived.Test.YtgmlimipejcpgaaGreatDoorAp02
section
set_option linter.unusedSimpArgs false
set_option linter.unusedVariables false
namespace Go.Proofs.YtgmlimipejcpgaaGreatDoor
open Go Go.AM Fx
def falses (l : List Bool) : Nat := (l.filter fun b => !b).length
theorem falses_set : ∀ {l : List Bool} {i : Nat}, l[i]? = some false → falses (l.set i true) + 1 = falses l
  | [], i, h => by simp at h
  | b :: l, 0, h => by simp at h; subst h; simp [falses]
  | b :: l, i + 1, h => by
    have := falses_set (l := l) (i := i) (by simpa using h)
    cases b <;> simp [falses] at this ⊢ <;> omega
/-- What is marked so far is sound. -/
structure Snd (a : AutoD) (gs : List (List PartD)) (c : Int) (on : List Bool) : Prop where
  len : on.length = a.locs.length
  snd : ∀ i, on[i]? = some true → Act a gs c i
  use : ∀ i, i < a.locs.length → usedB a gs i c = true → on[i]? = some true
/-- No edge asks for a mark more. -/
def clos (c : Int) (on : List Bool) (e : EdgeD) : Prop := on[e.to.toNat]? = some true → setsB c e.sets = false → on[e.frm.toNat]? = some true
structure Pass (a : AutoD) (gs : List (List PartD)) (c : Int) (on0 : List Bool) (k : Nat) (moved : Bool) (on : List Bool) : Prop where
  s : Snd a gs c on
  lt : moved = true → falses on < falses on0
  eq : moved = false → on = on0 ∧ ∀ j e, j < k → a.edges[j]? = some e → clos c on e
theorem Pass.init {a : AutoD} {gs : List (List PartD)} {c : Int} {on : List Bool} (h : Snd a gs c on) : Pass a gs c on 0 false on :=
  ⟨h, fun h => (by cases h), fun _ => ⟨rfl, fun j e hj => (by omega)⟩⟩
theorem Pass.keep {a : AutoD} {gs : List (List PartD)} {c : Int} {on0 on : List Bool} {k : Nat} {moved : Bool} (p : Pass a gs c on0 k moved on) {e : EdgeD} (he : a.edges[k]? = some e) (hc : clos c on e) : Pass a gs c on0 (k + 1) moved on :=
  ⟨p.s, p.lt, fun hm => ⟨(p.eq hm).1, fun j x hj hx => by
    by_cases h : j = k
    · subst h; rw [he] at hx; cases hx; exact hc
    · exact (p.eq hm).2 j x (by omega) hx⟩⟩
theorem Snd.step {a : AutoD} {gs : List (List PartD)} {c : Int} {on : List Bool} (s : Snd a gs c on) {e : EdgeD} (he : e ∈ a.edges) (h1 : on[e.to.toNat]? = some true) (h2 : setsB c e.sets = false) : Snd a gs c (on.set e.frm.toNat true) := by
  refine ⟨by rw [List.length_set]; exact s.len, fun i hi => ?_, fun i hi hu => ?_⟩
  · rw [List.getElem?_set] at hi
    by_cases h : e.frm.toNat = i
    · subst h; exact .edge he (s.snd _ h1) h2
    · rw [if_neg h] at hi; exact s.snd i hi
  · rw [List.getElem?_set]
    by_cases h : e.frm.toNat = i
    · subst h; simp [s.len, hi]
    · rw [if_neg h]; exact s.use i hi hu
theorem Pass.step {a : AutoD} {gs : List (List PartD)} {c : Int} {on0 on : List Bool} {k : Nat} {moved : Bool} (p : Pass a gs c on0 k moved on) {e : EdgeD} (he : a.edges[k]? = some e)
    (h1 : on[e.to.toNat]? = some true) (h2 : setsB c e.sets = false) (h3 : on[e.frm.toNat]? = some false) : Pass a gs c on0 (k + 1) true (on.set e.frm.toNat true) := by
  have h4 := falses_set h3
  refine ⟨p.s.step (List.mem_of_getElem? he) h1 h2, fun _ => ?_, fun h => by cases h⟩
  cases hm : moved
  · rw [← (p.eq hm).1]; omega
  · have := p.lt hm; omega
/-- Where no edge asks for more, what is marked is just what is active. -/
theorem act_of_closed {a : AutoD} {gs : List (List PartD)} {c : Int} {on : List Bool} (s : Snd a gs c on) (hc : ∀ e ∈ a.edges, clos c on e) : ∀ i, Act a gs c i → on[i]? = some true := by
  intro i h
  induction h with
  | use hi h => exact s.use _ hi h
  | edge he _ hs ih => exact hc _ he ih hs
theorem closed_eq {a : AutoD} {gs : List (List PartD)} {c : Int} {on : List Bool} (s : Snd a gs c on) (hc : ∀ e ∈ a.edges, clos c on e) : on = (List.range a.locs.length).map (actB a gs c) := by
  apply List.ext_getElem?
  intro i
  by_cases hi : i < a.locs.length
  · have hi2 : i < on.length := by rw [s.len]; exact hi
    rw [List.getElem?_map, List.getElem?_range hi, List.getElem?_eq_getElem hi2]
    simp only [Option.map_some, Option.some.injEq]
    cases h : on[i]
    · have : ¬ Act a gs c i := fun h' => by
        have := act_of_closed s hc i h'
        rw [List.getElem?_eq_getElem hi2, h] at this; cases this
      simp [actB, this]
    · simp [actB, s.snd i (by rw [List.getElem?_eq_getElem hi2, h])]
  · rw [List.getElem?_eq_none (by rw [s.len]; omega), List.getElem?_eq_none (by simp; omega)]
theorem Pass.done {a : AutoD} {gs : List (List PartD)} {c : Int} {on0 on : List Bool} (p : Pass a gs c on0 a.edges.length false on) : ∀ e ∈ a.edges, clos c on e := fun e he => by
  obtain ⟨j, hj⟩ := List.getElem?_of_mem he
  exact (p.eq rfl).2 j e (List.getElem?_eq_some_iff.1 hj).1 hj
def usedL (a : AutoD) (gs : List (List PartD)) (c : Int) (k : Nat) : List Bool := (List.range k).map fun i => usedB a gs i c
theorem usedL_succ {a : AutoD} {gs : List (List PartD)} {c : Int} {k : Nat} : usedL a gs c (k + 1) = usedL a gs c k ++ [usedB a gs k c] := by simp [usedL, List.range_succ]
theorem usedL_len {a : AutoD} {gs : List (List PartD)} {c : Int} {k : Nat} : (usedL a gs c k).length = k := by simp [usedL]
theorem snd_used (a : AutoD) (gs : List (List PartD)) (c : Int) : Snd a gs c (usedL a gs c a.locs.length) := by
  refine ⟨usedL_len, fun i hi => ?_, fun i hi hu => ?_⟩
  · have hl : i < a.locs.length := by have := (List.getElem?_eq_some_iff.1 hi).1; rwa [usedL_len] at this
    rw [usedL, List.getElem?_map, List.getElem?_range hl] at hi
    exact .use hl (by simpa using hi)
  · rw [usedL, List.getElem?_map, List.getElem?_range hi]; simp [hu]
structure PS where
  k : Nat
  mv : Bool
  on : List Bool
set_option maxRecDepth 20000 in
set_option maxHeartbeats 16000000 in
theorem r_active (a : AutoD) (ha : a.ok) (hE : okE a) (c : Int) (gs : List (List PartD)) (hgl : gs.length ≤ 1048576) (hgs : ∀ g ∈ gs, okGoal g) :
    PC 101 [.agg a.cells, .int .i64 c, gsV gs] (.own 4 (bvs ((List.range a.locs.length).map (actB a gs c)))) := by
  have hal := ha.2.1
  have hae := ha.2.2
  refine pB Tryz.func101 rfl (by decide) Tryz.ntmps101 (by simp) Tryz.results101 ?_
  repeat' (first
 |refine aK fun K hK=>?_|refine Step.by1 ?_|refine sE (by decide) ?_|refine cz rfl ?_|refine Fork.by2 (fun h=>?_) fun h=>?_
 |(refine aR ?_;simp [gsV, vl, AutoD.cells])
 |(refine Split.by2 (fun h=>?_) (fun h=>?_)<;>(simp [h, gsV, vl, AutoD.cells]))
 |(apply hK;clear hK K)|refine AWh ‹_› ?_)
  refine AW_nilrow 7 4 rfl (by simp) ?_
  refine aL [1, 2, 3] (fun i : Nat => [(8, .int .i64 i), (7, .ref 1 i 0 i)]) (fun i => [.var a.cells, .row 4 i 0 true (bvs (usedL a gs c i))]) (fun i => i ≤ a.locs.length) (fun i => a.locs.length - i) 0 (Nat.zero_le _) (by apply Weak.mk' <;> simp [gsV, vl, AutoD.cells, usedL, bvs]) (fun _ _ => rfl) ?_
  intro i hi
  by_cases hlt : i < a.locs.length
  · have hc := r_used a ha i hlt c gs hgl hgs
    have hlt' : (i : Int) < a.locs.length := by omega
    have w1 : IntKind.i64.wrap ((i : Int) + 1) = i + 1 := wI (by omega) (by omega)
    have hby : i + 1 ≤ 140737488355328 := by omega
    have hul : (bvs (usedL a gs c i)).length = i := by simp [bvs, usedL_len]
    simp only [gsV, vl, AutoD.cells] at hc
    repeat' (first
 |refine aK fun K hK=>?_|refine Step.by1 ?_|refine sE (by decide) ?_|refine cz rfl ?_|refine Fork.by2 (fun h=>?_) fun h=>?_
 |((first|refine aR ?_|refine aC (f:=164) rfl rfl (hc) rfl rfl rfl ?_);simp [gsV, vl, AutoD.cells, hlt, hlt', w1, hby, hul])
 |(refine Split.by2 (fun h=>?_) (fun h=>?_)<;>(simp [h, gsV, vl, AutoD.cells, hlt, hlt', w1, hby, hul]))
 |(apply hK;clear hK K)|refine AWh ‹_› ?_)
    refine ⟨i + 1, by omega, by omega, ?_⟩
    apply Weak.mk' <;> simp [gsV, vl, AutoD.cells, usedL_succ, bvs]
  · obtain rfl : i = a.locs.length := by omega
    repeat' (first
 |refine aK fun K hK=>?_|refine Step.by1 ?_|refine sE (by decide) ?_|refine cz rfl ?_|refine Fork.by2 (fun h=>?_) fun h=>?_
 |(refine aR ?_;simp [gsV, vl, AutoD.cells])
 |(refine Split.by2 (fun h=>?_) (fun h=>?_)<;>(simp [h, gsV, vl, AutoD.cells]))
 |(apply hK;clear hK K)|refine AWh ‹_› ?_)
    refine aL [1, 3, 7] (fun s : PS => [(9, .bool s.mv)]) (fun s => [.var a.cells, .row 4 a.locs.length 0 true (bvs s.on)]) (fun s => Snd a gs c s.on ∧ (s.mv = false → ∀ e ∈ a.edges, clos c s.on e)) (fun s => 2 * falses s.on + s.mv.toNat) ⟨0, true, usedL a gs c a.locs.length⟩ ⟨snd_used a gs c, fun h => (by cases h)⟩ (by apply Weak.mk' <;> simp [gsV, vl, AutoD.cells]) (fun _ _ => rfl) ?_
    rintro ⟨_, mv, on⟩ ⟨hs, hcl⟩
    simp only at hs hcl
    cases mv
    · have hon := closed_eq hs (hcl rfl)
      have hol : (bvs on).length = a.locs.length := by simp [bvs, hs.len]
      clear hcl
      subst hon
      repeat' (first
 |refine aK fun K hK=>?_|refine Step.by1 ?_|refine sE (by decide) ?_|refine cz rfl ?_|refine Fork.by2 (fun h=>?_) fun h=>?_
 |(refine aR ?_;simp [gsV, vl, AutoD.cells])
 |(refine Split.by2 (fun h=>?_) (fun h=>?_)<;>(simp [h, gsV, vl, AutoD.cells]))
 |(apply hK;clear hK K)|refine AWh ‹_› ?_)
      exact r1q (.inr (.inl (conv1_own rfl (by simp [hol]))))
    · repeat' (first
 |refine aK fun K hK=>?_|refine Step.by1 ?_|refine sE (by decide) ?_|refine cz rfl ?_|refine Fork.by2 (fun h=>?_) fun h=>?_
 |(refine aR ?_;simp [gsV, vl, AutoD.cells])
 |(refine Split.by2 (fun h=>?_) (fun h=>?_)<;>(simp [h, gsV, vl, AutoD.cells]))
 |(apply hK;clear hK K)|refine AWh ‹_› ?_)
      refine aL [1, 3, 7] (fun s : PS => [(9, .bool s.mv), (10, .int .i64 s.k)]) (fun s => [.var a.cells, .row 4 a.locs.length 0 true (bvs s.on)]) (fun s => s.k ≤ a.edges.length ∧ Pass a gs c on s.k s.mv s.on) (fun s => a.edges.length - s.k) ⟨0, false, on⟩ ⟨Nat.zero_le _, .init hs⟩ (by apply Weak.mk' <;> simp [gsV, vl, AutoD.cells]) (fun _ _ => rfl) ?_
      rintro ⟨k, mv, on2⟩ ⟨hk, hp⟩
      simp only at hk hp
      by_cases hkt : k < a.edges.length
      · obtain ⟨e, he⟩ : ∃ e, a.edges[k] = e := ⟨_, rfl⟩
        have he' : a.edges[k]? = some e := by rw [List.getElem?_eq_getElem hkt, he]
        have hem := List.mem_of_getElem? he'
        obtain ⟨⟨f1, f2⟩, t1, t2⟩ := hE e hem
        obtain ⟨p, hpp⟩ := Int.eq_ofNat_of_zero_le f1
        obtain ⟨q, hqq⟩ := Int.eq_ofNat_of_zero_le t1
        have hcs := r_Sets e c (hae.2 e hem).2.2.2.2.2.2.1
        have hkt' : (k : Int) < a.edges.length := by omega
        have w1 : IntKind.i64.wrap ((k : Int) + 1) = k + 1 := wI (by omega) (by omega)
        have hol : on2.length = a.locs.length := hp.s.len
        have hpl : p < on2.length := by omega
        have hql : q < on2.length := by omega
        have hpl' : p < a.locs.length := by omega
        have hql' : q < a.locs.length := by omega
        have hpt : e.frm.toNat = p := by omega
        have hqt : e.to.toNat = q := by omega
        obtain ⟨bf, hbf⟩ : ∃ bf, on2[p] = bf := ⟨_, rfl⟩
        obtain ⟨bt, hbt⟩ : ∃ bt, on2[q] = bt := ⟨_, rfl⟩
        have hbf' : on2[e.frm.toNat]? = some bf := by rw [hpt, List.getElem?_eq_getElem hpl, hbf]
        have hbt' : on2[e.to.toNat]? = some bt := by rw [hqt, List.getElem?_eq_getElem hql, hbt]
        simp only [EdgeD.cells, vl, hpp, hqq] at hcs
        have hcl : (bvs on2).length = a.locs.length := by simp [bvs, hol]
        have hcf : (bvs on2)[p]'(by omega) = [V.bool bf] := by simp [bvs, hbf]
        have hct : (bvs on2)[q]'(by omega) = [V.bool bt] := by simp [bvs, hbt]
        have hbs : (bvs on2).set p [V.bool true] = bvs (on2.set p true) := by simp [bvs, List.map_set]
        have hk1 := hp.keep he'
        have hk2 := hp.step he'
        have hcf2 : ∀ (e1 : on2[e.to.toNat]? = some true → setsB c e.sets = false → on2[e.frm.toNat]? = some true), clos c on2 e := fun h => h
        rw [hpt] at hk2
        generalize hsb : setsB c e.sets = sb at *
        by_cases hall : bt = true ∧ bf = false ∧ sb = false
        · obtain ⟨rfl, rfl, rfl⟩ := hall
          repeat' (first
 |refine aK fun K hK=>?_|refine Step.by1 ?_|refine sE (by decide) ?_|refine cz rfl ?_|refine Fork.by2 (fun h=>?_) fun h=>?_
 |((first|refine aR ?_|refine aC (f:=165) rfl rfl (hcs) rfl rfl rfl ?_);simp [gsV, vl, AutoD.cells, EdgeD.cells, hkt, hkt', he, hpp, hqq, hpl', hql', hcl, hcf, hct, hbs, w1])
 |(refine Split.by2 (fun h=>?_) (fun h=>?_)<;>(simp [h, gsV, vl, AutoD.cells, EdgeD.cells, hkt, hkt', he, hpp, hqq, hpl', hql', hcl, hcf, hct, hbs, w1]))
 |(apply hK;clear hK K)|refine AWh ‹_› ?_)
          refine ⟨⟨k + 1, true, on2.set p true⟩, ⟨by show k + 1 ≤ _; omega, hk2 hbt' rfl (by rw [← hpt]; exact hbf')⟩, by show _ - (k + 1) < _ - k; omega, ?_⟩
          apply Weak.mk' <;> simp [gsV, vl, AutoD.cells]
        · have hcc : clos c on2 e := hcf2 (fun h1 h2 => by
            rw [hbt'] at h1; rw [hbf']
            cases bf
            · exact absurd ⟨by cases h1; rfl, rfl, h2⟩ hall
            · rfl)
          have hkk := hk1 hcc
          cases bt <;> cases bf <;> cases sb <;> simp only [not_true_eq_false, and_self, and_false, false_and, and_true, true_and, Bool.false_eq_true, reduceCtorEq] at hall
          all_goals
            repeat' (first
 |refine aK fun K hK=>?_|refine Step.by1 ?_|refine sE (by decide) ?_|refine cz rfl ?_|refine Fork.by2 (fun h=>?_) fun h=>?_
 |((first|refine aR ?_|refine aC (f:=165) rfl rfl (hcs) rfl rfl rfl ?_);simp [gsV, vl, AutoD.cells, EdgeD.cells, hkt, hkt', he, hpp, hqq, hpl', hql', hcl, hcf, hct, w1])
 |(refine Split.by2 (fun h=>?_) (fun h=>?_)<;>(simp [h, gsV, vl, AutoD.cells, EdgeD.cells, hkt, hkt', he, hpp, hqq, hpl', hql', hcl, hcf, hct, w1]))
 |(apply hK;clear hK K)|refine AWh ‹_› ?_)
            refine ⟨⟨k + 1, mv, on2⟩, ⟨by show k + 1 ≤ _; omega, hkk⟩, by show _ - (k + 1) < _ - k; omega, ?_⟩
            apply Weak.mk' <;> simp [gsV, vl, AutoD.cells]
      · obtain rfl : k = a.edges.length := by omega
        repeat' (first
 |refine aK fun K hK=>?_|refine Step.by1 ?_|refine sE (by decide) ?_|refine cz rfl ?_|refine Fork.by2 (fun h=>?_) fun h=>?_
 |(refine aR ?_;simp [gsV, vl, AutoD.cells])
 |(refine Split.by2 (fun h=>?_) (fun h=>?_)<;>(simp [h, gsV, vl, AutoD.cells]))
 |(apply hK;clear hK K)|refine AWh ‹_› ?_)
        refine ⟨⟨0, mv, on2⟩, ⟨hp.s, fun h => ?_⟩, ?_, ?_⟩
        · simp only at h; subst h; exact hp.done
        · cases mv
          · have := (hp.eq rfl).1; subst this; simp
          · have := hp.lt rfl; simp; omega
        · apply Weak.mk' <;> simp [gsV, vl, AutoD.cells]
theorem actL_len {a : AutoD} {gs : List (List PartD)} {loc k : Nat} : (actL a gs loc k).length ≤ k := by
  unfold actL
  rw [List.length_map]
  exact Nat.le_trans (List.length_filter_le _ _) (by simp)
theorem PCall.nilfst {f : Nat} {args vs : List V} (hc : PCall Tryz.prog GV f args (.tup (.nils :: vs))) (hv : ∀ v ∈ vs, v.isOwn = false) : PCall Tryz.prog GV f args (.tup (.own 3 [] :: vs)) :=
  ⟨hc.1, fun G w cargs ha hg => (hc.2 G w cargs ha hg).mono fun e w' ⟨c, G', h1, h2, arr, h3, h4, h5, h6⟩ => ⟨c, G', h1, h2, arr, h3, by simpa using h4, fun i v hi => by
    cases i with
    | zero =>
      simp at hi; subst hi
      have h7 : R G' w' true .nils (arr.getD 0 undef) := h5 0 .nils (by simp)
      generalize arr.getD 0 undef = x at *
      cases h7
      exact ⟨by simp, .inl ⟨rfl, rfl⟩⟩
    | succ i => exact h5 (i + 1) v (by simpa using hi), fun i j u v k hi hj hu hv' hk hk' => by
    have own0 : ∀ (i : Nat) (u : V), (V.own 3 [] :: vs)[i]? = some u → u.isOwn = true → i = 0 := fun i u hi hu => by
      cases i with
      | zero => rfl
      | succ i => rw [hv u (List.mem_of_getElem? (by simpa using hi))] at hu; cases hu
    rw [own0 i u hi hu, own0 j v hj hv']⟩⟩
set_option maxRecDepth 20000 in
set_option maxHeartbeats 8000000 in
theorem r_Clocks24 (n : NetD) (hn : n.ok) (au lo : Int) (gs : List (List PartD)) (hgl : gs.length ≤ 1048576) (hgs : ∀ g ∈ gs, okGoal g) :
    PC 34 [.agg n.cells, .int .i64 au, .int .i64 lo, gsV gs] (.tup [.own 3 (ivs (clksL n au lo gs)), .int .i64 (clksE n au lo gs)]) := by
  have hb := r_Bad n hn gs hgl hgs
  have hnl := hn.1.1
  have hnw : lookE n gs = 0 → netE n = 0 := fun h => by
    unfold lookE at h
    by_cases hz : netE n = 0
    · exact hz
    · rw [if_pos hz] at h; exact absurd h hz
  unfold clksL clksE
  generalize lookE n gs = e0 at *
  simp only [gsV, vl, NetD.cells] at hb
  by_cases he : e0 = 0
  · rw [if_neg (show ¬ (e0 ≠ 0) by simp [he]), if_neg (show ¬ (e0 ≠ 0) by simp [he])]
    have hE := edges_ok (netE_whole (hnw he))
    rw [he] at hb
    clear hnw
    by_cases hbad : badLoc n au lo
    · rw [if_pos hbad, if_pos hbad]
      unfold badLoc at hbad
      refine PCall.nilfst ?_ (by simp)
      refine pB Tryz.func34 rfl (by decide) Tryz.ntmps34 (by simp) Tryz.results34 ?_
      by_cases q : 0 ≤ au ∧ au < n.autos.length
      · obtain ⟨k2, hk⟩ := Int.eq_ofNat_of_zero_le q.1
        have hkl : k2 < n.autos.length := by omega
        have hkl' : (k2 : Int) < n.autos.length := by omega
        obtain ⟨a, haa⟩ : ∃ a, n.autos[k2] = a := ⟨_, rfl⟩
        have hgg : n.autos.getD au.toNat default = a := by rw [hk]; simp [List.getD, hkl, haa]
        rw [hgg] at hbad
        have hk0 : ¬ (k2 : Int) < 0 := by omega
        have hk1 : ¬ (n.autos.length : Int) ≤ k2 := by omega
        have hl3 : lo < 0 ∨ (a.locs.length : Int) ≤ lo := by omega
        subst hk
        repeat' (first
 |refine aK fun K hK=>?_|refine Step.by1 ?_|refine sE (by decide) ?_|refine cz rfl ?_|refine Fork.by2 (fun h=>?_) fun h=>?_
 |((first|refine aR ?_|refine aC (f:=100) rfl rfl (hb) rfl rfl rfl ?_);simp [gsV, vl, NetD.cells, AutoD.cells, hkl, hkl', haa, hk0, hk1])
 |(refine Split.by2 (fun h=>?_) (fun h=>?_)<;>(simp [h, gsV, vl, NetD.cells, AutoD.cells, hkl, hkl', haa, hk0, hk1]))
 |(apply hK;clear hK K)|refine AWh ‹_› ?_)
        all_goals first
          | (exfalso; omega)
          | exact retq2 (cE rfl rfl)
      · have q' : au < 0 ∨ (n.autos.length : Int) ≤ au := by omega
        repeat' (first
 |refine aK fun K hK=>?_|refine Step.by1 ?_|refine sE (by decide) ?_|refine cz rfl ?_|refine Fork.by2 (fun h=>?_) fun h=>?_
 |((first|refine aR ?_|refine aC (f:=100) rfl rfl (hb) rfl rfl rfl ?_);simp [gsV, vl, NetD.cells, AutoD.cells])
 |(refine Split.by2 (fun h=>?_) (fun h=>?_)<;>(simp [h, gsV, vl, NetD.cells, AutoD.cells]))
 |(apply hK;clear hK K)|refine AWh ‹_› ?_)
        all_goals first
          | (exfalso; omega)
          | exact retq2 (cE rfl rfl)
    · rw [if_neg hbad, if_neg hbad]
      unfold badLoc at hbad
      obtain ⟨k2, hk⟩ := Int.eq_ofNat_of_zero_le (show 0 ≤ au by omega)
      obtain ⟨j2, hj⟩ := Int.eq_ofNat_of_zero_le (show 0 ≤ lo by omega)
      subst hk; subst hj
      have hkl : k2 < n.autos.length := by omega
      have hkl' : (k2 : Int) < n.autos.length := by omega
      obtain ⟨a, haa⟩ : ∃ a, n.autos[k2] = a := ⟨_, rfl⟩
      have hgg : n.autos.getD ((k2 : Int)).toNat default = a := by simp [List.getD, hkl, haa]
      rw [hgg] at hbad ⊢
      have ham : a ∈ n.autos := haa ▸ List.getElem_mem hkl
      have hk0 : ¬ (k2 : Int) < 0 := by omega
      have hk1 : ¬ (n.autos.length : Int) ≤ k2 := by omega
      have hj0 : ¬ (j2 : Int) < 0 := by omega
      have hj1 : ¬ (a.locs.length : Int) ≤ j2 := by omega
      have hjl : j2 < a.locs.length := by omega
      have hjl' : (j2 : Int) < a.locs.length := by omega
      rw [show ((j2 : Int)).toNat = j2 by omega]
      refine pB Tryz.func34 rfl (by decide) Tryz.ntmps34 (by simp) Tryz.results34 ?_
      repeat' (first
 |refine aK fun K hK=>?_|refine Step.by1 ?_|refine sE (by decide) ?_|refine cz rfl ?_|refine Fork.by2 (fun h=>?_) fun h=>?_
 |((first|refine aR ?_|refine aC (f:=100) rfl rfl (hb) rfl rfl rfl ?_);simp [gsV, vl, NetD.cells, AutoD.cells, hkl, hkl', haa, hk0, hk1, hj0, hj1])
 |(refine Split.by2 (fun h=>?_) (fun h=>?_)<;>(simp [h, gsV, vl, NetD.cells, AutoD.cells, hkl, hkl', haa, hk0, hk1, hj0, hj1]))
 |(apply hK;clear hK K)|refine AWh ‹_› ?_)
      refine AW_nilrow 11 3 rfl (by simp) ?_
      refine aL [1, 2, 3, 4] (fun k : Nat => [(12, .int .i64 ((k : Int) + 1)), (11, .ref 1 (actL a gs j2 k).length 0 (actL a gs j2 k).length)]) (fun k => [.var n.cells, .row 3 (actL a gs j2 k).length 0 true (ivs (actL a gs j2 k))]) (fun k => k ≤ n.clocks.length) (fun k => n.clocks.length - k) 0 (Nat.zero_le _) (by apply Weak.mk' <;> simp [gsV, vl, NetD.cells, AutoD.cells, actL, ivs]) (fun _ _ => rfl) ?_
      intro k hk
      have hll := actL_len (a := a) (gs := gs) (loc := j2) (k := k)
      by_cases hlt : k < n.clocks.length
      · have hc := (r_active a (hn.2.2.2.2 a ham) (hE a ham) ((k : Int) + 1) gs hgl hgs).freeze
        have hlt' : (k : Int) + 1 ≤ n.clocks.length := by omega
        have w1 : IntKind.i64.wrap ((k : Int) + 1 + 1) = k + 1 + 1 := wI (by omega) (by omega)
        have hby : ((actL a gs j2 k).length + 1) * 8 ≤ 140737488355328 := by omega
        have hsu := actL_succ (a := a) (gs := gs) (loc := j2) (k := k)
        simp only [gsV, vl, AutoD.cells] at hc
        obtain ⟨bb, hbb, hbl, hbj?⟩ : ∃ bb, bvs ((List.range a.locs.length).map (actB a gs ((k : Int) + 1))) = bb ∧ bb.length = a.locs.length ∧ bb[j2]? = some [V.bool (actB a gs ((k : Int) + 1) j2)] := ⟨_, rfl, by simp [bvs], by simp [bvs, hjl]⟩
        rw [hbb, hbl] at hc
        clear hbb
        have hbj : bb[j2]'(by omega) = [V.bool (actB a gs ((k : Int) + 1) j2)] := by rw [List.getElem?_eq_getElem (by omega)] at hbj?; exact Option.some.inj hbj?
        clear hbj?
        have hil : (ivs (actL a gs j2 k)).length = (actL a gs j2 k).length := by simp [ivs]
        generalize actB a gs ((k : Int) + 1) j2 = b at *
        cases b
        · rw [if_neg (by simp)] at hsu
          repeat' (first
 |refine aK fun K hK=>?_|refine Step.by1 ?_|refine sE (by decide) ?_|refine cz rfl ?_|refine Fork.by2 (fun h=>?_) fun h=>?_
 |((first|refine aR ?_|refine aC (f:=101) rfl rfl (hc) rfl rfl rfl ?_);simp [gsV, vl, NetD.cells, AutoD.cells, hkl, hkl', haa, hlt', w1, hbl, hbj, hjl, hjl'])
 |(refine Split.by2 (fun h=>?_) (fun h=>?_)<;>(simp [h, gsV, vl, NetD.cells, AutoD.cells, hkl, hkl', haa, hlt', w1, hbl, hbj, hjl, hjl']))
 |(apply hK;clear hK K)|refine AWh ‹_› ?_)
          refine ⟨k + 1, by omega, by omega, ?_⟩
          rw [hsu]
          apply Weak.mk' <;> simp [gsV, vl, NetD.cells, AutoD.cells]
        · rw [if_pos rfl] at hsu
          repeat' (first
 |refine aK fun K hK=>?_|refine Step.by1 ?_|refine sE (by decide) ?_|refine cz rfl ?_|refine Fork.by2 (fun h=>?_) fun h=>?_
 |((first|refine aR ?_|refine aC (f:=101) rfl rfl (hc) rfl rfl rfl ?_);simp [gsV, vl, NetD.cells, AutoD.cells, hkl, hkl', haa, hlt', w1, hbl, hbj, hjl, hjl', hby, hil])
 |(refine Split.by2 (fun h=>?_) (fun h=>?_)<;>(simp [h, gsV, vl, NetD.cells, AutoD.cells, hkl, hkl', haa, hlt', w1, hbl, hbj, hjl, hjl', hby, hil]))
 |(apply hK;clear hK K)|refine AWh ‹_› ?_)
          refine ⟨k + 1, by omega, by omega, ?_⟩
          rw [hsu]
          apply Weak.mk' <;> simp [gsV, vl, NetD.cells, AutoD.cells, ivs]
      · obtain rfl : k = n.clocks.length := by omega
        have hlt' : ¬ (n.clocks.length : Int) + 1 ≤ n.clocks.length := by omega
        repeat' (first
 |refine aK fun K hK=>?_|refine Step.by1 ?_|refine sE (by decide) ?_|refine cz rfl ?_|refine Fork.by2 (fun h=>?_) fun h=>?_
 |(refine aR ?_;simp [gsV, vl, NetD.cells, AutoD.cells, hlt'])
 |(refine Split.by2 (fun h=>?_) (fun h=>?_)<;>(simp [h, gsV, vl, NetD.cells, AutoD.cells, hlt']))
 |(apply hK;clear hK K)|refine AWh ‹_› ?_)
        refine retq2 (.inr (.inr ⟨_, _, rfl, rfl, rfl, fun i u s hu hs => ?_, fun i j u u' q hu hu' e e' => ?_⟩))
        · rcases i with _ | _ | i
          · cases hu; cases hs; exact .inr ⟨1, _, 3, _, by simp [ivs], rfl, rfl⟩
          · cases hu; cases hs; exact .inl ⟨rfl, rfl⟩
          · simp at hu
        · rcases i with _ | _ | i <;> rcases j with _ | _ | j <;> simp at hu hu' <;> subst hu <;> subst hu' <;> simp_all [V.refBlk]
  · rw [if_pos (show e0 ≠ 0 from he), if_pos (show e0 ≠ 0 from he)]
    refine PCall.nilfst ?_ (by simp)
    refine pB Tryz.func34 rfl (by decide) Tryz.ntmps34 (by simp) Tryz.results34 ?_
    repeat' (first
 |refine aK fun K hK=>?_|refine Step.by1 ?_|refine sE (by decide) ?_|refine cz rfl ?_|refine Fork.by2 (fun h=>?_) fun h=>?_
 |((first|refine aR ?_|refine aC (f:=100) rfl rfl (hb) rfl rfl rfl ?_);simp [gsV, vl, NetD.cells, he])
 |(refine Split.by2 (fun h=>?_) (fun h=>?_)<;>(simp [h, gsV, vl, NetD.cells, he]))
 |(apply hK;clear hK K)|refine AWh ‹_› ?_)
    exact retq2 (cE rfl rfl)
end Go.Proofs.YtgmlimipejcpgaaGreatDoor
end
