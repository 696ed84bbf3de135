/-
  YtbgooadmonnjaaaGreatDoorRc25: steps of the proof of a law of the program: what these texts prove holds under the hypotheses that their theorems name, and no others.
-/
import Derived.Test.YtbgooadmonnjaaaGreatDoorRc23
import Derived.Test.YtbgooadmonnjaaaGreatDoorRc24
import Derived.Test.YtbgooadmonnjaaaGreatDoorRc11
import Derived.Test.YtbgooadmonnjaaaGreatDoorRc18
import Derived.Test.YtbgooadmonnjaaaGreatDoorRc08
section
set_option linter.unusedSimpArgs false
set_option linter.unusedVariables false
namespace Go.Proofs.YtbgooadmonnjaaaGreatDoor
open Go Go.AM Fx
def noC : CfgD := ⟨⟨[], []⟩, []⟩
/-- May it be a configuration of the network? -/
def confB (n : NetD) (c : CfgD) : Bool := rightSE n c.st && (decide (c.clocks.length = n.clocks.length) && ptRight c.clocks)
def keptB (n : NetD) (c : CfgD) : Bool := !anyL (notG c.clocks) (invL n c.st)
def firstC (n : NetD) : CfgD := ⟨⟨List.replicate n.autos.length 0, n.vars.map (·.init)⟩, List.replicate n.clocks.length ⟨0, 1⟩⟩
def firstS (n : NetD) : Int × CfgD := if netE n ≠ 0 then (netE n, noC) else if keptB n (firstC n) = true then (0, firstC n) else (212, noC)
def delayB (d : RatD) : Bool := rightQ d && decide (0 ≤ d.num)
/-- Clocks behind a delay. -/
def addF (d : RatD) : List RatD → List RatD → Int × List RatD
  | [], a => (0, a)
  | r :: l, a => if (addQ r d).2 ≠ 0 then ((addQ r d).2, []) else addF d l (a ++ [(addQ r d).1])
theorem addF_cons {d r : RatD} {l a : List RatD} : addF d (r :: l) a = if (addQ r d).2 ≠ 0 then ((addQ r d).2, []) else addF d l (a ++ [(addQ r d).1]) := rfl
def lapsB (n : NetD) (c : CfgD) (d : RatD) : Bool := delayB d && (decide (d.num = 0) || staysE n c.st)
def waitS (n : NetD) (c : CfgD) (d : RatD) : Int × CfgD :=
  if netE n ≠ 0 then (netE n, noC) else if confB n c = false then (130, noC) else if lapsB n c d = false then (210, noC) else if (addF d c.clocks []).1 ≠ 0 then ((addF d c.clocks []).1, noC) else
  if keptB n ⟨c.st, (addF d c.clocks []).2⟩ = true then (0, ⟨c.st, (addF d c.clocks []).2⟩) else (212, noC)
def guardsM (L : List (Int × EdgeD)) : List GuardD := L.flatMap fun p => p.2.guards
def clkP (x : SetD) : Bool := decide (x.clock ≠ 0)
def resetsM (L : List (Int × EdgeD)) : List SetD := L.flatMap fun p => p.2.sets.filter clkP
/-- Clocks that are set. -/
def setC : List SetD → List RatD → List RatD
  | [], v => v
  | x :: r, v => setC r (v.set (x.clock - 1).toNat ⟨x.n, 1⟩)
theorem setC_nil {v : List RatD} : setC [] v = v := rfl
theorem setC_cons {x : SetD} {r : List SetD} {v : List RatD} : setC (x :: r) v = setC r (v.set (x.clock - 1).toNat ⟨x.n, 1⟩) := rfl
noncomputable def movG (n : NetD) (m : MoveD) : List (Int × EdgeD) := (movL n m).getD []
noncomputable def doS (n : NetD) (c : CfgD) (m : MoveD) : Int × CfgD :=
  if netE n ≠ 0 then (netE n, noC) else if confB n c = false then (130, noC) else if (passR n c.st m).1 ≠ 0 then ((passR n c.st m).1, noC) else if anyL (notG c.clocks) (guardsM (movG n m)) = true then (211, noC) else
  if keptB n ⟨(passR n c.st m).2, setC (resetsM (movG n m)) c.clocks⟩ = true then (0, ⟨(passR n c.st m).2, setC (resetsM (movG n m)) c.clocks⟩) else (212, noC)
def metB (c : CfgD) (p : PartD) : Bool := partS c.st p && !anyL (notG c.clocks) p.guards
def idxA {α : Type} (p : α → Bool) : List α → Nat → Int
  | [], _ => -1
  | x :: r, i => if p x = true then (i : Int) else idxA p r (i + 1)
theorem idxA_nil {α : Type} {p : α → Bool} {i : Nat} : idxA p [] i = -1 := rfl
theorem idxA_cons {α : Type} {p : α → Bool} {x : α} {r : List α} {i : Nat} : idxA p (x :: r) i = if p x = true then (i : Int) else idxA p r (i + 1) := rfl
/-- What is wrong, and the part of the goal that is met. -/
def meetsS (n : NetD) (c : CfgD) (g : List PartD) : Int × Int :=
  if netE n ≠ 0 then (netE n, 0) else if confB n c = false then (130, 0) else if goalE n g ≠ 0 then (goalE n g, 0) else (0, idxA (metB c) g 0)
noncomputable def allF (n : NetD) (last : RatD) : List StepD → Nat → CfgD → List CfgD → Int × Nat × List CfgD
  | [], i, c, l => if (waitS n c last).1 ≠ 0 then ((waitS n c last).1, i, []) else (0, 0, l ++ [(waitS n c last).2])
  | s :: r, i, c, l => if (waitS n c s.delay).1 ≠ 0 then ((waitS n c s.delay).1, i, []) else if (doS n (waitS n c s.delay).2 s.move).1 ≠ 0 then ((doS n (waitS n c s.delay).2 s.move).1, i, []) else
      allF n last r (i + 1) (doS n (waitS n c s.delay).2 s.move).2 (l ++ [(waitS n c s.delay).2, (doS n (waitS n c s.delay).2 s.move).2])
/-- The error, where it is, the configurations. -/
noncomputable def allS (n : NetD) (r : RunD) : Int × Nat × List CfgD := if (firstS n).1 ≠ 0 then ((firstS n).1, 0, []) else allF n r.last r.steps 0 (firstS n).2 [(firstS n).2]
noncomputable def checkS (n : NetD) (r : RunD) (g : List PartD) : Int × Nat :=
  if goalE n g ≠ 0 then (goalE n g, 0) else if (allS n r).1 ≠ 0 then ((allS n r).1, (allS n r).2.1) else
  if (meetsS n ((allS n r).2.2.getLastD noC) g).1 ≠ 0 ∨ (meetsS n ((allS n r).2.2.getLastD noC) g).2 < 0 then (214, r.steps.length) else (0, r.steps.length)
theorem ptRight_iff {v : List RatD} : ptRight v = true ↔ v.length ≤ 8 ∧ ∀ r ∈ v, rightQ r = true ∧ 0 ≤ r.num := by
  unfold ptRight
  simp only [Bool.and_eq_true, decide_eq_true_eq, Bool.not_eq_true']
  constructor
  · rintro ⟨h1, h2⟩
    refine ⟨h1, fun r hr => ?_⟩
    have := anyL_no (p := ptBad) (l := v) (by rw [h2]; simp) r hr
    simp only [ptBad, Bool.or_eq_false_iff, Bool.not_eq_false', decide_eq_false_iff_not] at this
    exact ⟨this.1, by omega⟩
  · rintro ⟨h1, h2⟩
    refine ⟨h1, ?_⟩
    cases h : anyL ptBad v
    · rfl
    · obtain ⟨r, hr, hb⟩ := List.any_eq_true.1 h
      have := h2 r hr
      simp only [ptBad, this.1, Bool.not_true, Bool.false_or, decide_eq_true_eq] at hb
      omega
theorem addF_acc {d : RatD} : ∀ {l a : List RatD}, addF d l a = if (addF d l []).1 ≠ 0 then ((addF d l []).1, []) else (0, a ++ (addF d l []).2)
  | [], a => by simp [addF]
  | r :: l, a => by
    by_cases h : (addQ r d).2 = 0
    · have e1 : ∀ a, addF d (r :: l) a = addF d l (a ++ [(addQ r d).1]) := fun a => by rw [addF_cons, if_neg (by simp [h])]
      rw [e1 a, e1 [], addF_acc (l := l) (a := a ++ [(addQ r d).1]), addF_acc (l := l) (a := [] ++ [(addQ r d).1])]
      by_cases h2 : (addF d l []).1 = 0
      · simp [h2]
      · simp [h2]
    · have e1 : ∀ a, addF d (r :: l) a = ((addQ r d).2, []) := fun a => by rw [addF_cons, if_pos h]
      rw [e1 a, e1 []]
      simp [h]
/-- Clocks behind a delay, one by one. -/
theorem addF_iff {d : RatD} : ∀ {l : List RatD}, (addF d l []).1 = 0 ↔ ∀ r ∈ l, (addQ r d).2 = 0
  | [] => by simp [addF]
  | r :: l => by
    have ih := addF_iff (d := d) (l := l)
    by_cases h : (addQ r d).2 = 0
    · have e1 : addF d (r :: l) [] = addF d l ([] ++ [(addQ r d).1]) := by rw [addF_cons, if_neg (by simp [h])]
      rw [e1, addF_acc]
      by_cases h2 : (addF d l []).1 = 0
      · rw [if_neg (by simp [h2])]
        constructor
        · intro _ x hx
          rcases List.mem_cons.1 hx with rfl | hx
          · exact h
          · exact ih.1 h2 x hx
        · intro _; rfl
      · rw [if_pos h2]
        constructor
        · intro h3; exact absurd h3 h2
        · intro h3; exact ih.2 fun x hx => h3 x (List.mem_cons_of_mem _ hx)
    · rw [addF_cons, if_pos h]
      constructor
      · intro h3; exact absurd h3 h
      · intro h3; exact absurd (h3 r (List.mem_cons_self ..)) h
theorem addF_map {d : RatD} : ∀ {l : List RatD}, (addF d l []).1 = 0 → (addF d l []).2 = l.map fun r => (addQ r d).1
  | [], _ => rfl
  | r :: l, h => by
    have h0 := addF_iff.1 h
    have h1 : (addQ r d).2 = 0 := h0 r (List.mem_cons_self ..)
    have h2 : (addF d l []).1 = 0 := addF_iff.2 fun x hx => h0 x (List.mem_cons_of_mem _ hx)
    rw [addF_cons, if_neg (by simp [h1]), addF_acc, if_neg (by simp [h2]), addF_map h2]
    simp
theorem laps_delay {n : NetD} {c : CfgD} {d : RatD} (h : lapsB n c d = true) : rightQ d = true ∧ 0 ≤ d.num := by
  unfold lapsB delayB at h
  simp only [Bool.and_eq_true, decide_eq_true_eq] at h
  exact h.1
structure WaitOk (n : NetD) (c : CfgD) (d : RatD) : Prop where
  net : netE n = 0
  conf : confB n c = true
  laps : lapsB n c d = true
  add : (addF d c.clocks []).1 = 0
  kept : keptB n ⟨c.st, c.clocks.map fun r => (addQ r d).1⟩ = true
theorem wait_iff {n : NetD} {c : CfgD} {d : RatD} : (waitS n c d).1 = 0 ↔ WaitOk n c d := by
  unfold waitS
  constructor
  · intro h
    by_cases h0 : netE n = 0
    · rw [if_neg (by simp [h0])] at h
      cases h1 : confB n c
      · rw [h1, if_pos rfl] at h; cases h
      · rw [h1, if_neg (by simp)] at h
        cases h2 : lapsB n c d
        · rw [h2, if_pos rfl] at h; cases h
        · rw [h2, if_neg (by simp)] at h
          by_cases h3 : (addF d c.clocks []).1 = 0
          · rw [if_neg (by simp [h3])] at h
            cases h4 : keptB n ⟨c.st, (addF d c.clocks []).2⟩
            · rw [h4] at h; simp at h
            · exact ⟨h0, h1, h2, h3, by rw [← addF_map h3]; exact h4⟩
          · rw [if_pos (by simpa using h3)] at h; exact absurd h h3
    · rw [if_pos (by simpa using h0)] at h; exact absurd h h0
  · rintro ⟨h0, h1, h2, h3, h4⟩
    rw [if_neg (by simp [h0]), if_neg (by simp [h1]), if_neg (by simp [h2]), if_neg (by simp [h3]), addF_map h3, if_pos h4]
theorem wait_val {n : NetD} {c : CfgD} {d : RatD} (h : WaitOk n c d) : waitS n c d = (0, ⟨c.st, c.clocks.map fun r => (addQ r d).1⟩) := by
  obtain ⟨h0, h1, h2, h3, h4⟩ := h
  unfold waitS
  rw [if_neg (by simp [h0]), if_neg (by simp [h1]), if_neg (by simp [h2]), if_neg (by simp [h3]), addF_map h3, if_pos h4]
theorem conf_iff {n : NetD} {c : CfgD} : confB n c = true ↔ rightSE n c.st = true ∧ c.clocks.length = n.clocks.length ∧ ptRight c.clocks = true := by
  unfold confB
  simp [Bool.and_eq_true]
theorem net_sets {n : NetD} (h : netE n = 0) : ∀ x ∈ setsL n, x.clock ≠ 0 → 0 ≤ x.n ∧ x.n ≤ 1048576 := by
  have hw := netE_whole h
  unfold netE whereE at h
  rw [if_neg (by simp [hw])] at h
  have h2 : (searchE (fun l => greatE l.inv) edG n.autos 0).2 = 0 := by
    by_cases hd : (searchE (fun l => diagE l.inv) (fun x => diagE x.guards) n.autos 0).2 = 0
    · rw [if_neg (by simp [hd])] at h; exact h
    · rw [if_pos hd] at h; exact absurd h hd
  intro x hx hc
  obtain ⟨a, ha, hxa⟩ := List.mem_flatMap.1 hx
  obtain ⟨e, he, hxe⟩ := List.mem_flatMap.1 hxa
  obtain ⟨k1, k2⟩ := searchE_zero h2 a ha
  have h3 := k2 e he
  unfold edG at h3
  by_cases hz : greatE e.guards = 0
  · rw [if_neg (by simp [hz])] at h3
    unfold greatSE at h3
    cases hg : greatS x
    · simp only [greatS, ne_eq, hc, not_false_eq_true, true_and, decide_eq_false_iff_not] at hg
      omega
    · rw [if_pos (List.any_eq_true.2 ⟨x, hxe, hg⟩)] at h3; cases h3
  · rw [if_pos hz] at h3; exact absurd h3 hz
theorem diagE_zero {l : List GuardD} (h : diagE l = 0) : ∀ g ∈ l, g.other = 0 := by
  unfold diagE at h
  intro g hg
  cases hc : diagG g
  · unfold diagG at hc
    simpa using hc
  · rw [if_pos (List.any_eq_true.2 ⟨g, hg, hc⟩)] at h; cases h
theorem net_diag {n : NetD} (h : netE n = 0) : ∀ g ∈ guardsL n, g.other = 0 := by
  have hw := netE_whole h
  unfold netE whereE at h
  rw [if_neg (by simp [hw])] at h
  have h2 : (searchE (fun l => diagE l.inv) (fun x => diagE x.guards) n.autos 0).2 = 0 := by
    by_cases hd : (searchE (fun l => diagE l.inv) (fun x => diagE x.guards) n.autos 0).2 = 0
    · exact hd
    · rw [if_pos hd] at h; exact absurd h hd
  intro g hg
  obtain ⟨a, ha, hga⟩ := List.mem_flatMap.1 hg
  obtain ⟨k1, k2⟩ := searchE_zero h2 a ha
  unfold guardsA at hga
  rcases List.mem_append.1 hga with hx | hx
  · obtain ⟨l, hl, hg⟩ := List.mem_flatMap.1 hx
    exact diagE_zero (k1 l hl) g hg
  · obtain ⟨e, he, hg⟩ := List.mem_flatMap.1 hx
    exact diagE_zero (k2 e he) g hg
theorem goal_diag {n : NetD} {g : List PartD} (h : goalE n g = 0) : ∀ p ∈ g, ∀ x ∈ p.guards, x.other = 0 := by
  unfold goalE at h
  have h1 := (fZ (fZ (fZ h).2).2).1
  exact fun p hp => diagE_zero (goF_zero h1 p hp)
/-- What is said of a guard of a network that is right. -/
structure GuardR (N : Nat) (g : GuardD) : Prop where
  c1 : 1 ≤ g.clock
  c2 : g.clock ≤ N
  o : g.other = 0
  k1 : 1 ≤ g.cmp
  k2 : g.cmp ≤ 5
  n1 : 0 ≤ g.n
  n2 : g.n ≤ 1048576
theorem net_guardR {n : NetD} (h : netE n = 0) : ∀ g ∈ guardsL n, GuardR n.clocks.length g := fun g hg =>
  ⟨(whole_guards (netE_whole h) g hg).1, (whole_guards (netE_whole h) g hg).2, net_diag h g hg, (whole_cmps (netE_whole h) g hg).1, (whole_cmps (netE_whole h) g hg).2, (net_great h g hg).1, (net_great h g hg).2⟩
theorem goal_guardR {n : NetD} {g : List PartD} (h : goalE n g = 0) : ∀ p ∈ g, ∀ x ∈ p.guards, GuardR n.clocks.length x := fun p hp x hx =>
  ⟨(goal_guards h p hp x hx).1, (goal_guards h p hp x hx).2, goal_diag h p hp x hx, (goal_cmps h p hp x hx).1, (goal_cmps h p hp x hx).2, (goal_great h p hp x hx).1, (goal_great h p hp x hx).2⟩
theorem invL_sub {n : NetD} {s : StateD} (h : rightSE n s = true) : ∀ g ∈ invL n s, g ∈ guardsL n := fun g hg => by
  obtain ⟨⟨a, k⟩, hp, hg⟩ := List.mem_flatMap.1 hg
  obtain ⟨i, hi⟩ := List.getElem?_of_mem hp
  obtain ⟨_, _, r3⟩ := right_at h
  rw [List.getElem?_zip_eq_some] at hi
  obtain ⟨k0, k1⟩ := r3 i a k hi.1 hi.2
  obtain ⟨q, rfl⟩ := Int.eq_ofNat_of_zero_le k0
  have hq : q < a.locs.length := by omega
  have e : invF (a, (q : Int)) = a.locs[q].inv := by simp [invF, List.getD, List.getElem?_eq_getElem hq]
  rw [e] at hg
  exact List.mem_flatMap.2 ⟨a, List.mem_of_getElem? hi.1, List.mem_append.2 (.inl (List.mem_flatMap.2 ⟨_, List.getElem_mem hq, hg⟩))⟩
theorem guardsM_sub {n : NetD} {m : MoveD} : ∀ g ∈ guardsM (movG n m), g ∈ guardsL n := fun g hg => by
  unfold movG at hg
  cases hm : movL n m with
  | none => rw [hm] at hg; simp [guardsM] at hg
  | some L =>
    rw [hm] at hg
    obtain ⟨p, hp, hg⟩ := List.mem_flatMap.1 hg
    obtain ⟨i, A, _, e2, e3⟩ := (movL_at hm).2 p hp
    exact List.mem_flatMap.2 ⟨A, List.mem_of_getElem? e2, List.mem_append.2 (.inr (List.mem_flatMap.2 ⟨p.2, e3, hg⟩))⟩
theorem resetsM_sub {n : NetD} {m : MoveD} : ∀ x ∈ resetsM (movG n m), x ∈ setsL n ∧ x.clock ≠ 0 := fun g hg => by
  unfold movG at hg
  cases hm : movL n m with
  | none => rw [hm] at hg; simp [resetsM] at hg
  | some L =>
    rw [hm] at hg
    obtain ⟨p, hp, hg⟩ := List.mem_flatMap.1 hg
    obtain ⟨i, A, _, e2, e3⟩ := (movL_at hm).2 p hp
    obtain ⟨h1, h2⟩ := List.mem_filter.1 hg
    exact ⟨sets_mem (List.mem_of_getElem? e2) e3 h1, by simpa [clkP] using h2⟩
theorem whole_sets {n : NetD} (h : wholeE n = 0) : ∀ x ∈ setsL n, x.clock ≠ 0 → 1 ≤ x.clock ∧ x.clock ≤ n.clocks.length := fun x hx hc => by
  obtain ⟨a, ha, hxa⟩ := List.mem_flatMap.1 hx
  obtain ⟨e, he, hxe⟩ := List.mem_flatMap.1 hxa
  exact (whole_edge h ha he).clks x hxe hc
/-- What is said of a set of a clock of a network that is right. -/
structure SetR (N : Nat) (x : SetD) : Prop where
  c1 : 1 ≤ x.clock
  c2 : x.clock ≤ N
  n1 : 0 ≤ x.n
  n2 : x.n ≤ 1048576
theorem resets_R {n : NetD} (h : netE n = 0) {m : MoveD} : ∀ x ∈ resetsM (movG n m), SetR n.clocks.length x := fun x hx => by
  obtain ⟨h1, h2⟩ := resetsM_sub x hx
  have h3 := whole_sets (netE_whole h) x h1 h2
  have h4 := net_sets h x h1 h2
  exact ⟨h3.1, h3.2, h4.1, h4.2⟩
theorem setC_len : ∀ {l : List SetD} {v : List RatD}, (setC l v).length = v.length
  | [], v => rfl
  | x :: r, v => by rw [setC_cons, setC_len]; simp
theorem setC_right {N : Nat} : ∀ {l : List SetD} {v : List RatD}, (∀ x ∈ l, SetR N x) → ptRight v = true → ptRight (setC l v) = true
  | [], v, _, h => h
  | x :: r, v, hl, h => by
    rw [setC_cons]
    refine setC_right (fun y hy => hl y (List.mem_cons_of_mem _ hy)) ?_
    obtain ⟨h1, h2⟩ := ptRight_iff.1 h
    refine ptRight_iff.2 ⟨by simpa using h1, fun y hy => ?_⟩
    rcases List.mem_or_eq_of_mem_set hy with hy | rfl
    · exact h2 y hy
    · exact ⟨by simp [rightQ], (hl x (List.mem_cons_self ..)).n1⟩
structure DoOk (n : NetD) (c : CfgD) (m : MoveD) : Prop where
  net : netE n = 0
  conf : confB n c = true
  pass : (passR n c.st m).1 = 0
  grd : anyL (notG c.clocks) (guardsM (movG n m)) = false
  kept : keptB n ⟨(passR n c.st m).2, setC (resetsM (movG n m)) c.clocks⟩ = true
theorem do_iff {n : NetD} {c : CfgD} {m : MoveD} : (doS n c m).1 = 0 ↔ DoOk n c m := by
  unfold doS
  constructor
  · intro h
    by_cases h0 : netE n = 0
    · rw [if_neg (by simp [h0])] at h
      cases h1 : confB n c
      · rw [h1, if_pos rfl] at h; cases h
      · rw [h1, if_neg (by simp)] at h
        by_cases h2 : (passR n c.st m).1 = 0
        · rw [if_neg (by simp [h2])] at h
          cases h3 : anyL (notG c.clocks) (guardsM (movG n m))
          · rw [h3, if_neg (by simp)] at h
            cases h4 : keptB n ⟨(passR n c.st m).2, setC (resetsM (movG n m)) c.clocks⟩
            · rw [h4] at h; simp at h
            · exact ⟨h0, h1, h2, h3, h4⟩
          · rw [h3, if_pos rfl] at h; cases h
        · rw [if_pos (by simpa using h2)] at h; exact absurd h h2
    · rw [if_pos (by simpa using h0)] at h; exact absurd h h0
  · rintro ⟨h0, h1, h2, h3, h4⟩
    rw [if_neg (by simp [h0]), if_neg (by simp [h1]), if_neg (by simp [h2]), if_neg (by simp [h3]), if_pos h4]
theorem do_val {n : NetD} {c : CfgD} {m : MoveD} (h : DoOk n c m) : doS n c m = (0, ⟨(passR n c.st m).2, setC (resetsM (movG n m)) c.clocks⟩) := by
  obtain ⟨h0, h1, h2, h3, h4⟩ := h
  unfold doS
  rw [if_neg (by simp [h0]), if_neg (by simp [h1]), if_neg (by simp [h2]), if_neg (by simp [h3]), if_pos h4]
theorem do_conf {n : NetD} {c : CfgD} {m : MoveD} (h : DoOk n c m) : confB n ⟨(passR n c.st m).2, setC (resetsM (movG n m)) c.clocks⟩ = true := by
  obtain ⟨c1, c2, c3⟩ := conf_iff.1 h.conf
  exact conf_iff.2 ⟨pass_right c1 h.pass, by simpa [setC_len] using c2, setC_right (resets_R h.net) c3⟩
def rightB (b : Int) : Bool := decide (b = 2147483647) || (decide (-536870912 ≤ b) && decide (b ≤ 536870913))
theorem c_right (b : Int) : PC 162 [.int .i32 b] (.bool (rightB b)) := by
  refine pB Tryz.func162 rfl (by decide) Tryz.ntmps162 (by simp) Tryz.results162 ?_
  repeat' (first
 |refine aK fun K hK=>?_|refine Step.by1 ?_|refine sE (by decide) ?_|refine cz rfl ?_|refine Fork.by2 (fun h=>?_) fun h=>?_
 |(refine aR ?_;simp)
 |(refine Split.by2 (fun h=>?_) (fun h=>?_)<;>(simp [h]))
 |(apply hK;clear hK K)|refine AWh ‹_› ?_)
  all_goals (refine r1q (cE ?_ ?_) <;> simp_all [rightB] <;> omega)
/-- A bound's number, is it reached, is there one. -/
def someB (b : Int) : Bool := !(decide (b = 2147483647)) && rightB b
def valueV (b : Int) : V := if someB b = true then .tup [.int .i64 (b / 2), .bool (decide (b % 2 = 1)), .bool true] else .tup [.int .i64 0, .bool false, .bool false]
theorem and_one (b : Int) : bits .and .i32 b 1 = b % 2 := by
  have h : (BitVec.ofInt 32 b &&& BitVec.ofInt 32 1).toNat = (b % 2).toNat := by
    have h1 : BitVec.ofInt 32 1 = 1#32 := by decide
    rw [h1, BitVec.toNat_and]
    have h2 : (1#32).toNat = 1 := by decide
    rw [h2, Nat.and_one_is_mod, BitVec.toNat_ofInt]
    omega
  show IntKind.i32.wrap ((BitVec.ofInt 32 b &&& BitVec.ofInt 32 1).toNat : Int) = b % 2
  rw [h]
  unfold IntKind.wrap
  simp [IntKind.bits, IntKind.signed]
  omega
theorem wrap_i32 {n : Int} (h1 : -2147483648 ≤ n) (h2 : n ≤ 2147483647) : IntKind.i32.wrap n = n := by
  unfold IntKind.wrap; simp [IntKind.bits, IntKind.signed]; omega
theorem fdiv_two (n : Int) : n.fdiv 2 = n / 2 := by rw [Int.fdiv_eq_ediv_of_nonneg _ (by decide)]
theorem c_value (b : Int) : PC 163 [.int .i32 b] (valueV b) := by
  refine pB Tryz.func163 rfl (by decide) Tryz.ntmps163 (by simp) Tryz.results163 ?_
  repeat' (first
 |refine aK fun K hK=>?_|refine Step.by1 ?_|refine sE (by decide) ?_|refine cz rfl ?_|refine Fork.by2 (fun h=>?_) fun h=>?_
 |((first|refine aR ?_|refine aC (f:=162) rfl rfl (c_right _) rfl rfl rfl ?_);simp)
 |(refine Split.by2 (fun h=>?_) (fun h=>?_)<;>(simp [h]))
 |(apply hK;clear hK K)|refine AWh ‹_› ?_)
  · refine retq3 (cE ?_ ?_) <;> simp_all [valueV, someB]
  · refine retq3 (cE ?_ ?_)
    · simp_all [valueV, someB, and_one, IntKind.bits, fdiv_two]
      simp [rightB] at *
      exact wI (by omega) (by omega)
    · simp
  all_goals (refine retq3 (cE ?_ ?_) <;> simp_all [valueV, someB])
theorem wrap_i64' (n : Int) : IntKind.i64.wrap n = (n + 9223372036854775808) % 18446744073709551616 - 9223372036854775808 := by
  unfold IntKind.wrap; simp [IntKind.bits, IntKind.signed]
  split <;> omega
theorem sq_lo {a b n : Int} (h1 : -n ≤ a) (h2 : a ≤ n) (h3 : -n ≤ b) (h4 : b ≤ n) (h0 : 0 ≤ n) : -(n * n) ≤ a * b ∧ a * b ≤ n * n := by
  have key : (a * b).natAbs ≤ (n * n).natAbs := by
    rw [Int.natAbs_mul, Int.natAbs_mul]
    exact Nat.mul_le_mul (by omega) (by omega)
  have := Int.mul_nonneg h0 h0
  omega
theorem prod_mod (a b : Int) : (a % 18446744073709551616) * (b % 18446744073709551616) % 18446744073709551616 = a * b % 18446744073709551616 := (Int.mul_emod a b _).symm
@[simp] def prodV (a b : Int) : V := .tup [.int .i64 (a * b / 18446744073709551616), .int .u64 (a * b % 18446744073709551616)]
theorem c_product (a b : Int) (ha : I64 a) (hb : I64 b) : PC 246 [.int .i64 a, .int .i64 b] (prodV a b) := by
  unfold I64 at ha hb
  refine pB Tryz.func246 rfl (by decide) Tryz.ntmps246 (by simp) Tryz.results246 ?_
  repeat' (first
 |refine aK fun K hK=>?_|refine Step.by1 ?_|refine sE (by decide) ?_|refine cz rfl ?_|refine Fork.by2 (fun h=>?_) fun h=>?_
 |(refine aR ?_;simp)
 |(refine Split.by2 (fun h=>?_) (fun h=>?_)<;>(simp [h]))
 |(refine aC (f := 159) rfl rfl (c_mul64 _ _ ?_ ?_ ?_ ?_) rfl rfl rfl ?_ <;> simp [wrap_u64] <;> (try omega))
 |(apply hK;clear hK K)|refine AWh ‹_› ?_)
  all_goals (refine retq2 (cE ?_ rfl); simp [prodV, wrap_u64, wrap_i64', prod_mod])
  all_goals (have hr := sq_lo (n := 9223372036854775808) (by omega) (by omega) (by omega) (by omega) (by omega) (a := a) (b := b))
  all_goals simp at hr
  · have e1 : a % 18446744073709551616 = a + 18446744073709551616 := by omega
    have e2 : b % 18446744073709551616 = b + 18446744073709551616 := by omega
    rw [e1, e2, Int.add_mul, Int.mul_add]
    omega
  · have e1 : a % 18446744073709551616 = a + 18446744073709551616 := by omega
    have e2 : b % 18446744073709551616 = b := by omega
    rw [e1, e2, Int.add_mul]
    omega
  · have e1 : a % 18446744073709551616 = a := by omega
    have e2 : b % 18446744073709551616 = b + 18446744073709551616 := by omega
    rw [e1, e2, Int.mul_add]
    omega
  · have e1 : a % 18446744073709551616 = a := by omega
    have e2 : b % 18446744073709551616 = b := by omega
    rw [e1, e2]
    omega
def holdsB (b num den : Int) : Bool := decide (1 ≤ den) && (decide (b = 2147483647) || (someB b && decide (if b % 2 = 1 then num ≤ b / 2 * den else num < b / 2 * den)))
theorem c_holds (b num den : Int) (hn : I64 num) (hd : I64 den) : PC 196 [.int .i32 b, .int .i64 num, .int .i64 den] (.bool (holdsB b num den)) := by
  unfold I64 at hn hd
  refine pB Tryz.func196 rfl (by decide) Tryz.ntmps196 (by simp) Tryz.results196 ?_
  by_cases hs : someB b = true
  · have hv : PC 163 [.int .i32 b] (.tup [.int .i64 (b / 2), .bool (decide (b % 2 = 1)), .bool true]) := by have := c_value b; simpa [valueV, hs] using this
    have hb2 : I64 (b / 2) := by simp [someB, rightB] at hs; unfold I64; omega
    have hb3 : b ≠ 2147483647 := by simp [someB, rightB] at hs; omega
    repeat' (first
 |refine aK fun K hK=>?_|refine Step.by1 ?_|refine sE (by decide) ?_|refine cz rfl ?_|refine Fork.by2 (fun h=>?_) fun h=>?_
 |((first|refine aR ?_|refine aC (f:=163) rfl rfl (hv) rfl rfl rfl ?_);simp)
 |(refine Split.by2 (fun h=>?_) (fun h=>?_)<;>(simp [h]))
 |(refine aC (f := 246) rfl rfl (c_product _ _ hb2 hd) rfl rfl rfl ?_; simp)
 |(apply hK;clear hK K)|refine AWh ‹_› ?_)
    all_goals (have hr := sq_lo (n := 9223372036854775808) (by unfold I64 at hb2; omega) (by unfold I64 at hb2; omega) (by omega) (by omega) (by omega) (a := b / 2) (b := den))
    all_goals (refine r1q (cE ?_ rfl); simp [holdsB, hs, hb3]; simp [wrap_u64] at *)
    all_goals (generalize b / 2 * den = q at *)
    all_goals (by_cases ho : b % 2 = 1 <;> simp [ho])
    all_goals (first | omega | (rw [Bool.eq_iff_iff]; simp; omega))
  · have hv : PC 163 [.int .i32 b] (.tup [.int .i64 0, .bool false, .bool false]) := by have := c_value b; simpa [valueV, hs] using this
    repeat' (first
 |refine aK fun K hK=>?_|refine Step.by1 ?_|refine sE (by decide) ?_|refine cz rfl ?_|refine Fork.by2 (fun h=>?_) fun h=>?_
 |((first|refine aR ?_|refine aC (f:=163) rfl rfl (hv) rfl rfl rfl ?_);simp)
 |(refine Split.by2 (fun h=>?_) (fun h=>?_)<;>(simp [h]))
 |(apply hK;clear hK K)|refine AWh ‹_› ?_)
    all_goals (refine r1q (cE ?_ rfl); simp [holdsB, hs]; omega)
def atQ (v : List RatD) (i : Int) : RatD := if i = 0 then ⟨0, 1⟩ else v.getD (i - 1).toNat default
theorem c_at (v : List RatD) (hv : v.length ≤ 1048576) (i : Int) (h0 : 0 ≤ i) (h1 : i ≤ v.length) : PC 136 [vl RatD.cells v, .int .i64 i] (.agg (atQ v i).cells) := by
  have h2 := c_Of 0
  unfold atQ
  by_cases hz : i = 0
  · subst hz
    rw [if_pos rfl]
    simp only [vl, RatD.cells] at h2 ⊢
    refine pB Tryz.func136 rfl (by decide) Tryz.ntmps136 (by simp) Tryz.results136 ?_
    repeat' (first
 |refine aK fun K hK=>?_|refine Step.by1 ?_|refine sE (by decide) ?_|refine cz rfl ?_|refine Fork.by2 (fun h=>?_) fun h=>?_
 |((first|refine aR ?_|refine aC (f:=69) rfl rfl (h2) rfl rfl rfl ?_);simp)
 |(refine Split.by2 (fun h=>?_) (fun h=>?_)<;>(simp [h]))
 |(apply hK;clear hK K)|refine AWh ‹_› ?_)
    exact retqc rfl (by simp) (cE (by simp) (by simp))
  · rw [if_neg hz]
    obtain ⟨j, hj⟩ : ∃ j : Nat, i - 1 = j := ⟨(i - 1).toNat, by omega⟩
    have hjl : j < v.length := by omega
    have hjl' : (j : Int) < v.length := by omega
    obtain ⟨x, hx⟩ : ∃ x, v[j] = x := ⟨_, rfl⟩
    have w1 : IntKind.i64.wrap (i - 1) = j := by rw [hj]; exact wI (by omega) (by omega)
    rw [hj, Int.toNat_natCast, show v.getD j default = x by simp [List.getD, List.getElem?_eq_getElem hjl, hx]]
    simp only [vl, RatD.cells]
    refine pB Tryz.func136 rfl (by decide) Tryz.ntmps136 (by simp) Tryz.results136 ?_
    repeat' (first
 |refine aK fun K hK=>?_|refine Step.by1 ?_|refine sE (by decide) ?_|refine cz rfl ?_|refine Fork.by2 (fun h=>?_) fun h=>?_
 |(refine aR ?_;simp [hz, w1, hjl, hjl', hx, RatD.cells])
 |(refine Split.by2 (fun h=>?_) (fun h=>?_)<;>(simp [h, hz, w1, hjl, hjl', hx, RatD.cells]))
 |(apply hK;clear hK K)|refine AWh ‹_› ?_)
    exact retqc rfl (by simp) (cE (by simp) (by simp))
def limV (x : Int × Int × Int) : List V := [.int .i64 x.1, .int .i64 x.2.1, .int .i32 x.2.2]
def limG (g : GuardD) : List (Int × Int × Int) :=
  if g.cmp = 1 then [(g.clock, 0, 2 * g.n)] else if g.cmp = 2 then [(g.clock, 0, 2 * g.n + 1)] else if g.cmp = 4 then [(0, g.clock, -2 * g.n + 1)] else if g.cmp = 5 then [(0, g.clock, -2 * g.n)] else [(g.clock, 0, 2 * g.n + 1), (0, g.clock, -2 * g.n + 1)]
set_option maxHeartbeats 8000000 in
theorem c_Limits (N : Nat) (hN : N ≤ 8) (g : GuardD) (hg : GuardR N g) : PC 134 [.agg g.cells] (.tup [.vec ((limG g).map limV) (limG g).length, .int .i64 0]) := by
  obtain ⟨c1, c2, o, k1, k2, n1, n2⟩ := hg
  obtain ⟨gc, go, gp, gn⟩ := g
  simp only at c1 c2 o k1 k2 n1 n2
  subst o
  have a1 : ¬ gc < 0 := by omega
  have a2 : ¬ 8 < gc := by omega
  have a3 : ¬ gp < 1 := by omega
  have a4 : ¬ 5 < gp := by omega
  have a5 : ¬ gn < -1048576 := by omega
  have a6 : ¬ 1048576 < gn := by omega
  have w1 : IntKind.i64.wrap (2 * gn) = 2 * gn := wI (by omega) (by omega)
  have w2 : IntKind.i64.wrap (2 * gn + 1) = 2 * gn + 1 := wI (by omega) (by omega)
  have w3 : IntKind.i32.wrap (2 * gn + 1) = 2 * gn + 1 := wrap_i32 (by omega) (by omega)
  have w4 : IntKind.i64.wrap (-2 * gn) = -2 * gn := wI (by omega) (by omega)
  have w4' : IntKind.i64.wrap (-(2 * gn)) = -(2 * gn) := wI (by omega) (by omega)
  have w5 : IntKind.i64.wrap (-2 * gn + 1) = -2 * gn + 1 := wI (by omega) (by omega)
  have w5' : IntKind.i64.wrap (-(2 * gn) + 1) = -(2 * gn) + 1 := wI (by omega) (by omega)
  have w6 : IntKind.i32.wrap (-2 * gn + 1) = -2 * gn + 1 := wrap_i32 (by omega) (by omega)
  have w6' : IntKind.i32.wrap (-(2 * gn) + 1) = -(2 * gn) + 1 := wrap_i32 (by omega) (by omega)
  have w7 : IntKind.i32.wrap (2 * gn + 1 - 1) = 2 * gn := by rw [show 2 * gn + 1 - 1 = 2 * gn by omega]; exact wrap_i32 (by omega) (by omega)
  have w8 : IntKind.i32.wrap (-2 * gn + 1 - 1) = -2 * gn := by rw [show -2 * gn + 1 - 1 = -2 * gn by omega]; exact wrap_i32 (by omega) (by omega)
  have w8' : IntKind.i32.wrap (-(2 * gn) + 1 - 1) = -(2 * gn) := by rw [show -(2 * gn) + 1 - 1 = -(2 * gn) by omega]; exact wrap_i32 (by omega) (by omega)
  have w9 : IntKind.i32.wrap (2 * gn) = 2 * gn := wrap_i32 (by omega) (by omega)
  have w10 : IntKind.i32.wrap (-(2 * gn)) = -(2 * gn) := wrap_i32 (by omega) (by omega)
  have w11 : IntKind.i32.wrap (-2 * gn) = -2 * gn := wrap_i32 (by omega) (by omega)
  simp only [GuardD.cells, limG]
  by_cases p1 : gp = 1
  · subst p1
    refine pB Tryz.func134 rfl (by decide) Tryz.ntmps134 (by simp) Tryz.results134 ?_
    repeat' (first
 |(refine AW_region_AOL (id := 12) ?_;simp [a1, a2, a3, a4, a5, a6, w1, w2, w3, w4, w4', w5, w5', w6, w6', w7, w8, w8', w9, w10, w11])
 |(refine AW_region_AOL (id := 14) ?_;simp [a1, a2, a3, a4, a5, a6, w1, w2, w3, w4, w4', w5, w5', w6, w6', w7, w8, w8', w9, w10, w11])
 |(refine AW_region_AOL (id := 16) ?_;simp [a1, a2, a3, a4, a5, a6, w1, w2, w3, w4, w4', w5, w5', w6, w6', w7, w8, w8', w9, w10, w11])
 |(refine AW_region_AOL (id := 19) ?_;simp [a1, a2, a3, a4, a5, a6, w1, w2, w3, w4, w4', w5, w5', w6, w6', w7, w8, w8', w9, w10, w11])
 |(refine AW_region_AOL (id := 20) ?_;simp [a1, a2, a3, a4, a5, a6, w1, w2, w3, w4, w4', w5, w5', w6, w6', w7, w8, w8', w9, w10, w11])
 |refine aK fun K hK=>?_|refine Step.by1 ?_|refine sE (by decide) ?_|refine cz rfl ?_|refine Fork.by2 (fun h=>?_) fun h=>?_
 |(refine aR ?_;simp [a1, a2, a3, a4, a5, a6, w1, w2, w3, w4, w4', w5, w5', w6, w6', w7, w8, w8', w9, w10, w11])
 |(refine Split.by2 (fun h=>?_) (fun h=>?_)<;>(simp [h, a1, a2, a3, a4, a5, a6, w1, w2, w3, w4, w4', w5, w5', w6, w6', w7, w8, w8', w9, w10, w11]))
 |(apply hK;clear hK K)|refine AWh ‹_› ?_)
    all_goals exact retq2 (cE (by simp [limV]) (by simp))
  by_cases p2 : gp = 2
  · subst p2
    refine pB Tryz.func134 rfl (by decide) Tryz.ntmps134 (by simp) Tryz.results134 ?_
    repeat' (first
 |(refine AW_region_AOL (id := 12) ?_;simp [a1, a2, a3, a4, a5, a6, w1, w2, w3, w4, w4', w5, w5', w6, w6', w7, w8, w8', w9, w10, w11])
 |(refine AW_region_AOL (id := 14) ?_;simp [a1, a2, a3, a4, a5, a6, w1, w2, w3, w4, w4', w5, w5', w6, w6', w7, w8, w8', w9, w10, w11])
 |(refine AW_region_AOL (id := 16) ?_;simp [a1, a2, a3, a4, a5, a6, w1, w2, w3, w4, w4', w5, w5', w6, w6', w7, w8, w8', w9, w10, w11])
 |(refine AW_region_AOL (id := 19) ?_;simp [a1, a2, a3, a4, a5, a6, w1, w2, w3, w4, w4', w5, w5', w6, w6', w7, w8, w8', w9, w10, w11])
 |(refine AW_region_AOL (id := 20) ?_;simp [a1, a2, a3, a4, a5, a6, w1, w2, w3, w4, w4', w5, w5', w6, w6', w7, w8, w8', w9, w10, w11])
 |refine aK fun K hK=>?_|refine Step.by1 ?_|refine sE (by decide) ?_|refine cz rfl ?_|refine Fork.by2 (fun h=>?_) fun h=>?_
 |(refine aR ?_;simp [a1, a2, a3, a4, a5, a6, w1, w2, w3, w4, w4', w5, w5', w6, w6', w7, w8, w8', w9, w10, w11])
 |(refine Split.by2 (fun h=>?_) (fun h=>?_)<;>(simp [h, a1, a2, a3, a4, a5, a6, w1, w2, w3, w4, w4', w5, w5', w6, w6', w7, w8, w8', w9, w10, w11]))
 |(apply hK;clear hK K)|refine AWh ‹_› ?_)
    all_goals exact retq2 (cE (by simp [limV]) (by simp))
  by_cases p4 : gp = 4
  · subst p4
    refine pB Tryz.func134 rfl (by decide) Tryz.ntmps134 (by simp) Tryz.results134 ?_
    repeat' (first
 |(refine AW_region_AOL (id := 12) ?_;simp [a1, a2, a3, a4, a5, a6, w1, w2, w3, w4, w4', w5, w5', w6, w6', w7, w8, w8', w9, w10, w11])
 |(refine AW_region_AOL (id := 14) ?_;simp [a1, a2, a3, a4, a5, a6, w1, w2, w3, w4, w4', w5, w5', w6, w6', w7, w8, w8', w9, w10, w11])
 |(refine AW_region_AOL (id := 16) ?_;simp [a1, a2, a3, a4, a5, a6, w1, w2, w3, w4, w4', w5, w5', w6, w6', w7, w8, w8', w9, w10, w11])
 |(refine AW_region_AOL (id := 19) ?_;simp [a1, a2, a3, a4, a5, a6, w1, w2, w3, w4, w4', w5, w5', w6, w6', w7, w8, w8', w9, w10, w11])
 |(refine AW_region_AOL (id := 20) ?_;simp [a1, a2, a3, a4, a5, a6, w1, w2, w3, w4, w4', w5, w5', w6, w6', w7, w8, w8', w9, w10, w11])
 |refine aK fun K hK=>?_|refine Step.by1 ?_|refine sE (by decide) ?_|refine cz rfl ?_|refine Fork.by2 (fun h=>?_) fun h=>?_
 |(refine aR ?_;simp [a1, a2, a3, a4, a5, a6, w1, w2, w3, w4, w4', w5, w5', w6, w6', w7, w8, w8', w9, w10, w11])
 |(refine Split.by2 (fun h=>?_) (fun h=>?_)<;>(simp [h, a1, a2, a3, a4, a5, a6, w1, w2, w3, w4, w4', w5, w5', w6, w6', w7, w8, w8', w9, w10, w11]))
 |(apply hK;clear hK K)|refine AWh ‹_› ?_)
    all_goals exact retq2 (cE (by simp [limV]) (by simp))
  by_cases p5 : gp = 5
  · subst p5
    refine pB Tryz.func134 rfl (by decide) Tryz.ntmps134 (by simp) Tryz.results134 ?_
    repeat' (first
 |(refine AW_region_AOL (id := 12) ?_;simp [a1, a2, a3, a4, a5, a6, w1, w2, w3, w4, w4', w5, w5', w6, w6', w7, w8, w8', w9, w10, w11])
 |(refine AW_region_AOL (id := 14) ?_;simp [a1, a2, a3, a4, a5, a6, w1, w2, w3, w4, w4', w5, w5', w6, w6', w7, w8, w8', w9, w10, w11])
 |(refine AW_region_AOL (id := 16) ?_;simp [a1, a2, a3, a4, a5, a6, w1, w2, w3, w4, w4', w5, w5', w6, w6', w7, w8, w8', w9, w10, w11])
 |(refine AW_region_AOL (id := 19) ?_;simp [a1, a2, a3, a4, a5, a6, w1, w2, w3, w4, w4', w5, w5', w6, w6', w7, w8, w8', w9, w10, w11])
 |(refine AW_region_AOL (id := 20) ?_;simp [a1, a2, a3, a4, a5, a6, w1, w2, w3, w4, w4', w5, w5', w6, w6', w7, w8, w8', w9, w10, w11])
 |refine aK fun K hK=>?_|refine Step.by1 ?_|refine sE (by decide) ?_|refine cz rfl ?_|refine Fork.by2 (fun h=>?_) fun h=>?_
 |(refine aR ?_;simp [a1, a2, a3, a4, a5, a6, w1, w2, w3, w4, w4', w5, w5', w6, w6', w7, w8, w8', w9, w10, w11])
 |(refine Split.by2 (fun h=>?_) (fun h=>?_)<;>(simp [h, a1, a2, a3, a4, a5, a6, w1, w2, w3, w4, w4', w5, w5', w6, w6', w7, w8, w8', w9, w10, w11]))
 |(apply hK;clear hK K)|refine AWh ‹_› ?_)
    all_goals exact retq2 (cE (by simp [limV]) (by simp))
  · obtain rfl : gp = 3 := by omega
    refine pB Tryz.func134 rfl (by decide) Tryz.ntmps134 (by simp) Tryz.results134 ?_
    repeat' (first
 |(refine AW_region_AOL (id := 12) ?_;simp [a1, a2, a3, a4, a5, a6, w1, w2, w3, w4, w4', w5, w5', w6, w6', w7, w8, w8', w9, w10, w11])
 |(refine AW_region_AOL (id := 14) ?_;simp [a1, a2, a3, a4, a5, a6, w1, w2, w3, w4, w4', w5, w5', w6, w6', w7, w8, w8', w9, w10, w11])
 |(refine AW_region_AOL (id := 16) ?_;simp [a1, a2, a3, a4, a5, a6, w1, w2, w3, w4, w4', w5, w5', w6, w6', w7, w8, w8', w9, w10, w11])
 |(refine AW_region_AOL (id := 19) ?_;simp [a1, a2, a3, a4, a5, a6, w1, w2, w3, w4, w4', w5, w5', w6, w6', w7, w8, w8', w9, w10, w11])
 |(refine AW_region_AOL (id := 20) ?_;simp [a1, a2, a3, a4, a5, a6, w1, w2, w3, w4, w4', w5, w5', w6, w6', w7, w8, w8', w9, w10, w11])
 |refine aK fun K hK=>?_|refine Step.by1 ?_|refine sE (by decide) ?_|refine cz rfl ?_|refine Fork.by2 (fun h=>?_) fun h=>?_
 |(refine aR ?_;simp [a1, a2, a3, a4, a5, a6, w1, w2, w3, w4, w4', w5, w5', w6, w6', w7, w8, w8', w9, w10, w11])
 |(refine Split.by2 (fun h=>?_) (fun h=>?_)<;>(simp [h, a1, a2, a3, a4, a5, a6, w1, w2, w3, w4, w4', w5, w5', w6, w6', w7, w8, w8', w9, w10, w11]))
 |(apply hK;clear hK K)|refine AWh ‹_› ?_)
    all_goals exact retq2 (cE (by simp [limV]) (by simp))
def keepQ (x y : RatD) (b : Int) : Bool := holdsB b (subQ x y).1.num (subQ x y).1.den
theorem c_keeps (x y : RatD) (hx : x.ok) (hy : y.ok) (b : Int) (hs : someB b = true) (h : (subQ x y).2 = 0) (ho : (subQ x y).1.ok) : PC 135 [.agg x.cells, .agg y.cells, .int .i32 b] (.bool (keepQ x y b)) := by
  have h1 := c_value b
  have h2 := c_SubQ x y hx hy
  rw [h] at h2
  have h3 := c_holds b (subQ x y).1.num (subQ x y).1.den ho.1 ho.2
  unfold keepQ
  have hb : ¬ b = 2147483647 := by
    intro e; subst e; simp [someB] at hs
  simp only [valueV, hs, if_true] at h1
  generalize holdsB b (subQ x y).1.num (subQ x y).1.den = r at *
  generalize (subQ x y).1 = q at *
  obtain ⟨qn, qd⟩ := q
  simp only [RatD.cells] at h2 h3 ⊢
  refine pB Tryz.func135 rfl (by decide) Tryz.ntmps135 (by simp) Tryz.results135 ?_
  repeat' (first
 |refine aK fun K hK=>?_|refine Step.by1 ?_|refine sE (by decide) ?_|refine cz rfl ?_|refine Fork.by2 (fun h=>?_) fun h=>?_
 |((first|refine aR ?_|refine aC (f:=163) rfl rfl (h1) rfl rfl rfl ?_|refine aC (f:=85) rfl rfl (h2) rfl rfl rfl ?_|refine aC (f:=196) rfl rfl (h3) rfl rfl rfl ?_);simp [hb])
 |(refine Split.by2 (fun h=>?_) (fun h=>?_)<;>(simp [h, hb]))
 |(apply hK;clear hK K)|refine AWh ‹_› ?_)
  exact r1q (cE rfl rfl)
theorem cmpZ_le {x y : Int} : cmpZ x y ≤ 0 ↔ x ≤ y := by
  unfold cmpZ; split
  · omega
  · split <;> omega
theorem cmpZ_lt {x y : Int} : cmpZ x y < 0 ↔ x < y := by
  unfold cmpZ; split
  · omega
  · split <;> omega
theorem cmpZ_ge {x y : Int} : 0 ≤ cmpZ x y ↔ y ≤ x := by
  unfold cmpZ; split
  · omega
  · split <;> omega
theorem cmpZ_gt {x y : Int} : 0 < cmpZ x y ↔ y < x := by
  unfold cmpZ; split
  · omega
  · split <;> omega
/-- From a clock, 0; from 0, a clock. -/
theorem subQ_zero {x : RatD} (hx : x.ok) (h : rightQ x = true) : subQ x ⟨0, 1⟩ = (x, 0) := by
  rw [subQ_eq h (by decide)]
  have e : lowE (x.num * 1 - 0 * x.den) (x.den * 1).natAbs = lowE x.num x.den.natAbs := by rw [Int.mul_one, Int.mul_one, Int.zero_mul, Int.sub_zero]
  exact e.trans (low_right hx h)
theorem subQ_neg {x : RatD} (hx : x.ok) (h : rightQ x = true) (h0 : 0 ≤ x.num) : subQ ⟨0, 1⟩ x = (⟨-x.num, x.den⟩, 0) := by
  rw [subQ_eq (by decide) h]
  have e : lowE (0 * x.den - x.num * 1) (1 * x.den).natAbs = lowE (-x.num) x.den.natAbs := by rw [Int.mul_one, Int.one_mul, Int.zero_mul, Int.zero_sub]
  refine e.trans (low_right (r := ⟨-x.num, x.den⟩) ?_ ?_)
  · obtain ⟨a, b⟩ := hx
    unfold I64 at a b
    exact ⟨by show I64 (-x.num); unfold I64; omega, by show I64 x.den; unfold I64; omega⟩
  · unfold rightQ at h ⊢
    simpa using h
theorem some_bound {b : Int} (h1 : -2097152 ≤ b) (h2 : b ≤ 2097153) : someB b = true := by
  have e : ¬ b = 2147483647 := by omega
  simp [someB, rightB, e]
  omega
/-- What a bound of a clock says, told by the guard. -/
theorem keep_hi {x : RatD} (hx : x.ok) (h : rightQ x = true) {k : Int} (h1 : 0 ≤ k) (h2 : k ≤ 1048576) : keepQ x ⟨0, 1⟩ (2 * k + 1) = decide (cmpQ x ⟨k, 1⟩ ≤ 0) ∧ keepQ x ⟨0, 1⟩ (2 * k) = decide (cmpQ x ⟨k, 1⟩ < 0) := by
  have hd := rightQ_den h
  have hk : rightQ ⟨k, 1⟩ = true := by simp [rightQ]
  unfold keepQ
  rw [subQ_zero hx h, cmpQ_eq h hk]
  unfold holdsB
  rw [some_bound (b := 2 * k + 1) (by omega) (by omega), some_bound (b := 2 * k) (by omega) (by omega)]
  have e1 : ¬ (2 * k + 1 = 2147483647) := by omega
  have e2 : ¬ (2 * k = 2147483647) := by omega
  have e3 : (2 * k + 1) % 2 = 1 := by omega
  have e4 : ¬ (2 * k) % 2 = 1 := by omega
  have e5 : (2 * k + 1) / 2 = k := by omega
  have e6 : (2 * k) / 2 = k := by omega
  have e7 : (1 : Int) ≤ x.den := by omega
  simp only [e1, e2, e3, e4, e5, e6, e7, cmpZ_le, cmpZ_lt, Int.mul_one, if_true, if_false, decide_true, decide_false, Bool.true_and, Bool.false_or]
  exact ⟨trivial, trivial⟩
theorem keep_lo {x : RatD} (hx : x.ok) (h : rightQ x = true) (h0 : 0 ≤ x.num) {k : Int} (h1 : 0 ≤ k) (h2 : k ≤ 1048576) : keepQ ⟨0, 1⟩ x (-2 * k + 1) = decide (0 ≤ cmpQ x ⟨k, 1⟩) ∧ keepQ ⟨0, 1⟩ x (-2 * k) = decide (0 < cmpQ x ⟨k, 1⟩) := by
  have hd := rightQ_den h
  have hk : rightQ ⟨k, 1⟩ = true := by simp [rightQ]
  unfold keepQ
  rw [subQ_neg hx h h0, cmpQ_eq h hk]
  unfold holdsB
  rw [some_bound (b := -2 * k + 1) (by omega) (by omega), some_bound (b := -2 * k) (by omega) (by omega)]
  have e1 : ¬ (-2 * k + 1 = 2147483647) := by omega
  have e2 : ¬ (-2 * k = 2147483647) := by omega
  have e3 : (-2 * k + 1) % 2 = 1 := by omega
  have e4 : ¬ (-2 * k) % 2 = 1 := by omega
  have e5 : (-2 * k + 1) / 2 = -k := by omega
  have e6 : (-2 * k) / 2 = -k := by omega
  have e7 : (1 : Int) ≤ x.den := by omega
  simp only [e1, e2, e3, e4, e5, e6, e7, cmpZ_ge, cmpZ_gt, Int.mul_one, if_true, if_false, decide_true, decide_false, Bool.true_and, Bool.false_or]
  rw [Int.neg_mul]
  generalize k * x.den = z
  exact ⟨decide_eq_decide.2 ⟨fun h => by omega, fun h => by omega⟩, decide_eq_decide.2 ⟨fun h => by omega, fun h => by omega⟩⟩
def keepL (v : List RatD) (x : Int × Int × Int) : Bool := keepQ (atQ v x.1) (atQ v x.2.1) x.2.2
/-- A guard holds just if its bounds are kept. -/
theorem keep_guard {v : List RatD} (hv : ∀ r ∈ v, r.ok) (hp : ptRight v = true) {g : GuardD} (hg : GuardR v.length g) : (limG g).all (keepL v) = holdG v g := by
  obtain ⟨c1, c2, o, k1, k2, n1, n2⟩ := hg
  obtain ⟨i, hi⟩ : ∃ i : Nat, g.clock - 1 = i := ⟨(g.clock - 1).toNat, by omega⟩
  have hil : i < v.length := by omega
  have e0 : atQ v 0 = ⟨0, 1⟩ := rfl
  have e1 : atQ v g.clock = v[i] := by
    unfold atQ
    rw [if_neg (by omega), hi, Int.toNat_natCast]
    simp [List.getD, List.getElem?_eq_getElem hil]
  have e2 : v.getD (g.clock - 1).toNat default = v[i] := by
    rw [hi, Int.toNat_natCast]
    simp [List.getD, List.getElem?_eq_getElem hil]
  obtain ⟨q1, q2⟩ := (ptRight_iff.1 hp).2 v[i] (List.getElem_mem hil)
  have ho := hv v[i] (List.getElem_mem hil)
  have a := keep_hi ho q1 n1 n2
  have b := keep_lo ho q1 q2 n1 n2
  unfold holdG
  rw [e2]
  by_cases p1 : g.cmp = 1
  · rw [show limG g = [(g.clock, 0, 2 * g.n)] by unfold limG; rw [if_pos p1]]
    show (keepQ (atQ v g.clock) (atQ v 0) (2 * g.n) && true) = _
    rw [Bool.and_true, e0, e1, a.2]
    unfold gcB; rw [if_pos p1]
  by_cases p2 : g.cmp = 2
  · rw [show limG g = [(g.clock, 0, 2 * g.n + 1)] by unfold limG; rw [if_neg p1, if_pos p2]]
    show (keepQ (atQ v g.clock) (atQ v 0) (2 * g.n + 1) && true) = _
    rw [Bool.and_true, e0, e1, a.1]
    unfold gcB; rw [if_neg p1, if_pos p2]
  by_cases p4 : g.cmp = 4
  · rw [show limG g = [(0, g.clock, -2 * g.n + 1)] by unfold limG; rw [if_neg p1, if_neg p2, if_pos p4]]
    show (keepQ (atQ v 0) (atQ v g.clock) (-2 * g.n + 1) && true) = _
    rw [Bool.and_true, e0, e1, b.1]
    unfold gcB; rw [if_neg p1, if_neg p2, if_neg (by omega), if_pos p4]
  by_cases p5 : g.cmp = 5
  · rw [show limG g = [(0, g.clock, -2 * g.n)] by unfold limG; rw [if_neg p1, if_neg p2, if_neg p4, if_pos p5]]
    show (keepQ (atQ v 0) (atQ v g.clock) (-2 * g.n) && true) = _
    rw [Bool.and_true, e0, e1, b.2]
    unfold gcB; rw [if_neg p1, if_neg p2, if_neg (by omega), if_neg p4]
  · have p3 : g.cmp = 3 := by omega
    rw [show limG g = [(g.clock, 0, 2 * g.n + 1), (0, g.clock, -2 * g.n + 1)] by unfold limG; rw [if_neg p1, if_neg p2, if_neg p4, if_neg p5]]
    show (keepQ (atQ v g.clock) (atQ v 0) (2 * g.n + 1) && (keepQ (atQ v 0) (atQ v g.clock) (-2 * g.n + 1) && true)) = _
    rw [Bool.and_true, e0, e1, a.1, b.1]
    unfold gcB; rw [if_neg p1, if_neg p2, if_pos p3]
    generalize cmpQ v[i] ⟨g.n, 1⟩ = z
    rw [← Bool.decide_and]
    exact decide_eq_decide.2 (by omega)
end Go.Proofs.YtbgooadmonnjaaaGreatDoor
end
