/-
  YtgmlimipejcpgaaGreatDoorPart21: steps of the proof of a law of the program: what these texts prove holds under the hypotheses that their theorems name, and no others.
-/
import Derived.Test.YtgmlimipejcpgaaGreatDoorPart20
import Derived.Test.YtgmlimipejcpgaaGreatDoorPart19
import Derived.Test.YtgmlimipejcpgaaGreatDoorPart15
import Derived.Test.YtgmlimipejcpgaaGreatDoorPart16
import Derived.Test.YtgmlimipejcpgaaGreatDoorPart13
import Derived.Test.YtgmlimipejcpgaaGreatDoorPart14
import Derived.Test.YtgmlimipejcpgaaGreatDoorPart06
section
set_option linter.unusedVariables false
set_option linter.unusedSimpArgs false
namespace Go.Proofs.YtgmlimipejcpgaaGreatDoor
open Go Go.AM Fx
theorem raiseL_val {so : Int → Bool} {i : Nat} : ∀ {l : List GuardD} {o : List Int}, i < o.length → (∀ g ∈ l, 1 ≤ g.clock) →
    o.getD i 0 ≤ (raiseL so l o).getD i 0 ∧ (∀ g ∈ l, (g.clock - 1).toNat = i → so g.cmp = true → g.n ≤ (raiseL so l o).getD i 0) ∧
    ((raiseL so l o).getD i 0 = o.getD i 0 ∨ ∃ g ∈ l, (g.clock - 1).toNat = i ∧ so g.cmp = true ∧ (raiseL so l o).getD i 0 = g.n)
  | [], o, _, _ => ⟨Int.le_refl _, fun g hg => (by cases hg), .inl rfl⟩
  | x :: l, o, hi, h1 => by
    rw [raiseL_cons]
    obtain ⟨k1, k2, k3⟩ := raiseL_val (l := l) (o := raise1 so o x) (by rw [raise1_len]; exact hi) fun g hg => h1 g (List.mem_cons_of_mem _ hg)
    have e := raise1_getD (so := so) hi (h1 x (by simp))
    generalize (raiseL so l (raise1 so o x)).getD i 0 = v at *
    rw [e] at k1 k3
    refine ⟨?_, fun g hg hc hs => ?_, ?_⟩
    · split at k1 <;> omega
    · rcases List.mem_cons.1 hg with rfl | hg
      · rw [if_pos ⟨hc, hs⟩] at k1; omega
      · exact k2 g hg hc hs
    · rcases k3 with k3 | ⟨g, hg, hc, hs, hv⟩
      · split at k3
        · rename_i hp
          by_cases hm : o.getD i 0 ≤ x.n
          · exact .inr ⟨x, by simp, hp.1, hp.2, by omega⟩
          · exact .inl (by omega)
        · exact .inl k3
      · exact .inr ⟨g, List.mem_cons_of_mem _ hg, hc, hs, hv⟩
/-- The guards that count at a place. -/
def luG (a : AutoD) (gs : List (List PartD)) (i : Nat) : List GuardD := invAt a i ++ (gsG gs ++ fromG a.edges i)
theorem luBase_G {a : AutoD} {N : Nat} {so : Int → Bool} {gs : List (List PartD)} {i : Nat} : luBase a N so gs i = raiseL so (luG a gs i) (List.replicate N (-1)) := by
  unfold luBase row1 raiseGs luG
  rw [raiseL_append, raiseL_append]
/-- A guard that a network or goals that can be searched have. -/
structure okGd (N : Nat) (g : GuardD) : Prop where
  c1 : 1 ≤ g.clock
  c2 : g.clock ≤ N
  m1 : 1 ≤ g.cmp
  m2 : g.cmp ≤ 5
  n1 : 0 ≤ g.n
  n2 : g.n ≤ 1048576
theorem greatE_zero {l : List GuardD} (h : greatE l = 0) : ∀ g ∈ l, 0 ≤ g.n ∧ g.n ≤ 1048576 := by
  unfold greatE at h
  intro g hg
  cases hc : greatG g
  · unfold greatG at hc
    have := of_decide_eq_false hc
    omega
  · rw [if_pos (List.any_eq_true.2 ⟨g, hg, hc⟩)] at h; cases h
theorem firstAt_none {α : Type} {f : α → Int} : ∀ {l : List α} {i : Nat}, firstAt f l i = none → ∀ x ∈ l, f x = 0
  | [], _, _ => fun x hx => (by cases hx)
  | y :: l, i, h => fun x hx => by
    rw [firstAt_cons] at h
    by_cases hy : f y = 0
    · rw [if_neg (by simp [hy])] at h
      rcases List.mem_cons.1 hx with rfl | hx
      · exact hy
      · exact firstAt_none h x hx
    · rw [if_pos hy] at h; cases h
theorem firstAt_some {α : Type} {f : α → Int} : ∀ {l : List α} {i k : Nat} {e : Int}, firstAt f l i = some (k, e) → e ≠ 0
  | [], _, _, _, h => (by cases h)
  | y :: l, i, k, e, h => by
    rw [firstAt_cons] at h
    by_cases hy : f y = 0
    · rw [if_neg (by simp [hy])] at h; exact firstAt_some h
    · rw [if_pos hy] at h; cases h; exact hy
theorem searchE_zero {pl : LocD → Int} {pe : EdgeD → Int} : ∀ {l : List AutoD} {i : Nat}, (searchE pl pe l i).2 = 0 → ∀ a ∈ l, (∀ x ∈ a.locs, pl x = 0) ∧ ∀ x ∈ a.edges, pe x = 0
  | [], _, _ => fun a ha => (by cases ha)
  | b :: l, i, h => fun a ha => by
    unfold searchE at h
    unfold searchA at h
    cases h1 : firstAt pl b.locs 0 with
    | some x => obtain ⟨k, e⟩ := x; simp only [h1] at h; exact absurd h (firstAt_some h1)
    | none =>
      simp only [h1] at h
      cases h2 : firstAt pe b.edges 0 with
      | some x => obtain ⟨k, e⟩ := x; simp only [h2] at h; exact absurd h (firstAt_some h2)
      | none =>
        simp only [h2] at h
        rcases List.mem_cons.1 ha with rfl | ha
        · exact ⟨firstAt_none h1, firstAt_none h2⟩
        · exact searchE_zero h a ha
theorem net_great {n : NetD} (h : netE n = 0) : ∀ g ∈ guardsL n, 0 ≤ g.n ∧ g.n ≤ 1048576 := by
  have hw := netE_whole h
  unfold netE whereE at h
  rw [if_neg (by simp [hw])] at h
  have h2 : (searchE (fun l => greatE l.inv) edG n.autos 0).2 = 0 := by
    by_cases hd : (searchE (fun l => diagE l.inv) (fun x => diagE x.guards) n.autos 0).2 = 0
    · rw [if_neg (by simp [hd])] at h; exact h
    · rw [if_pos hd] at h; exact absurd h hd
  intro g hg
  obtain ⟨a, ha, hga⟩ := List.mem_flatMap.1 hg
  obtain ⟨k1, k2⟩ := searchE_zero h2 a ha
  unfold guardsA at hga
  rcases List.mem_append.1 hga with hx | hx
  · obtain ⟨l, hl, hg⟩ := List.mem_flatMap.1 hx
    exact greatE_zero (k1 l hl) g hg
  · obtain ⟨e, he, hg⟩ := List.mem_flatMap.1 hx
    have h3 := k2 e he
    unfold edG at h3
    by_cases hz : greatE e.guards = 0
    · exact greatE_zero hz g hg
    · rw [if_pos hz] at h3; exact absurd h3 hz
theorem goal_great {n : NetD} {g : List PartD} (h : goalE n g = 0) : ∀ p ∈ g, ∀ x ∈ p.guards, 0 ≤ x.n ∧ x.n ≤ 1048576 := by
  unfold goalE at h
  have h1 := (firstE_zero (firstE_zero (firstE_zero (firstE_zero h).2).2).2).1
  exact fun p hp => greatE_zero (goF_zero h1 p hp)
section
variable {n : NetD} {gs : List (List PartD)}
theorem all_ok (he : lookE n gs = 0) : ∀ g ∈ guardsL n ++ gsG gs, okGd n.clocks.length g := by
  obtain ⟨h0, hg⟩ := look_ok he
  intro g hm
  rcases List.mem_append.1 hm with hm | hm
  · have h1 := whole_guards (netE_whole h0) g hm
    have h2 := whole_cmps (netE_whole h0) g hm
    have h3 := net_great h0 g hm
    exact ⟨h1.1, h1.2, h2.1, h2.2, h3.1, h3.2⟩
  · obtain ⟨q, hq, hm⟩ := List.mem_flatMap.1 hm
    obtain ⟨p, hp, hm⟩ := List.mem_flatMap.1 hm
    have h1 := goal_guards (hg q hq) p hp g hm
    have h2 := goal_cmps (hg q hq) p hp g hm
    have h3 := goal_great (hg q hq) p hp g hm
    exact ⟨h1.1, h1.2, h2.1, h2.2, h3.1, h3.2⟩
theorem luG_sub {a : AutoD} (ha : a ∈ n.autos) {i : Nat} : ∀ g ∈ luG a gs i, g ∈ guardsL n ++ gsG gs := by
  intro g hg
  have key : g ∈ guardsA a → g ∈ guardsL n ++ gsG gs := fun h => List.mem_append.2 (.inl (List.mem_flatMap.2 ⟨a, ha, h⟩))
  rcases List.mem_append.1 hg with h | h
  · unfold invAt at h
    cases hx : a.locs[i]? with
    | none => rw [hx] at h; simp at h
    | some x =>
      rw [hx] at h
      exact key (List.mem_append.2 (.inl (List.mem_flatMap.2 ⟨x, List.mem_of_getElem? hx, h⟩)))
  · rcases List.mem_append.1 h with h | h
    · exact List.mem_append.2 (.inr h)
    · unfold fromG at h
      obtain ⟨e, he, h⟩ := List.mem_flatMap.1 h
      exact key (List.mem_append.2 (.inr (List.mem_flatMap.2 ⟨e, (List.mem_filter.1 he).1, h⟩)))
theorem numb_eq {so : Int → Bool} (he : lookE n gs = 0) : numbE n so gs = some (raiseL so (guardsL n ++ gsG gs) (List.replicate n.clocks.length (-1))) := by
  obtain ⟨h0, hg⟩ := look_ok he
  have key : ∀ (gs : List (List PartD)) (c : List Int), (∀ g ∈ gs, goalE n g = 0) → numG n so gs c = some (raiseL so (gsG gs) c) := by
    intro gs
    induction gs with
    | nil => intro c _; rfl
    | cons g r ih =>
      intro c h
      rw [numG_cons, if_neg (by simp [h g (by simp)]), ih _ fun x hx => h x (by simp [hx])]
      unfold gsG raisePs
      rw [List.flatMap_cons, raiseL_append]
  unfold numbE
  rw [if_neg (by simp [h0]), key gs _ hg, raiseL_append]
def bigM (n : NetD) (so : Int → Bool) (gs : List (List PartD)) : List Int := raiseL so (guardsL n ++ gsG gs) (List.replicate n.clocks.length (-1))
theorem bigM_len {so : Int → Bool} : (bigM n so gs).length = n.clocks.length := by simp [bigM, raiseL_len]
theorem rep_getD {N c : Nat} (hc : c < N) : (List.replicate N (-1 : Int)).getD c 0 = -1 := by simp [List.getD, hc]
/-- What a place's own guards say of a clock. -/
theorem luB_val {so : Int → Bool} (he : lookE n gs = 0) {a : AutoD} (ha : a ∈ n.autos) {i c : Nat} (hc : c < n.clocks.length) :
    (luB a n.clocks.length so gs i c = -1 ∨ ∃ g ∈ luG a gs i, g.clock = (c : Int) + 1 ∧ so g.cmp = true ∧ luB a n.clocks.length so gs i c = g.n) ∧ (∀ g ∈ luG a gs i, g.clock = (c : Int) + 1 → so g.cmp = true → g.n ≤ luB a n.clocks.length so gs i c) ∧ -1 ≤ luB a n.clocks.length so gs i c := by
  have hok : ∀ g ∈ luG a gs i, okGd n.clocks.length g := fun g hg => all_ok he g (luG_sub ha g hg)
  obtain ⟨h1, h2, h3⟩ := raiseL_val (so := so) (i := c) (l := luG a gs i) (o := List.replicate n.clocks.length (-1)) (by simpa using hc) fun g hg => (hok g hg).c1
  rw [rep_getD hc] at h1 h3
  unfold luB
  rw [luBase_G]
  refine ⟨?_, fun g hg hgc hs => h2 g hg (by omega) hs, h1⟩
  rcases h3 with h3 | ⟨g, hg, hgc, hs, hv⟩
  · exact .inl h3
  · have := (hok g hg).c1
    exact .inr ⟨g, hg, by omega, hs, hv⟩
theorem bigM_val {so : Int → Bool} (he : lookE n gs = 0) {c : Nat} (hc : c < n.clocks.length) :
    (∀ g ∈ guardsL n ++ gsG gs, g.clock = (c : Int) + 1 → so g.cmp = true → g.n ≤ (bigM n so gs).getD c 0) ∧ -1 ≤ (bigM n so gs).getD c 0 := by
  have hok := all_ok he
  obtain ⟨h1, h2, h3⟩ := raiseL_val (so := so) (i := c) (l := guardsL n ++ gsG gs) (o := List.replicate n.clocks.length (-1)) (by simpa using hc) fun g hg => (hok g hg).c1
  rw [rep_getD hc] at h1
  exact ⟨fun g hg hgc hs => h2 g hg (by omega) hs, h1⟩
theorem luB_le {so : Int → Bool} (he : lookE n gs = 0) {a : AutoD} (ha : a ∈ n.autos) {i c : Nat} (hc : c < n.clocks.length) : luB a n.clocks.length so gs i c ≤ (bigM n so gs).getD c 0 := by
  obtain ⟨h1, h2⟩ := bigM_val (so := so) he hc
  obtain ⟨h3, _, _⟩ := luB_val (so := so) he ha (i := i) hc
  rcases h3 with h3 | ⟨g, hg, hgc, hs, hv⟩
  · omega
  · rw [hv]; exact h1 g (luG_sub ha g hg) hgc hs
/-- What stands in the plan: a place's own number that is reached. -/
theorem luM_val {so : Int → Bool} (he : lookE n gs = 0) {a : AutoD} (ha : a ∈ n.autos) {i c : Nat} (hi : i < a.locs.length) (hc : c < n.clocks.length) :
    ∃ v, nget (luM a n.clocks.length (luB a n.clocks.length so gs)) i c = some v ∧ (∃ j, Rch a ((c : Int) + 1) i j ∧ v = luB a n.clocks.length so gs j c) ∧ ∀ j, Rch a ((c : Int) + 1) i j → luB a n.clocks.length so gs j c ≤ v := by
  have hE := edges_ok (netE_whole (look_ok he).1) a ha
  have q := luM_ok (a := a) (N := n.clocks.length) (so := so) (gs := gs)
  obtain ⟨v, hv⟩ := q.s.get hi hc
  refine ⟨v, hv, q.s.snd _ _ _ hv, fun j hj => ?_⟩
  have key : ∀ i, Rch a ((c : Int) + 1) i j → ∀ w, nget (luM a n.clocks.length (luB a n.clocks.length so gs)) i c = some w → luB a n.clocks.length so gs j c ≤ w := by
    intro i h
    clear hj
    induction h with
    | refl hi => exact fun w hw => q.s.ge _ _ _ hw
    | @edge e j he' hs _ ih =>
      intro w hw
      obtain ⟨_, t1, t2⟩ := hE e he'
      obtain ⟨u, hu⟩ := q.s.get (i := e.to.toNat) (c := c) (by omega) hc
      have h3 := ih u hu
      have h4 := q.c e he' c hc u w hu hs hw
      omega
  exact key i hj v hv
/-- Used at a place: by one of the guards that count there. -/
theorem usedPs_iff {c : Int} {X : Bool} : ∀ {l : List PartD}, usedPs c X l = true ↔ (∃ p ∈ l, namedB c p.guards = true) ∨ X = true
  | [] => by simp [usedPs]
  | p :: l => by rw [usedPs_cons, Bool.or_eq_true, usedPs_iff]; simp [or_assoc]
theorem usedGs_iff {c : Int} : ∀ {gs : List (List PartD)}, usedGs c gs = true ↔ ∃ g ∈ gs, ∃ p ∈ g, namedB c p.guards = true
  | [] => by simp [usedGs]
  | g :: l => by rw [usedGs_cons, usedPs_iff, usedGs_iff]; simp
theorem usedEs_iff {i : Nat} {c : Int} {X : Bool} : ∀ {l : List EdgeD}, usedEs i c X l = true ↔ (∃ e ∈ l, e.frm = i ∧ namedB c e.guards = true) ∨ X = true
  | [] => by simp [usedEs]
  | e :: l => by rw [usedEs_cons, Bool.or_eq_true, usedEs_iff]; simp [or_assoc]
theorem namedB_iff {c : Int} {l : List GuardD} : namedB c l = true ↔ ∃ g ∈ l, g.clock = c := by
  unfold namedB
  rw [show anyL (fun g : GuardD => decide (g.clock = c)) l = l.any (fun g => decide (g.clock = c)) from rfl, List.any_eq_true]
  simp
theorem used_iff {a : AutoD} {i : Nat} (hi : i < a.locs.length) {c : Int} : usedB a gs i c = true ↔ ∃ g ∈ luG a gs i, g.clock = c := by
  have hx : a.locs[i]? = some a.locs[i] := List.getElem?_eq_getElem hi
  have hinv : invAt a i = (a.locs.getD i default).inv := by simp [invAt, hx, List.getD]
  unfold usedB luG
  rw [Bool.or_eq_true, namedB_iff, usedEs_iff, usedGs_iff, hinv]
  constructor
  · rintro (⟨g, h1, h2⟩ | ⟨e, h1, h2, h3⟩ | ⟨q, h1, p, h2, h3⟩)
    · exact ⟨g, List.mem_append.2 (.inl h1), h2⟩
    · obtain ⟨g, h4, h5⟩ := namedB_iff.1 h3
      exact ⟨g, List.mem_append.2 (.inr (List.mem_append.2 (.inr (List.mem_flatMap.2 ⟨e, List.mem_filter.2 ⟨h1, by simpa using h2⟩, h4⟩)))), h5⟩
    · obtain ⟨g, h4, h5⟩ := namedB_iff.1 h3
      exact ⟨g, List.mem_append.2 (.inr (List.mem_append.2 (.inl (List.mem_flatMap.2 ⟨q, h1, List.mem_flatMap.2 ⟨p, h2, h4⟩⟩)))), h5⟩
  · rintro ⟨g, h1, h2⟩
    rcases List.mem_append.1 h1 with h1 | h1
    · exact .inl ⟨g, h1, h2⟩
    · rcases List.mem_append.1 h1 with h1 | h1
      · obtain ⟨q, h3, h1⟩ := List.mem_flatMap.1 h1
        obtain ⟨p, h4, h1⟩ := List.mem_flatMap.1 h1
        exact .inr (.inr ⟨q, h3, p, h4, namedB_iff.2 ⟨g, h1, h2⟩⟩)
      · obtain ⟨e, h3, h1⟩ := List.mem_flatMap.1 h1
        obtain ⟨h4, h5⟩ := List.mem_filter.1 h3
        exact .inr (.inl ⟨e, h4, by simpa using h5, namedB_iff.2 ⟨g, h1, h2⟩⟩)
/-- Active: used at a place that is reached. -/
theorem act_rch {a : AutoD} {c : Int} {i : Nat} : Act a gs c i ↔ ∃ j, Rch a c i j ∧ usedB a gs j c = true := by
  constructor
  · intro h
    induction h with
    | use hi h => exact ⟨_, .refl hi, h⟩
    | edge he _ hs ih =>
      obtain ⟨j, h1, h2⟩ := ih
      exact ⟨j, .edge he hs h1, h2⟩
  · rintro ⟨j, h1, h2⟩
    induction h1 with
    | refl hi => exact .use hi h2
    | edge he hs _ ih => exact .edge he (ih h2) hs
/-- A number is of the plan just where the clock is active. -/
theorem act_iff (he : lookE n gs = 0) {a : AutoD} (ha : a ∈ n.autos) {i c : Nat} (hi : i < a.locs.length) (hc : c < n.clocks.length) {v w : Int}
    (hv : nget (luM a n.clocks.length (luB a n.clocks.length lowB gs)) i c = some v) (hw : nget (luM a n.clocks.length (luB a n.clocks.length upB gs)) i c = some w) :
    actB a gs ((c : Int) + 1) i = true ↔ ¬ (v < 0 ∧ w < 0) := by
  obtain ⟨v', hv', ⟨jv, hjv, hvv⟩, hv3⟩ := luM_val (so := lowB) he ha hi hc
  obtain ⟨w', hw', ⟨jw, hjw, hww⟩, hw3⟩ := luM_val (so := upB) he ha hi hc
  rw [hv] at hv'; cases hv'
  rw [hw] at hw'; cases hw'
  have hact : actB a gs ((c : Int) + 1) i = true ↔ Act a gs ((c : Int) + 1) i := by simp [actB]
  rw [hact, act_rch]
  have hok : ∀ j, ∀ g ∈ luG a gs j, okGd n.clocks.length g := fun j g hg => all_ok he g (luG_sub ha g hg)
  constructor
  · rintro ⟨j, h1, h2⟩ ⟨k1, k2⟩
    obtain ⟨g, hg, hgc⟩ := (used_iff h1.lt).1 h2
    have ho := hok j g hg
    rcases low_or_up ⟨ho.m1, ho.m2⟩ with hs | hs
    · have t1 := (luB_val (so := lowB) he ha (i := j) hc).2.1 g hg hgc hs
      have t2 := hv3 j h1
      have := ho.n1; omega
    · have t1 := (luB_val (so := upB) he ha (i := j) hc).2.1 g hg hgc hs
      have t2 := hw3 j h1
      have := ho.n1; omega
  · intro h
    have key : ∀ {so : Int → Bool} {j : Nat}, Rch a ((c : Int) + 1) i j → ¬ luB a n.clocks.length so gs j c < 0 → ∃ j, Rch a ((c : Int) + 1) i j ∧ usedB a gs j ((c : Int) + 1) = true := fun {so j} hj hn => by
      rcases (luB_val (so := so) he ha (i := j) hc).1 with t | ⟨g, hg, hgc, _, _⟩
      · omega
      · exact ⟨j, hj, (used_iff hj.lt).2 ⟨g, hg, hgc⟩⟩
    by_cases hz : v < 0
    · exact key (so := upB) hjw (by rw [← hww]; omega)
    · exact key (so := lowB) hjv (by rw [← hvv]; omega)
/-- An active clock's number is none below nought. -/
theorem act_num (he : lookE n gs = 0) {a : AutoD} (ha : a ∈ n.autos) {i c : Nat} (hc : c < n.clocks.length) (h : actB a gs ((c : Int) + 1) i = true) : 0 ≤ (bigM n (fun _ => true) gs).getD c 0 := by
  have hact : Act a gs ((c : Int) + 1) i := by simpa [actB] using h
  obtain ⟨j, h1, h2⟩ := act_rch.1 hact
  obtain ⟨g, hg, hgc⟩ := (used_iff h1.lt).1 h2
  have ho := all_ok he g (luG_sub ha g hg)
  have := (bigM_val (so := fun _ => true) he hc).1 g (luG_sub ha g hg) hgc rfl
  have := ho.n1; omega
theorem luB_hi {so : Int → Bool} (he : lookE n gs = 0) {a : AutoD} (ha : a ∈ n.autos) {i c : Nat} (hc : c < n.clocks.length) : luB a n.clocks.length so gs i c ≤ 1048576 := by
  rcases (luB_val (so := so) he ha (i := i) hc).1 with t | ⟨g, hg, _, _, hv⟩
  · omega
  · rw [hv]; exact (all_ok he g (luG_sub ha g hg)).n2
theorem row_ok_iff {N : Nat} {r : List Int} : rowOk N r = true ↔ r.length = N ∧ ∀ m ∈ r, -1 ≤ m ∧ m ≤ 1048576 := by
  unfold rowOk
  rw [Bool.and_eq_true, decide_eq_true_eq, Bool.not_eq_true', show anyL outB r = r.any outB from rfl, List.any_eq_false]
  constructor
  · rintro ⟨h1, h2⟩
    exact ⟨h1, fun m hm => by have := h2 m hm; simp [outB] at this; omega⟩
  · rintro ⟨h1, h2⟩
    exact ⟨h1, fun m hm => by have := h2 m hm; simp [outB]; omega⟩
theorem half_ok_iff {P : List (List (List Int))} : halfOk n P = true ↔ P.length = n.autos.length ∧ ∀ (i : Nat) (a : AutoD) (Q : List (List Int)), n.autos[i]? = some a → P[i]? = some Q → Q.length = a.locs.length ∧ ∀ (k : Nat) (r : List Int), Q[k]? = some r → r.length = n.clocks.length ∧ ∀ m ∈ r, -1 ≤ m ∧ m ≤ 1048576 := by
  unfold halfOk
  rw [eqF_iff]
  constructor
  · rintro ⟨h1, h2⟩
    refine ⟨h1.symm, fun i a Q ha hQ => ?_⟩
    have h3 := h2 i a Q ha hQ
    unfold locsOk at h3
    rw [eqF_iff] at h3
    refine ⟨h3.1.symm, fun k r hr => ?_⟩
    have hk : k < a.locs.length := by have := (List.getElem?_eq_some_iff.1 hr).1; omega
    exact row_ok_iff.1 (h3.2 k _ r (List.getElem?_eq_getElem hk) hr)
  · rintro ⟨h1, h2⟩
    refine ⟨h1.symm, fun i a Q ha hQ => ?_⟩
    obtain ⟨h3, h4⟩ := h2 i a Q ha hQ
    unfold locsOk
    rw [eqF_iff]
    exact ⟨h3.symm, fun k x r _ hr => row_ok_iff.2 (h4 k r hr)⟩
theorem luP_right {so : Int → Bool} (he : lookE n gs = 0) : halfOk n (luP n so gs) = true := by
  refine half_ok_iff.2 ⟨by simp [luP], fun i a Q ha hQ => ?_⟩
  have hQ' : Q = luM a n.clocks.length (luB a n.clocks.length so gs) := by simp [luP, ha] at hQ; exact hQ.symm
  subst hQ'
  have hm := List.mem_of_getElem? ha
  have q := luM_ok (a := a) (N := n.clocks.length) (so := so) (gs := gs)
  refine ⟨q.s.len, fun k r hr => ⟨q.s.row k r hr, fun m hmr => ?_⟩⟩
  obtain ⟨c, hc⟩ := List.getElem?_of_mem hmr
  have hcl : c < n.clocks.length := by have := (List.getElem?_eq_some_iff.1 hc).1; rw [q.s.row k r hr] at this; exact this
  obtain ⟨j, _, hj⟩ := q.s.snd k c m (nget_of hr hc)
  rw [hj]
  exact ⟨(luB_val he hm hcl).2.2, luB_hi he hm hcl⟩
end
end Go.Proofs.YtgmlimipejcpgaaGreatDoor
end

section
set_option linter.unusedVariables false
set_option linter.unusedSimpArgs false
namespace Go.Proofs.YtgmlimipejcpgaaGreatDoor
open Go Go.AM Fx
theorem r_Right10 (n : NetD) (hn : n.ok) : PC 122 [.agg n.cells] (.bool (decide (wholeE n = 0))) := by
  have hc := r_Whole n hn
  generalize wholeE n = e at *
  simp only [NetD.cells, vl] at hc
  refine PCall_body Tryz.func122 rfl (by decide) Tryz.ntmps122 (by simp) Tryz.results122 ?_
  repeat' (first
 |refine AW_seq_k fun K hK=>?_|refine Step.by1 ?_|refine SBlock_exit_ne (by decide) ?_|refine cz rfl ?_|refine Fork.by2 (fun h=>?_) fun h=>?_
 |((first|refine AW_region_AO ?_|refine AS_call1 (f:=67) rfl rfl (hc) rfl rfl rfl ?_);simp [NetD.cells, vl])
 |(refine Split.by2 (fun h=>?_) (fun h=>?_)<;>(simp [h, NetD.cells, vl]))
 |(apply hK;clear hK K)|refine AWh (by assumption) ?_)
  exact retq1 (conv_eq rfl rfl)
theorem ivs_get {r : List Int} {c : Nat} {m : Int} (h : r[c]? = some m) : (ivs r)[c]? = some [V.int .i64 m] := by simp [ivs, h]
theorem ivs_len {r : List Int} : (ivs r).length = r.length := by simp [ivs]
set_option maxRecDepth 20000 in
set_option maxHeartbeats 16000000 in
theorem r_half26 (n : NetD) (hn : n.ok) (P : List (List (List Int))) (hP : planOk P) : PC 123 [.agg n.cells, halfV P] (.bool (halfOk n P)) := by
  obtain ⟨res, hres⟩ : ∃ r, halfOk n P = r := ⟨_, rfl⟩
  rw [hres]
  unfold halfOk at hres
  unfold halfV
  have hrl : (rows3V P).length = P.length := by simp
  have hpl := hP.1
  by_cases hlen : n.autos.length = P.length
  · have hlen' : (P.length : Int) = n.autos.length := by omega
    refine PCall_body Tryz.func123 rfl (by decide) Tryz.ntmps123 (by simp) Tryz.results123 ?_
    repeat' (first
 |refine AW_seq_k fun K hK=>?_|refine Step.by1 ?_|refine SBlock_exit_ne (by decide) ?_|refine cz rfl ?_|refine Fork.by2 (fun h=>?_) fun h=>?_
 |(refine AW_region_AO ?_;simp [NetD.cells, vl, hlen'])
 |(refine Split.by2 (fun h=>?_) (fun h=>?_)<;>(simp [h, NetD.cells, vl, hlen']))
 |(apply hK;clear hK K)|refine AWh (by assumption) ?_)
    refine AW_loopL [1, 2] (fun i : Nat => [(5, .int .i64 i)]) (fun _ => [.var n.cells]) (fun i => i ≤ P.length ∧ eqF (fun a Q => locsOk n.clocks.length a Q) (n.autos.drop i) (P.drop i) = res) (fun i => P.length - i) 0 ⟨Nat.zero_le _, hres⟩ (by apply Weak.mk' <;> simp [NetD.cells, vl]) (fun _ _ => rfl) ?_
    clear hres
    rintro i ⟨hi, hk⟩
    by_cases hlt : i < P.length
    · have hla : i < n.autos.length := by omega
      obtain ⟨a, haa⟩ : ∃ a, n.autos[i] = a := ⟨_, rfl⟩
      obtain ⟨Q, hQQ⟩ : ∃ Q, P[i] = Q := ⟨_, rfl⟩
      have hQ? : P[i]? = some Q := by rw [List.getElem?_eq_getElem hlt, hQQ]
      rw [List.drop_eq_getElem_cons hla, List.drop_eq_getElem_cons hlt, haa, hQQ, eqF] at hk
      obtain ⟨hq1, hq2⟩ := hP.2 Q (List.mem_of_getElem? hQ?)
      generalize hrest : eqF (fun a Q => locsOk n.clocks.length a Q) (n.autos.drop (i + 1)) (P.drop (i + 1)) = rest at hk
      have hlt' : (i : Int) < P.length := by omega
      have hla' : (i : Int) < n.autos.length := by omega
      have w1 : IntKind.i64.wrap ((i : Int) + 1) = i + 1 := wrap_i64 (by omega) (by omega)
      have c2 := rows3V_get hQ?
      have c3 : (rows3V P)[i]'(by omega) = [V.vec (rows2V Q) Q.length] := by rw [List.getElem?_eq_getElem (by omega)] at c2; exact Option.some.inj c2
      have hrl2 : (rows2V Q).length = Q.length := by simp
      unfold locsOk at hk
      by_cases hl2 : a.locs.length = Q.length
      · have hl2' : (Q.length : Int) = a.locs.length := by omega
        repeat' (first
 |refine AW_seq_k fun K hK=>?_|refine Step.by1 ?_|refine SBlock_exit_ne (by decide) ?_|refine cz rfl ?_|refine Fork.by2 (fun h=>?_) fun h=>?_
 |((first|refine AW_region_AO ?_|refine AW_region_APx (id:=6) 13 mixed (by decide) ?_);simp [NetD.cells, AutoD.cells, vl, hlt, hlt', hla, hla', haa, c2, c3, hrl, hrl2, hl2, hl2'])
 |(refine Split.by2 (fun h=>?_) (fun h=>?_)<;>(simp [h, NetD.cells, AutoD.cells, vl, hlt, hlt', hla, hla', haa, c2, c3, hrl, hrl2, hl2, hl2']))
 |(apply hK;clear hK K)|refine AWh (by assumption) ?_)
        refine AW_loopL [1, 2, 5] (fun k : Nat => [(6, .int .i64 k)]) (fun _ => [.var n.cells]) (fun k => k ≤ Q.length ∧ (eqF (fun _ r => rowOk n.clocks.length r) (a.locs.drop k) (Q.drop k) && rest) = res) (fun k => Q.length - k) 0 ⟨Nat.zero_le _, hk⟩ (by apply Weak.mk' <;> simp [NetD.cells, vl]) (fun _ _ => rfl) ?_
        clear hk
        rintro k ⟨hkq, hk⟩
        by_cases hlk : k < Q.length
        · have hlk2 : k < a.locs.length := by omega
          obtain ⟨r, hrr⟩ : ∃ r, Q[k] = r := ⟨_, rfl⟩
          have hr? : Q[k]? = some r := by rw [List.getElem?_eq_getElem hlk, hrr]
          rw [List.drop_eq_getElem_cons hlk2, List.drop_eq_getElem_cons hlk, hrr, eqF] at hk
          generalize hrest2 : eqF (fun _ r => rowOk n.clocks.length r) (a.locs.drop (k + 1)) (Q.drop (k + 1)) = rest2 at hk
          have hlk' : (k : Int) < Q.length := by omega
          have w2 : IntKind.i64.wrap ((k : Int) + 1) = k + 1 := wrap_i64 (by omega) (by omega)
          have d2 := rows2V_get hr?
          have d3 : (rows2V Q)[k]'(by omega) = [V.vec (ivs r) r.length] := by rw [List.getElem?_eq_getElem (by omega)] at d2; exact Option.some.inj d2
          have hrm := hq2 r (List.mem_of_getElem? hr?)
          have hil : (ivs r).length = r.length := ivs_len
          unfold rowOk at hk
          by_cases hl3 : r.length = n.clocks.length
          · have hl3' : (r.length : Int) = n.clocks.length := by omega
            rw [decide_eq_true hl3, Bool.true_and] at hk
            repeat' (first
 |refine AW_seq_k fun K hK=>?_|refine Step.by1 ?_|refine SBlock_exit_ne (by decide) ?_|refine cz rfl ?_|refine Fork.by2 (fun h=>?_) fun h=>?_
 |((first|refine AW_region_AO ?_|refine AW_region_APx (id:=11) 12 mixed (by decide) ?_);simp [NetD.cells, vl, hlt, hlt', c2, c3, hrl, hrl2, hlk, hlk', d2, d3, hil, hl3, hl3'])
 |(refine Split.by2 (fun h=>?_) (fun h=>?_)<;>(simp [h, NetD.cells, vl, hlt, hlt', c2, c3, hrl, hrl2, hlk, hlk', d2, d3, hil, hl3, hl3']))
 |(apply hK;clear hK K)|refine AWh (by assumption) ?_)
            refine AW_loopL [1, 2, 5, 6] (fun c : Nat => [(7, .int .i64 c)]) (fun _ => [.var n.cells]) (fun c => c ≤ r.length ∧ (!anyL outB (r.drop c) && rest2 && rest) = res) (fun c => r.length - c) 0 ⟨Nat.zero_le _, hk⟩ (by apply Weak.mk' <;> simp [NetD.cells, vl]) (fun _ _ => rfl) ?_
            clear hk
            rintro c ⟨hcr, hk⟩
            by_cases hlc : c < r.length
            · obtain ⟨m, hmm⟩ : ∃ m, r[c] = m := ⟨_, rfl⟩
              have hm? : r[c]? = some m := by rw [List.getElem?_eq_getElem hlc, hmm]
              rw [List.drop_eq_getElem_cons hlc, hmm, anyL_cons] at hk
              have hlc' : (c : Int) < r.length := by omega
              have w3 : IntKind.i64.wrap ((c : Int) + 1) = c + 1 := wrap_i64 (by omega) (by omega)
              have e2 := ivs_get hm?
              have e3 : (ivs r)[c]'(by omega) = [V.int .i64 m] := by rw [List.getElem?_eq_getElem (by omega)] at e2; exact Option.some.inj e2
              unfold outB at hk
              by_cases hm1 : m < -1
              · rw [decide_eq_true (.inl hm1)] at hk
                have hk : false = res := by simpa using hk
                repeat' (first
 |refine AW_seq_k fun K hK=>?_|refine Step.by1 ?_|refine SBlock_exit_ne (by decide) ?_|refine cz rfl ?_|refine Fork.by2 (fun h=>?_) fun h=>?_
 |(refine AW_region_AO ?_;simp [NetD.cells, vl, hlt, hlt', c2, c3, hrl, hrl2, hlk, hlk', d2, d3, hil, hlc, hlc', e2, e3, hm1])
 |(refine Split.by2 (fun h=>?_) (fun h=>?_)<;>(simp [h, NetD.cells, vl, hlt, hlt', c2, c3, hrl, hrl2, hlk, hlk', d2, d3, hil, hlc, hlc', e2, e3, hm1]))
 |(apply hK;clear hK K)|refine AWh (by assumption) ?_)
                exact retq1 (conv_eq (by simp [← hk]) rfl)
              · by_cases hm2 : 1048576 < m
                · rw [decide_eq_true (.inr hm2)] at hk
                  have hk : false = res := by simpa using hk
                  repeat' (first
 |refine AW_seq_k fun K hK=>?_|refine Step.by1 ?_|refine SBlock_exit_ne (by decide) ?_|refine cz rfl ?_|refine Fork.by2 (fun h=>?_) fun h=>?_
 |(refine AW_region_AO ?_;simp [NetD.cells, vl, hlt, hlt', c2, c3, hrl, hrl2, hlk, hlk', d2, d3, hil, hlc, hlc', e2, e3, hm1, hm2])
 |(refine Split.by2 (fun h=>?_) (fun h=>?_)<;>(simp [h, NetD.cells, vl, hlt, hlt', c2, c3, hrl, hrl2, hlk, hlk', d2, d3, hil, hlc, hlc', e2, e3, hm1, hm2]))
 |(apply hK;clear hK K)|refine AWh (by assumption) ?_)
                  exact retq1 (conv_eq (by simp [← hk]) rfl)
                · rw [decide_eq_false (by omega), Bool.false_or] at hk
                  repeat' (first
 |refine AW_seq_k fun K hK=>?_|refine Step.by1 ?_|refine SBlock_exit_ne (by decide) ?_|refine cz rfl ?_|refine Fork.by2 (fun h=>?_) fun h=>?_
 |(refine AW_region_AO ?_;simp [NetD.cells, vl, hlt, hlt', c2, c3, hrl, hrl2, hlk, hlk', d2, d3, hil, hlc, hlc', e2, e3, hm1, hm2, w3])
 |(refine Split.by2 (fun h=>?_) (fun h=>?_)<;>(simp [h, NetD.cells, vl, hlt, hlt', c2, c3, hrl, hrl2, hlk, hlk', d2, d3, hil, hlc, hlc', e2, e3, hm1, hm2, w3]))
 |(apply hK;clear hK K)|refine AWh (by assumption) ?_)
                  refine ⟨c + 1, ⟨by omega, hk⟩, by omega, ?_⟩
                  apply Weak.mk' <;> simp [NetD.cells, vl]
            · obtain rfl : c = r.length := by omega
              rw [List.drop_length, anyL_nil, Bool.not_false, Bool.true_and] at hk
              subst hrest2
              repeat' (first
 |refine AW_seq_k fun K hK=>?_|refine Step.by1 ?_|refine SBlock_exit_ne (by decide) ?_|refine cz rfl ?_|refine Fork.by2 (fun h=>?_) fun h=>?_
 |(refine AW_region_AO ?_;simp [NetD.cells, vl, hlt, hlt', c2, c3, hrl, hrl2, hlk, hlk', d2, d3, hil, w2])
 |(refine Split.by2 (fun h=>?_) (fun h=>?_)<;>(simp [h, NetD.cells, vl, hlt, hlt', c2, c3, hrl, hrl2, hlk, hlk', d2, d3, hil, w2]))
 |(apply hK;clear hK K)|refine AWh (by assumption) ?_)
              refine ⟨k + 1, ⟨by omega, hk⟩, by omega, ?_⟩
              apply Weak.mk' <;> simp [NetD.cells, vl]
          · have hl3' : ¬ (r.length : Int) = n.clocks.length := by omega
            rw [decide_eq_false hl3] at hk
            have hk : false = res := by simpa using hk
            repeat' (first
 |refine AW_seq_k fun K hK=>?_|refine Step.by1 ?_|refine SBlock_exit_ne (by decide) ?_|refine cz rfl ?_|refine Fork.by2 (fun h=>?_) fun h=>?_
 |((first|refine AW_region_AO ?_|refine AW_region_APx (id:=11) 12 mixed (by decide) ?_);simp [NetD.cells, vl, hlt, hlt', c2, c3, hrl, hrl2, hlk, hlk', d2, d3, hil, hl3, hl3'])
 |(refine Split.by2 (fun h=>?_) (fun h=>?_)<;>(simp [h, NetD.cells, vl, hlt, hlt', c2, c3, hrl, hrl2, hlk, hlk', d2, d3, hil, hl3, hl3']))
 |(apply hK;clear hK K)|refine AWh (by assumption) ?_)
            exact retq1 (conv_eq (by simp [← hk]) rfl)
        · obtain rfl : k = Q.length := by omega
          rw [List.drop_length, ← hl2, List.drop_length, eqF, Bool.true_and] at hk
          subst hrest
          repeat' (first
 |refine AW_seq_k fun K hK=>?_|refine Step.by1 ?_|refine SBlock_exit_ne (by decide) ?_|refine cz rfl ?_|refine Fork.by2 (fun h=>?_) fun h=>?_
 |(refine AW_region_AO ?_;simp [NetD.cells, vl, hlt, hlt', c2, c3, hrl, hrl2, w1])
 |(refine Split.by2 (fun h=>?_) (fun h=>?_)<;>(simp [h, NetD.cells, vl, hlt, hlt', c2, c3, hrl, hrl2, w1]))
 |(apply hK;clear hK K)|refine AWh (by assumption) ?_)
          refine ⟨i + 1, ⟨by omega, hk⟩, by omega, ?_⟩
          apply Weak.mk' <;> simp [NetD.cells, vl]
      · have hl2' : ¬ (Q.length : Int) = a.locs.length := by omega
        rw [eqF_ne hl2] at hk
        have hk : false = res := by simpa using hk
        repeat' (first
 |refine AW_seq_k fun K hK=>?_|refine Step.by1 ?_|refine SBlock_exit_ne (by decide) ?_|refine cz rfl ?_|refine Fork.by2 (fun h=>?_) fun h=>?_
 |((first|refine AW_region_AO ?_|refine AW_region_APx (id:=6) 13 mixed (by decide) ?_);simp [NetD.cells, AutoD.cells, vl, hlt, hlt', hla, hla', haa, c2, c3, hrl, hrl2, hl2, hl2'])
 |(refine Split.by2 (fun h=>?_) (fun h=>?_)<;>(simp [h, NetD.cells, AutoD.cells, vl, hlt, hlt', hla, hla', haa, c2, c3, hrl, hrl2, hl2, hl2']))
 |(apply hK;clear hK K)|refine AWh (by assumption) ?_)
        exact retq1 (conv_eq (by simp [← hk]) rfl)
    · obtain rfl : i = P.length := by omega
      rw [List.drop_length, ← hlen, List.drop_length, eqF] at hk
      repeat' (first
 |refine AW_seq_k fun K hK=>?_|refine Step.by1 ?_|refine SBlock_exit_ne (by decide) ?_|refine cz rfl ?_|refine Fork.by2 (fun h=>?_) fun h=>?_
 |(refine AW_region_AO ?_;simp [NetD.cells, vl])
 |(refine Split.by2 (fun h=>?_) (fun h=>?_)<;>(simp [h, NetD.cells, vl]))
 |(apply hK;clear hK K)|refine AWh (by assumption) ?_)
      exact retq1 (conv_eq (by simp [← hk]) rfl)
  · have hlen' : ¬ (P.length : Int) = n.autos.length := by omega
    rw [eqF_ne hlen] at hres
    refine PCall_body Tryz.func123 rfl (by decide) Tryz.ntmps123 (by simp) Tryz.results123 ?_
    repeat' (first
 |refine AW_seq_k fun K hK=>?_|refine Step.by1 ?_|refine SBlock_exit_ne (by decide) ?_|refine cz rfl ?_|refine Fork.by2 (fun h=>?_) fun h=>?_
 |(refine AW_region_AO ?_;simp [NetD.cells, vl, hlen'])
 |(refine Split.by2 (fun h=>?_) (fun h=>?_)<;>(simp [h, NetD.cells, vl, hlen']))
 |(apply hK;clear hK K)|refine AWh (by assumption) ?_)
    exact retq1 (conv_eq (by simp [← hres]) rfl)
set_option maxHeartbeats 8000000 in
theorem r_Right26 (n : NetD) (hn : n.ok) (P1 P2 : List (List (List Int))) (h1 : planOk P1) (h2 : planOk P2) : PC 51 [.agg n.cells, .agg [halfV P1, halfV P2]] (.bool (rightPE n P1 P2)) := by
  have hc := r_Right10 n hn
  have c1 := r_half26 n hn P1 h1
  have c2 := r_half26 n hn P2 h2
  unfold rightPE
  generalize decide (wholeE n = 0) = b0 at *
  generalize halfOk n P1 = b1 at *
  generalize halfOk n P2 = b2 at *
  simp only [NetD.cells, vl, halfV] at hc c1 c2 ⊢
  generalize rows3V P1 = R1 at *
  generalize rows3V P2 = R2 at *
  refine PCall_body Tryz.func51 rfl (by decide) Tryz.ntmps51 (by simp) Tryz.results51 ?_
  cases b0
  · repeat' (first
 |refine AW_seq_k fun K hK=>?_|refine Step.by1 ?_|refine SBlock_exit_ne (by decide) ?_|refine cz rfl ?_|refine Fork.by2 (fun h=>?_) fun h=>?_
 |((first|refine AW_region_AO ?_|refine AS_call1 (f:=122) rfl rfl (hc) rfl rfl rfl ?_);simp)
 |(refine Split.by2 (fun h=>?_) (fun h=>?_)<;>(simp [h]))
 |(apply hK;clear hK K)|refine AWh (by assumption) ?_)
    exact retq1 (conv_eq rfl rfl)
  · cases b1
    · repeat' (first
 |refine AW_seq_k fun K hK=>?_|refine Step.by1 ?_|refine SBlock_exit_ne (by decide) ?_|refine cz rfl ?_|refine Fork.by2 (fun h=>?_) fun h=>?_
 |((first|refine AW_region_AO ?_|refine AS_call1 (f:=122) rfl rfl (hc) rfl rfl rfl ?_|refine AS_call1 (f:=123) rfl rfl (c1) rfl rfl rfl ?_);simp)
 |(refine Split.by2 (fun h=>?_) (fun h=>?_)<;>(simp [h]))
 |(apply hK;clear hK K)|refine AWh (by assumption) ?_)
      exact retq1 (conv_eq rfl rfl)
    · repeat' (first
 |refine AW_seq_k fun K hK=>?_|refine Step.by1 ?_|refine SBlock_exit_ne (by decide) ?_|refine cz rfl ?_|refine Fork.by2 (fun h=>?_) fun h=>?_
 |((first|refine AW_region_AO ?_|refine AS_call1 (f:=122) rfl rfl (hc) rfl rfl rfl ?_|refine AS_call1 (f:=123) rfl rfl (c1) rfl rfl rfl ?_|refine AS_call1 (f:=123) rfl rfl (c2) rfl rfl rfl ?_);simp)
 |(refine Split.by2 (fun h=>?_) (fun h=>?_)<;>(simp [h]))
 |(apply hK;clear hK K)|refine AWh (by assumption) ?_)
      exact retq1 (conv_eq rfl rfl)
end Go.Proofs.YtgmlimipejcpgaaGreatDoor
end

section
set_option linter.unusedVariables false
set_option linter.unusedSimpArgs false
namespace Go.Proofs.YtgmlimipejcpgaaGreatDoor
open Go Go.AM Fx
end Go.Proofs.YtgmlimipejcpgaaGreatDoor
end

section
set_option linter.unusedVariables false
set_option linter.unusedSimpArgs false
namespace Go.AM
end Go.AM
end

section
set_option linter.unusedVariables false
set_option linter.unusedSimpArgs false
namespace Go.Proofs.YtgmlimipejcpgaaGreatDoor
open Go Go.AM Fx
end Go.Proofs.YtgmlimipejcpgaaGreatDoor
end

section
set_option linter.unusedVariables false
set_option linter.unusedSimpArgs false
namespace Go.Proofs.YtgmlimipejcpgaaGreatDoor
open Go Go.AM Fx
theorem net_small : netE smallN = 0 := by kernel_rfl
end Go.Proofs.YtgmlimipejcpgaaGreatDoor
end

section
set_option linter.unusedVariables false
set_option linter.unusedSimpArgs false
namespace Go.Proofs.YtgmlimipejcpgaaGreatDoor
open Go Go.AM Fx
def smallA : AutoD := smallN.autos.getD 0 default
theorem look_small : lookE smallN [] = 0 := by simp [lookE, net_small, lookF]
theorem act_small0 : actB smallA [] 1 0 = true := by
  simp only [actB, decide_eq_true_eq]
  exact .use (by decide) (by kernel_rfl)
theorem act_small1 : actB smallA [] 1 1 = false := by
  simp only [actB, decide_eq_false_iff_not]
  intro h
  generalize hi : 1 = i at h
  cases h with
  | use hi2 h => subst hi; revert h; decide
  | @edge e he _ _ =>
    simp [smallA, smallN] at he
    subst he
    simp at hi
theorem clks_small0 : clksL smallN 0 0 [] = [1] ∧ clksE smallN 0 0 [] = 0 := by
  have h : ¬ badLoc smallN 0 0 := by unfold badLoc; decide
  have ha := act_small0
  refine ⟨?_, by simp [clksE, look_small, h]⟩
  simp only [clksL, look_small, h, if_false, ne_eq, not_true_eq_false]
  show actL smallA [] 0 (0 + 1) = [1]
  rw [actL_succ, if_pos (by simpa using ha)]; rfl
theorem clks_small1 : clksL smallN 0 1 [] = [] ∧ clksE smallN 0 1 [] = 0 := by
  have h : ¬ badLoc smallN 0 1 := by unfold badLoc; decide
  have ha := act_small1
  refine ⟨?_, by simp [clksE, look_small, h]⟩
  simp only [clksL, look_small, h, if_false, ne_eq, not_true_eq_false]
  show actL smallA [] 1 (0 + 1) = []
  rw [actL_succ, if_neg (by simpa using ha)]; rfl
end Go.Proofs.YtgmlimipejcpgaaGreatDoor
end

section
set_option linter.unusedVariables false
set_option linter.unusedSimpArgs false
namespace Go.Proofs.YtgmlimipejcpgaaGreatDoor
open Go Go.AM Fx
theorem smallA_E : okE smallA := by
  intro e he
  simp [smallA, smallN] at he
  subst he
  simp [smallA, smallN]
theorem luM_small (so : Int → Bool) : luM smallA 1 (luB smallA 1 so []) = (List.range 2).map (luBase smallA 1 so []) := by
  refine (IsLu.luM smallA_E ⟨L3.ls ⟨by simp [smallA, smallN], fun i hi => ?_⟩, fun e he c hc u v hu hs hv => ?_⟩).symm
  · have hi2 : i < 2 := hi
    simp [hi2, luBase]
  · exfalso
    simp [smallA, smallN] at he
    subst he
    have : c = 0 := by omega
    subst this
    revert hs; decide
theorem base_smallL : (List.range 2).map (luBase smallA 1 lowB []) = [[3], [-1]] := by kernel_rfl
theorem base_smallU : (List.range 2).map (luBase smallA 1 upB []) = [[5], [-1]] := by kernel_rfl
theorem luP_smallL : luP smallN lowB [] = [[[3], [-1]]] := by
  have : luP smallN lowB [] = [luM smallA 1 (luB smallA 1 lowB [])] := rfl
  rw [this, luM_small, base_smallL]
theorem luP_smallU : luP smallN upB [] = [[[5], [-1]]] := by
  have : luP smallN upB [] = [luM smallA 1 (luB smallA 1 upB [])] := rfl
  rw [this, luM_small, base_smallU]
theorem luAt_small0 (so : Int → Bool) : luAtL smallN so 0 0 [] = (luM smallA 1 (luB smallA 1 so [])).getD 0 [] := by
  have h : ¬ badLoc smallN 0 0 := by unfold badLoc; decide
  unfold luAtL
  rw [if_neg (by simp [look_small]), if_neg h]; rfl
theorem luAt_small1 (so : Int → Bool) : luAtL smallN so 0 1 [] = (luM smallA 1 (luB smallA 1 so [])).getD 1 [] := by
  have h : ¬ badLoc smallN 0 1 := by unfold badLoc; decide
  unfold luAtL
  rw [if_neg (by simp [look_small]), if_neg h]; rfl
theorem luAt_s0L : luAtL smallN lowB 0 0 [] = [3] := by rw [luAt_small0, luM_small, base_smallL]; rfl
theorem luAt_s0U : luAtL smallN upB 0 0 [] = [5] := by rw [luAt_small0, luM_small, base_smallU]; rfl
theorem luAt_s1L : luAtL smallN lowB 0 1 [] = [-1] := by rw [luAt_small1, luM_small, base_smallL]; rfl
theorem luAt_s1U : luAtL smallN upB 0 1 [] = [-1] := by rw [luAt_small1, luM_small, base_smallU]; rfl
theorem luP_ok {n : NetD} (hn : n.ok) {so : Int → Bool} {gs : List (List PartD)} : planOk (luP n so gs) := by
  refine ⟨by simp [luP]; exact hn.2.2.2.1, fun Q hQ => ?_⟩
  obtain ⟨a, ha, rfl⟩ := List.mem_map.1 hQ
  have hl := (hn.2.2.2.2 a ha).2.1.1
  refine ⟨by rw [luM_len]; omega, fun r hr => ?_⟩
  obtain ⟨i, hi⟩ := List.getElem?_of_mem hr
  rw [(luM_ok (a := a) (N := n.clocks.length) (so := so) (gs := gs)).s.row i r hi]
  have := hn.1.1; omega
theorem c_luPlanF (n : NetD) (hn : n.ok) (gs : List (List PartD)) (hgl : gs.length ≤ 1048576) (hgs : ∀ g ∈ gs, okGoal g) (he : lookE n gs = 0) :
    PC 38 [.agg n.cells, gsV gs] (.tup [.agg [halfV (luP n lowB gs), halfV (luP n upB gs)], .int .i64 0]) :=
  PCall_of_GCall (c_luPlan n hn gs hgl hgs he (h := []) (by simp [HL])) fun v h' ⟨b1, g1, f1, T1, b2, g2, f2, T2, hv, hO, p1, p2, _⟩ => .inl ⟨5, by
    rw [hv]
    show _ = V.tup [V.agg [Go.AM.frz h' 3 (.ref b1 g1 0 T1.length), Go.AM.frz h' 3 (.ref b2 g2 0 T2.length)], Go.AM.frz h' 4 (.int .i64 0)]
    rw [p1.frz, p2.frz]
    rfl, rfl⟩
set_option maxRecDepth 20000 in
set_option maxHeartbeats 4000000 in
theorem c_small26 : PC 108 [] (.agg smallN.cells) := by
  have h : PC 108 [] (.agg [.vec [[.str ⟨#[120]⟩]] 1, .nils, .nils, .vec [[.str ⟨#[65]⟩, .vec [[.str ⟨#[97]⟩, .int .u8 0, .vec [[.int .i64 1, .int .i64 0, .int .u8 2, .int .i64 5]] 1], [.str ⟨#[98]⟩, .int .u8 0, .nils]] 2, .vec [[.int .i64 0, .int .i64 1, .vec [[.int .i64 1, .int .i64 0, .int .u8 4, .int .i64 3]] 1, .nils, .int .i64 0, .bool false, .vec [[.int .i64 1, .int .i64 0, .int .i64 0, .nils]] 1]] 1]] 1]) := by
    refine PCall_body Tryz.func108 rfl (by decide) Tryz.ntmps108 (by simp) Tryz.results108 ?_
    repeat' (first
 |(refine AW_region_AOL (id := 1) ?_;simp)
 |refine AW_seq_k fun K hK=>?_|refine Step.by1 ?_|refine SBlock_exit_ne (by decide) ?_|refine cz rfl ?_|refine Fork.by2 (fun h=>?_) fun h=>?_
 |(refine AW_region_AO ?_;simp)
 |(refine Split.by2 (fun h=>?_) (fun h=>?_)<;>(simp [h]))
 |(apply hK;clear hK K)|refine AWh (by assumption) ?_)
    exact retqc rfl (by simp) (conv_eq (by simp) (by simp))
  exact h.dnr rfl rfl (fun _ _ h => by cases h) (fun _ h => by cases h)
theorem right_small1 : rightPE smallN [[[3], [-1]]] [[[5], [-1]]] = true := by kernel_rfl
theorem right_small0 : rightPE smallN [] [] = false := by kernel_rfl
set_option maxRecDepth 20000 in
set_option maxHeartbeats 4000000 in
theorem c_live26 : PC 40 [] (.bool true) := by
  have h0 := c_small26
  have h1 := c_luAt smallN small_ok 0 0 [] (by simp) (by simp)
  have h2 := c_luAt smallN small_ok 0 1 [] (by simp) (by simp)
  have h3 := c_luPlanF smallN small_ok [] (by simp) (by simp) look_small
  have h4 := c_luRight smallN small_ok [[[3], [-1]]] [[[5], [-1]]] (by simp [planOk]) (by simp [planOk])
  have h5 := c_luRight smallN small_ok [] [] (by simp [planOk]) (by simp [planOk])
  rw [luAt_s0L, luAt_s0U, clks_small0.2] at h1
  rw [luAt_s1L, luAt_s1U, clks_small1.2] at h2
  rw [luP_smallL, luP_smallU] at h3
  rw [right_small1] at h4
  rw [right_small0] at h5
  have h1' := PCall.denil (args := [.agg smallN.cells, .int .i64 0, .int .i64 0, .nils]) h1 rfl
  have h2' := PCall.denil (args := [.agg smallN.cells, .int .i64 0, .int .i64 1, .nils]) h2 rfl
  have h3' := PCall.denil (args := [.agg smallN.cells, .nils]) h3 rfl
  have h5' := PCall.dn (args := [.agg smallN.cells, .agg [.nils, .nils]]) h5 rfl
  have s3 := c_SameInts [3] (by simp)
  have s5 := c_SameInts [5] (by simp)
  have s1 := c_SameInts [-1] (by simp)
  clear h1 h2 h3 h5
  have hcs : smallN.cells = [.vec [[.str ⟨#[120]⟩]] 1, .vec [] 0, .vec [] 0, .vec [[.str ⟨#[65]⟩, .vec [[.str ⟨#[97]⟩, .int .u8 0, .vec [[.int .i64 1, .int .i64 0, .int .u8 2, .int .i64 5]] 1], [.str ⟨#[98]⟩, .int .u8 0, .vec [] 0]] 2, .vec [[.int .i64 0, .int .i64 1, .vec [[.int .i64 1, .int .i64 0, .int .u8 4, .int .i64 3]] 1, .vec [] 0, .int .i64 0, .bool false, .vec [[.int .i64 1, .int .i64 0, .int .i64 0, .vec [] 0]] 1]] 1]] 1] := rfl
  simp only [halfV, rows3V, rows2V, ivs, isV, List.map_cons, List.map_nil, List.length_cons, List.length_nil, Nat.zero_add] at h1' h2' h3' h4 s3 s5 s1
  rw [hcs] at h0 h1' h2' h3' h4 h5'
  refine PCall_body Tryz.func40 rfl (by decide) Tryz.ntmps40 (by simp) Tryz.results40 ?_
  repeat' (first
 |refine AW_seq_k fun K hK=>?_|refine Step.by1 ?_|refine SBlock_exit_ne (by decide) ?_|refine cz rfl ?_|refine Fork.by2 (fun h=>?_) fun h=>?_
 |((first|refine AW_region_AO ?_|refine AW_region_APx (id:=4) 42 mixed (by decide) ?_|refine AS_call1 (f:=108) rfl rfl (h0) rfl rfl rfl ?_|refine AP_call1 (f:=108) rfl rfl (h0) rfl rfl rfl ?_|refine AS_callT (f:=36) rfl rfl (h1') rfl rfl ?_|refine AS_callT (f:=36) rfl rfl (h2') rfl rfl ?_|refine AS_call1 (f:=38) rfl rfl (h3') rfl rfl rfl ?_|refine AP_call1 (f:=50) rfl rfl (h4) rfl rfl rfl ?_|refine AP_call1 (f:=50) rfl rfl (h5') rfl rfl rfl ?_);simp)
 |(refine Split.by2 (fun h=>?_) (fun h=>?_)<;>(simp [h]))
 |(refine AP_lit rfl (by simp) ?_;simp)
 |(refine AP_scall (f:=26) rfl ?_ (s3) rfl rfl rfl ?_;(focus (first|rfl|(simp [seenV];done)));simp)
 |(refine AP_scall (f:=26) rfl ?_ (s5) rfl rfl rfl ?_;(focus (first|rfl|(simp [seenV];done)));simp)
 |(refine AP_scall (f:=26) rfl ?_ (s1) rfl rfl rfl ?_;(focus (first|rfl|(simp [seenV];done)));simp)
 |(apply hK;clear hK K)|refine AWh (by assumption) ?_)
  exact retq1 (conv_eq rfl rfl)
end Go.Proofs.YtgmlimipejcpgaaGreatDoor
end

section
set_option linter.unusedVariables false
set_option linter.unusedSimpArgs false
namespace Go.Proofs.YtgmlimipejcpgaaGreatDoor
open Go Go.AM Fx
section
variable {n : NetD} {gs : List (List PartD)}
theorem bigM_hi {so : Int → Bool} (he : lookE n gs = 0) {c : Nat} (hc : c < n.clocks.length) : (bigM n so gs).getD c 0 ≤ 1048576 := by
  have hok := all_ok he
  obtain ⟨h1, h2, h3⟩ := raiseL_val (so := so) (i := c) (l := guardsL n ++ gsG gs) (o := List.replicate n.clocks.length (-1)) (by simpa using hc) fun g hg => (hok g hg).c1
  rw [rep_getD hc] at h3
  show (raiseL so (guardsL n ++ gsG gs) (List.replicate n.clocks.length (-1))).getD c 0 ≤ 1048576
  rcases h3 with h3 | ⟨g, hg, _, _, hv⟩
  · omega
  · rw [hv]; exact (hok g hg).n2
theorem planP_right (he : lookE n gs = 0) : halfOk n (planP n gs (bigM n (fun _ => true) gs)) = true := by
  refine half_ok_iff.2 ⟨by simp [planP], fun i a Q ha hQ => ?_⟩
  have hQ' : Q = planA gs (bigM n (fun _ => true) gs) a := by simp [planP, ha] at hQ; exact hQ.symm
  subst hQ'
  refine ⟨by simp [planA], fun k r hr => ?_⟩
  have hk : k < a.locs.length := by have := (List.getElem?_eq_some_iff.1 hr).1; simpa [planA] using this
  have hr' : r = planRow a gs (bigM n (fun _ => true) gs) k := by simp [planA, hk] at hr; exact hr.symm
  subst hr'
  refine ⟨by simp [planRow, bigM_len], fun m hm => ?_⟩
  unfold planRow at hm
  obtain ⟨c, hc, hv⟩ := List.mem_map.1 hm
  rw [List.mem_range, bigM_len] at hc
  have h1 := (bigM_val (so := fun _ => true) he hc).2
  have h2 := bigM_hi (so := fun _ => true) he hc
  split at hv <;> omega
theorem planP_ok (hn : n.ok) {M : List Int} (hM : M.length = n.clocks.length) : planOk (planP n gs M) := by
  refine ⟨by simp [planP]; exact hn.2.2.2.1, fun Q hQ => ?_⟩
  obtain ⟨a, ha, rfl⟩ := List.mem_map.1 hQ
  have hl := (hn.2.2.2.2 a ha).2.1.1
  refine ⟨by simp [planA]; omega, fun r hr => ?_⟩
  obtain ⟨k, _, rfl⟩ := List.mem_map.1 hr
  have := hn.1.1
  simp [planRow, hM]; omega
/-- What stands at a place of the three plans. -/
theorem below_at (he : lookE n gs = 0) {a : AutoD} (ha : a ∈ n.autos) {k : Nat} (hk : k < a.locs.length) :
    ∃ r1 r2 ra, (luM a n.clocks.length (luB a n.clocks.length lowB gs))[k]? = some r1 ∧ (luM a n.clocks.length (luB a n.clocks.length upB gs))[k]? = some r2 ∧ (planA gs (bigM n (fun _ => true) gs) a)[k]? = some ra ∧
      r1.length = n.clocks.length ∧ r2.length = n.clocks.length ∧ ra.length = n.clocks.length ∧
      ∀ c, c < n.clocks.length → ∃ v w x l u, r1[c]? = some v ∧ r2[c]? = some w ∧ ra[c]? = some x ∧ (bigM n lowB gs)[c]? = some l ∧ (bigM n upB gs)[c]? = some u ∧ v ≤ l ∧ w ≤ u ∧ (x < 0 ↔ v < 0 ∧ w < 0) := by
  have q1 := luM_ok (a := a) (N := n.clocks.length) (so := lowB) (gs := gs)
  have q2 := luM_ok (a := a) (N := n.clocks.length) (so := upB) (gs := gs)
  have h1 := List.getElem?_eq_getElem (l := luM a n.clocks.length (luB a n.clocks.length lowB gs)) (i := k) (by rw [q1.s.len]; exact hk)
  have h2 := List.getElem?_eq_getElem (l := luM a n.clocks.length (luB a n.clocks.length upB gs)) (i := k) (by rw [q2.s.len]; exact hk)
  refine ⟨_, _, planRow a gs (bigM n (fun _ => true) gs) k, h1, h2, by simp [planA, hk], q1.s.row _ _ h1, q2.s.row _ _ h2, by simp [planRow, bigM_len], fun c hc => ?_⟩
  obtain ⟨v, hv, ⟨j1, _, hv2⟩, _⟩ := luM_val (so := lowB) he ha hk hc
  obtain ⟨w, hw, ⟨j2, _, hw2⟩, _⟩ := luM_val (so := upB) he ha hk hc
  have hact := act_iff he ha hk hc hv hw
  have hnum := fun h => act_num he ha (i := k) hc h
  have g1 : ∀ (so : Int → Bool), (bigM n so gs)[c]? = some ((bigM n so gs).getD c 0) := fun so => by
    have : c < (bigM n so gs).length := by rw [bigM_len]; exact hc
    simp [List.getD, this]
  refine ⟨v, w, if actB a gs ((c : Int) + 1) k = true then (bigM n (fun _ => true) gs).getD c 0 else -1, _, _, ?_, ?_, ?_, g1 lowB, g1 upB, by rw [hv2]; exact luB_le he ha hc, by rw [hw2]; exact luB_le he ha hc, ?_⟩
  · have := hv; unfold nget at this; rw [h1] at this; exact this
  · have := hw; unfold nget at this; rw [h2] at this; exact this
  · simp [planRow, bigM_len, hc]
  · by_cases hb : actB a gs ((c : Int) + 1) k = true
    · rw [if_pos hb]
      have h3 := hact.1 hb
      have h4 := hnum hb
      constructor
      · intro h; omega
      · intro h; exact absurd h h3
    · rw [if_neg hb]
      have : v < 0 ∧ w < 0 := Classical.byContradiction fun h => hb (hact.2 h)
      simp [this]
end
set_option maxRecDepth 40000 in
set_option maxHeartbeats 16000000 in
theorem c_LuBelow (n : NetD) (hn : n.ok) (gs : List (List PartD)) (hg : okGoals gs) : PC 10 [.agg n.cells, gsV gs] (.bool true) := by
  have h3 := c_live26
  by_cases he : lookE n gs = 0
  · have h1 := c_luPlanF n hn gs hg.1 hg.2 he
    have h2 := c_PlanF n hn gs hg.1 hg.2 he (bigM n (fun _ => true) gs) (numb_eq he)
    have h4 := c_Lower n hn gs hg.1 hg.2
    have h5 := c_Upper n hn gs hg.1 hg.2
    have e4 : numbE n lowB gs = some (bigM n lowB gs) := numb_eq he
    have e5 : numbE n upB gs = some (bigM n upB gs) := numb_eq he
    rw [e4] at h4
    rw [e5] at h5
    have h4 : PC 23 [.agg n.cells, gsV gs] (.vec (ivs (bigM n lowB gs)) (ivs (bigM n lowB gs)).length) := PCall.freeze h4
    have h5 : PC 24 [.agg n.cells, gsV gs] (.vec (ivs (bigM n upB gs)) (ivs (bigM n upB gs)).length) := PCall.freeze h5
    have hw := netE_whole (look_ok he).1
    have ok1 := luP_ok hn (so := lowB) (gs := gs)
    have ok2 := luP_ok hn (so := upB) (gs := gs)
    have ok3 := planP_ok hn (gs := gs) (bigM_len (n := n) (gs := gs) (so := fun _ => true))
    have r1 := r_Right26 n hn _ _ ok1 ok2
    have r2 := r_Right26 n hn _ _ ok3 ok3
    have r3 := c_luRight n hn _ _ ok1 ok2
    have t1 : rightPE n (luP n lowB gs) (luP n upB gs) = true := by unfold rightPE; rw [luP_right he, luP_right he]; simp [hw]
    have t2 : rightPE n (planP n gs (bigM n (fun _ => true) gs)) (planP n gs (bigM n (fun _ => true) gs)) = true := by unfold rightPE; rw [planP_right he]; simp [hw]
    rw [t1] at r1 r3
    rw [t2] at r2
    have hat := fun a (ha : a ∈ n.autos) k (hk : k < a.locs.length) => below_at he ha hk
    have p1 : ∀ i (hi : i < n.autos.length), (luP n lowB gs)[i]? = some (luM n.autos[i] n.clocks.length (luB n.autos[i] n.clocks.length lowB gs)) := fun i hi => luP_get hi
    have p2 : ∀ i (hi : i < n.autos.length), (luP n upB gs)[i]? = some (luM n.autos[i] n.clocks.length (luB n.autos[i] n.clocks.length upB gs)) := fun i hi => luP_get hi
    have p3 : ∀ i (hi : i < n.autos.length), (planP n gs (bigM n (fun _ => true) gs))[i]? = some (planA gs (bigM n (fun _ => true) gs) n.autos[i]) := fun i hi => by simp [planP, hi]
    have l1 : (luP n lowB gs).length = n.autos.length := by simp [luP]
    have l2 : (luP n upB gs).length = n.autos.length := by simp [luP]
    have l3 : (planP n gs (bigM n (fun _ => true) gs)).length = n.autos.length := by simp [planP]
    have m1 : ∀ a : AutoD, (luM a n.clocks.length (luB a n.clocks.length lowB gs)).length = a.locs.length := fun a => luM_len
    have m2 : ∀ a : AutoD, (luM a n.clocks.length (luB a n.clocks.length upB gs)).length = a.locs.length := fun a => luM_len
    have m3 : ∀ a : AutoD, (planA gs (bigM n (fun _ => true) gs) a).length = a.locs.length := fun a => by simp [planA]
    have bl : (bigM n lowB gs).length = n.clocks.length := bigM_len
    have bu : (bigM n upB gs).length = n.clocks.length := bigM_len
    have hnl := hn.1.1
    have hal := hn.2.2.2.1
    have hbl : ∀ a ∈ n.autos, a.locs.length ≤ 1048576 := fun a ha => by have := (hn.2.2.2.2 a ha).2.1.1; omega
    generalize bigM n lowB gs = LO at *
    generalize bigM n upB gs = UP at *
    have il : (ivs LO).length = n.clocks.length := by rw [ivs_len, bl]
    have iu : (ivs UP).length = n.clocks.length := by rw [ivs_len, bu]
    rw [il] at h4
    rw [iu] at h5
    generalize luP n lowB gs = P1 at *
    generalize luP n upB gs = P2 at *
    generalize planP n gs (bigM n (fun _ => true) gs) = P3 at *
    have c1 : (rows3V P1).length = n.autos.length := by simp [l1]
    have c2 : (rows3V P2).length = n.autos.length := by simp [l2]
    have c3 : (rows3V P3).length = n.autos.length := by simp [l3]
    simp only [halfV, l1, l2, l3] at h1 h2 r1 r2 r3
    simp only [NetD.cells, vl, gsV] at h1 h2 h4 h5 r1 r2 r3 ⊢
    refine PCall_body Tryz.func10 rfl (by decide) Tryz.ntmps10 (by simp) Tryz.results10 ?_
    repeat' (first
 |refine AW_seq_k fun K hK=>?_|refine Step.by1 ?_|refine SBlock_exit_ne (by decide) ?_|refine cz rfl ?_|refine Fork.by2 (fun h=>?_) fun h=>?_
 |((first|refine AW_region_AO ?_|refine AS_call1 (f:=38) rfl rfl (h1) rfl rfl rfl ?_|refine AS_call1 (f:=43) rfl rfl (h2) rfl rfl rfl ?_|refine AS_call1 (f:=40) rfl rfl (h3) rfl rfl rfl ?_|refine AS_call1 (f:=23) rfl rfl (h4) rfl rfl rfl ?_|refine AS_call1 (f:=24) rfl rfl (h5) rfl rfl rfl ?_|refine AS_call1 (f:=51) rfl rfl (r1) rfl rfl rfl ?_|refine AS_call1 (f:=51) rfl rfl (r2) rfl rfl rfl ?_);simp [il, iu])
 |(refine Split.by2 (fun h=>?_) (fun h=>?_)<;>(simp [h, il, iu]))
 |(apply hK;clear hK K)|refine AWh (by assumption) ?_)
    refine AW_loopL [2, 5, 7, 9, 10] (fun i : Nat => [(11, .int .i64 i)]) (fun _ => [.var n.cells, .var [.vec (rows3V P1) n.autos.length, .vec (rows3V P2) n.autos.length], .var [.vec (rows3V P3) n.autos.length, .vec (rows3V P3) n.autos.length]]) (fun i => i ≤ n.autos.length) (fun i => n.autos.length - i) 0 (Nat.zero_le _) (by apply Weak.mk' <;> simp [NetD.cells, vl]) (fun _ _ => rfl) ?_
    intro i hi
    by_cases hlt : i < n.autos.length
    · obtain ⟨a, haa⟩ : ∃ a, n.autos[i] = a := ⟨_, rfl⟩
      have ham : a ∈ n.autos := haa ▸ List.getElem_mem hlt
      have hlt' : (i : Int) < n.autos.length := by omega
      have w1 : IntKind.i64.wrap ((i : Int) + 1) = i + 1 := wrap_i64 (by omega) (by omega)
      have q1 := p1 i hlt
      have q2 := p2 i hlt
      have q3 := p3 i hlt
      rw [haa] at q1 q2 q3
      have m1a := m1 a
      have m2a := m2 a
      have m3a := m3 a
      have hata := hat a ham
      have hbla := hbl a ham
      clear hat p1 p2 p3 m1 m2 m3 hbl
      generalize luM a n.clocks.length (luB a n.clocks.length lowB gs) = Q1 at *
      generalize luM a n.clocks.length (luB a n.clocks.length upB gs) = Q2 at *
      generalize planA gs (bigM n (fun _ => true) gs) a = Q3 at *
      have d1 := rows3V_get q1
      have d1' : (rows3V P1)[i]'(by omega) = [V.vec (rows2V Q1) Q1.length] := by have hz := d1; rw [List.getElem?_eq_getElem (by omega)] at hz; exact Option.some.inj hz
      have d2 := rows3V_get q2
      have d2' : (rows3V P2)[i]'(by omega) = [V.vec (rows2V Q2) Q2.length] := by have hz := d2; rw [List.getElem?_eq_getElem (by omega)] at hz; exact Option.some.inj hz
      have d3 := rows3V_get q3
      have d3' : (rows3V P3)[i]'(by omega) = [V.vec (rows2V Q3) Q3.length] := by have hz := d3; rw [List.getElem?_eq_getElem (by omega)] at hz; exact Option.some.inj hz
      rw [m1a] at d1 d1'
      rw [m2a] at d2 d2'
      rw [m3a] at d3 d3'
      have e1 : (rows2V Q1).length = a.locs.length := by simp [m1a]
      have e2 : (rows2V Q2).length = a.locs.length := by simp [m2a]
      have e3 : (rows2V Q3).length = a.locs.length := by simp [m3a]
      repeat' (first
 |refine AW_seq_k fun K hK=>?_|refine Step.by1 ?_|refine SBlock_exit_ne (by decide) ?_|refine cz rfl ?_|refine Fork.by2 (fun h=>?_) fun h=>?_
 |(refine AW_region_AO ?_;simp [NetD.cells, vl, il, iu, c1, c2, c3, hlt, hlt', d1, d2, d3, d1', d2', d3', e1, e2, e3])
 |(refine Split.by2 (fun h=>?_) (fun h=>?_)<;>(simp [h, NetD.cells, vl, il, iu, c1, c2, c3, hlt, hlt', d1, d2, d3, d1', d2', d3', e1, e2, e3]))
 |(apply hK;clear hK K)|refine AWh (by assumption) ?_)
      refine AW_loopL [2, 5, 7, 9, 10, 11] (fun k : Nat => [(12, .int .i64 k)]) (fun _ => [.var n.cells, .var [.vec (rows3V P1) n.autos.length, .vec (rows3V P2) n.autos.length], .var [.vec (rows3V P3) n.autos.length, .vec (rows3V P3) n.autos.length]]) (fun k => k ≤ a.locs.length) (fun k => a.locs.length - k) 0 (Nat.zero_le _) (by apply Weak.mk' <;> simp [NetD.cells, vl]) (fun _ _ => rfl) ?_
      intro k hk
      by_cases hlk : k < a.locs.length
      · obtain ⟨r1', r2', r3', y1, y2, y3, n1, n2, n3, hc⟩ := hata k hlk
        have hlk' : (k : Int) < a.locs.length := by omega
        have w2 : IntKind.i64.wrap ((k : Int) + 1) = k + 1 := wrap_i64 (by omega) (by omega)
        have f1 := rows2V_get y1
        have f1' : (rows2V Q1)[k]'(by omega) = [V.vec (ivs r1') r1'.length] := by have hz := f1; rw [List.getElem?_eq_getElem (by omega)] at hz; exact Option.some.inj hz
        have f2 := rows2V_get y2
        have f2' : (rows2V Q2)[k]'(by omega) = [V.vec (ivs r2') r2'.length] := by have hz := f2; rw [List.getElem?_eq_getElem (by omega)] at hz; exact Option.some.inj hz
        have f3 := rows2V_get y3
        have f3' : (rows2V Q3)[k]'(by omega) = [V.vec (ivs r3') r3'.length] := by have hz := f3; rw [List.getElem?_eq_getElem (by omega)] at hz; exact Option.some.inj hz
        rw [n1] at f1 f1'
        rw [n2] at f2 f2'
        rw [n3] at f3 f3'
        have g1 : (ivs r1').length = n.clocks.length := by rw [ivs_len, n1]
        have g2 : (ivs r2').length = n.clocks.length := by rw [ivs_len, n2]
        have g3 : (ivs r3').length = n.clocks.length := by rw [ivs_len, n3]
        repeat' (first
 |refine AW_seq_k fun K hK=>?_|refine Step.by1 ?_|refine SBlock_exit_ne (by decide) ?_|refine cz rfl ?_|refine Fork.by2 (fun h=>?_) fun h=>?_
 |(refine AW_region_AO ?_;simp [NetD.cells, vl, il, iu, c1, c2, c3, hlt, hlt', d1, d2, d3, d1', d2', d3', e1, e2, e3, hlk, hlk', f1, f2, f3, f1', f2', f3', g1, g2, g3])
 |(refine Split.by2 (fun h=>?_) (fun h=>?_)<;>(simp [h, NetD.cells, vl, il, iu, c1, c2, c3, hlt, hlt', d1, d2, d3, d1', d2', d3', e1, e2, e3, hlk, hlk', f1, f2, f3, f1', f2', f3', g1, g2, g3]))
 |(apply hK;clear hK K)|refine AWh (by assumption) ?_)
        refine AW_loopL [2, 5, 7, 9, 10, 11, 12] (fun c : Nat => [(13, .int .i64 c)]) (fun _ => [.var n.cells, .var [.vec (rows3V P1) n.autos.length, .vec (rows3V P2) n.autos.length], .var [.vec (rows3V P3) n.autos.length, .vec (rows3V P3) n.autos.length]]) (fun c => c ≤ n.clocks.length) (fun c => n.clocks.length - c) 0 (Nat.zero_le _) (by apply Weak.mk' <;> simp [NetD.cells, vl]) (fun _ _ => rfl) ?_
        intro c hcN
        by_cases hlc : c < n.clocks.length
        · obtain ⟨v, w, x, l, u, s1, s2, s3, s4, s5, le1, le2, hiff⟩ := hc c hlc
          have hlc' : (c : Int) < n.clocks.length := by omega
          have w3 : IntKind.i64.wrap ((c : Int) + 1) = c + 1 := wrap_i64 (by omega) (by omega)
          have t1 := ivs_get s1
          have t1' : (ivs r1')[c]'(by omega) = [V.int .i64 v] := by have hz := t1; rw [List.getElem?_eq_getElem (by omega)] at hz; exact Option.some.inj hz
          have t2 := ivs_get s2
          have t2' : (ivs r2')[c]'(by omega) = [V.int .i64 w] := by have hz := t2; rw [List.getElem?_eq_getElem (by omega)] at hz; exact Option.some.inj hz
          have t3 := ivs_get s3
          have t3' : (ivs r3')[c]'(by omega) = [V.int .i64 x] := by have hz := t3; rw [List.getElem?_eq_getElem (by omega)] at hz; exact Option.some.inj hz
          have t4 := ivs_get s4
          have t4' : (ivs LO)[c]'(by omega) = [V.int .i64 l] := by have hz := t4; rw [List.getElem?_eq_getElem (by omega)] at hz; exact Option.some.inj hz
          have t5 := ivs_get s5
          have t5' : (ivs UP)[c]'(by omega) = [V.int .i64 u] := by have hz := t5; rw [List.getElem?_eq_getElem (by omega)] at hz; exact Option.some.inj hz
          have k1 : ¬ l < v := by omega
          have k2 : ¬ u < w := by omega
          by_cases hv0 : v < 0
          · by_cases hw0 : w < 0
            · have hx0 : x < 0 := hiff.2 ⟨hv0, hw0⟩
              repeat' (first
 |refine AW_seq_k fun K hK=>?_|refine Step.by1 ?_|refine SBlock_exit_ne (by decide) ?_|refine cz rfl ?_|refine Fork.by2 (fun h=>?_) fun h=>?_
 |((first|refine AW_region_AO ?_|refine AW_region_APx (id:=20) 75 mixed (by decide) ?_);simp [NetD.cells, vl, il, iu, c1, c2, c3, hlt, hlt', d1, d2, d3, d1', d2', d3', e1, e2, e3, hlk, hlk', f1, f2, f3, f1', f2', f3', g1, g2, g3, hlc, hlc', t1, t2, t3, t4, t5, t1', t2', t3', t4', t5', k1, k2, w3, hv0, hw0, hx0])
 |(refine Split.by2 (fun h=>?_) (fun h=>?_)<;>(simp [h, NetD.cells, vl, il, iu, c1, c2, c3, hlt, hlt', d1, d2, d3, d1', d2', d3', e1, e2, e3, hlk, hlk', f1, f2, f3, f1', f2', f3', g1, g2, g3, hlc, hlc', t1, t2, t3, t4, t5, t1', t2', t3', t4', t5', k1, k2, w3, hv0, hw0, hx0]))
 |(apply hK;clear hK K)|refine AWh (by assumption) ?_)
              refine ⟨c + 1, by omega, by omega, ?_⟩
              apply Weak.mk' <;> simp [NetD.cells, vl]
            · have hx0 : ¬ x < 0 := fun h => hw0 (hiff.1 h).2
              repeat' (first
 |refine AW_seq_k fun K hK=>?_|refine Step.by1 ?_|refine SBlock_exit_ne (by decide) ?_|refine cz rfl ?_|refine Fork.by2 (fun h=>?_) fun h=>?_
 |((first|refine AW_region_AO ?_|refine AW_region_APx (id:=20) 75 mixed (by decide) ?_);simp [NetD.cells, vl, il, iu, c1, c2, c3, hlt, hlt', d1, d2, d3, d1', d2', d3', e1, e2, e3, hlk, hlk', f1, f2, f3, f1', f2', f3', g1, g2, g3, hlc, hlc', t1, t2, t3, t4, t5, t1', t2', t3', t4', t5', k1, k2, w3, hv0, hw0, hx0])
 |(refine Split.by2 (fun h=>?_) (fun h=>?_)<;>(simp [h, NetD.cells, vl, il, iu, c1, c2, c3, hlt, hlt', d1, d2, d3, d1', d2', d3', e1, e2, e3, hlk, hlk', f1, f2, f3, f1', f2', f3', g1, g2, g3, hlc, hlc', t1, t2, t3, t4, t5, t1', t2', t3', t4', t5', k1, k2, w3, hv0, hw0, hx0]))
 |(apply hK;clear hK K)|refine AWh (by assumption) ?_)
              refine ⟨c + 1, by omega, by omega, ?_⟩
              apply Weak.mk' <;> simp [NetD.cells, vl]
          · have hx0 : ¬ x < 0 := fun h => hv0 (hiff.1 h).1
            repeat' (first
 |refine AW_seq_k fun K hK=>?_|refine Step.by1 ?_|refine SBlock_exit_ne (by decide) ?_|refine cz rfl ?_|refine Fork.by2 (fun h=>?_) fun h=>?_
 |((first|refine AW_region_AO ?_|refine AW_region_APx (id:=20) 75 mixed (by decide) ?_);simp [NetD.cells, vl, il, iu, c1, c2, c3, hlt, hlt', d1, d2, d3, d1', d2', d3', e1, e2, e3, hlk, hlk', f1, f2, f3, f1', f2', f3', g1, g2, g3, hlc, hlc', t1, t2, t3, t4, t5, t1', t2', t3', t4', t5', k1, k2, w3, hv0, hx0])
 |(refine Split.by2 (fun h=>?_) (fun h=>?_)<;>(simp [h, NetD.cells, vl, il, iu, c1, c2, c3, hlt, hlt', d1, d2, d3, d1', d2', d3', e1, e2, e3, hlk, hlk', f1, f2, f3, f1', f2', f3', g1, g2, g3, hlc, hlc', t1, t2, t3, t4, t5, t1', t2', t3', t4', t5', k1, k2, w3, hv0, hx0]))
 |(apply hK;clear hK K)|refine AWh (by assumption) ?_)
            refine ⟨c + 1, by omega, by omega, ?_⟩
            apply Weak.mk' <;> simp [NetD.cells, vl]
        · obtain rfl : c = n.clocks.length := by omega
          repeat' (first
 |refine AW_seq_k fun K hK=>?_|refine Step.by1 ?_|refine SBlock_exit_ne (by decide) ?_|refine cz rfl ?_|refine Fork.by2 (fun h=>?_) fun h=>?_
 |(refine AW_region_AO ?_;simp [NetD.cells, vl, il, iu, c1, c2, c3, hlt, hlt', d1, d2, d3, d1', d2', d3', e1, e2, e3, hlk, hlk', f1, f2, f3, f1', f2', f3', g1, g2, g3, w2])
 |(refine Split.by2 (fun h=>?_) (fun h=>?_)<;>(simp [h, NetD.cells, vl, il, iu, c1, c2, c3, hlt, hlt', d1, d2, d3, d1', d2', d3', e1, e2, e3, hlk, hlk', f1, f2, f3, f1', f2', f3', g1, g2, g3, w2]))
 |(apply hK;clear hK K)|refine AWh (by assumption) ?_)
          refine ⟨k + 1, by omega, by omega, ?_⟩
          apply Weak.mk' <;> simp [NetD.cells, vl]
      · obtain rfl : k = a.locs.length := by omega
        repeat' (first
 |refine AW_seq_k fun K hK=>?_|refine Step.by1 ?_|refine SBlock_exit_ne (by decide) ?_|refine cz rfl ?_|refine Fork.by2 (fun h=>?_) fun h=>?_
 |(refine AW_region_AO ?_;simp [NetD.cells, vl, il, iu, c1, c2, c3, hlt, hlt', d1, d2, d3, d1', d2', d3', e1, e2, e3, w1])
 |(refine Split.by2 (fun h=>?_) (fun h=>?_)<;>(simp [h, NetD.cells, vl, il, iu, c1, c2, c3, hlt, hlt', d1, d2, d3, d1', d2', d3', e1, e2, e3, w1]))
 |(apply hK;clear hK K)|refine AWh (by assumption) ?_)
        refine ⟨i + 1, by omega, by omega, ?_⟩
        apply Weak.mk' <;> simp [NetD.cells, vl]
    · obtain rfl : i = n.autos.length := by omega
      repeat' (first
 |refine AW_seq_k fun K hK=>?_|refine Step.by1 ?_|refine SBlock_exit_ne (by decide) ?_|refine cz rfl ?_|refine Fork.by2 (fun h=>?_) fun h=>?_
 |((first|refine AW_region_AO ?_|refine AS_call1 (f:=50) rfl rfl (r3) rfl rfl rfl ?_);simp [NetD.cells, vl, c1, c2, c3])
 |(refine Split.by2 (fun h=>?_) (fun h=>?_)<;>(simp [h, NetD.cells, vl, c1, c2, c3]))
 |(apply hK;clear hK K)|refine AWh (by assumption) ?_)
      exact retq1 (conv_eq rfl rfl)
  · have h1 := c_luPlanBad n hn gs hg.1 hg.2 he
    have h2 := c_PlanBad n hn gs hg.1 hg.2 he
    generalize lookE n gs = E at *
    simp only [NetD.cells, vl, gsV] at h1 h2 ⊢
    refine PCall_body Tryz.func10 rfl (by decide) Tryz.ntmps10 (by simp) Tryz.results10 ?_
    repeat' (first
 |refine AW_seq_k fun K hK=>?_|refine Step.by1 ?_|refine SBlock_exit_ne (by decide) ?_|refine cz rfl ?_|refine Fork.by2 (fun h=>?_) fun h=>?_
 |((first|refine AW_region_AO ?_|refine AS_call1 (f:=38) rfl rfl (h1) rfl rfl rfl ?_|refine AS_call1 (f:=43) rfl rfl (h2) rfl rfl rfl ?_|refine AS_call1 (f:=40) rfl rfl (h3) rfl rfl rfl ?_);simp [he])
 |(refine Split.by2 (fun h=>?_) (fun h=>?_)<;>(simp [h, he]))
 |(apply hK;clear hK K)|refine AWh (by assumption) ?_)
    exact retq1 (conv_eq rfl rfl)
end Go.Proofs.YtgmlimipejcpgaaGreatDoor
end
