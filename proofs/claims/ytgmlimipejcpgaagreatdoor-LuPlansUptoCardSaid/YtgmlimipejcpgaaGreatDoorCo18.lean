/-
  YtgmlimipejcpgaaGreatDoorCo18: steps of the proof of a law of the program: what these texts prove holds under the hypotheses that their theorems name, and no others.
-/
import Derived.Test.YtgmlimipejcpgaaGreatDoorCo17
import Derived.Lib.AppendZeros
section
set_option linter.unusedSimpArgs false
set_option linter.unusedVariables false
namespace Go.Proofs.YtgmlimipejcpgaaGreatDoor
open Go Go.AM Fx
def goodAt (l : List ByteArray) (i : Nat) : Bool := isNameB (l.getD i ⟨#[]⟩) && !memS (l.getD i ⟨#[]⟩) (l.take i)
def givenB (l : List ByteArray) : Bool := (List.range l.length).all (goodAt l)
theorem givenB_bad {l : List ByteArray} {i : Nat} (hi : i < l.length) (h : goodAt l i = false) : givenB l = false := by
  unfold givenB
  rw [Bool.eq_false_iff]
  intro ha
  rw [List.all_eq_true.1 ha i (List.mem_range.2 hi)] at h; cases h
theorem givenB_good {l : List ByteArray} (h : ∀ i, i < l.length → goodAt l i = true) : givenB l = true := List.all_eq_true.2 fun i hi => h i (List.mem_range.1 hi)
theorem isNameB_size {s : ByteArray} (h : isNameB s = true) : s.size ≤ 16 := by
  unfold isNameB at h
  simp only [Bool.and_eq_true, decide_eq_true_eq] at h
  exact h.2.1
/-- What has been seen. -/
def seenL (l : List ByteArray) (i : Nat) : List (ByteArray × V) := (l.take i).map fun s => (s, V.bool true)
theorem seen_keys (l : List ByteArray) (i : Nat) : (seenL l i).map (·.1) = l.take i := by simp [seenL, Function.comp_def]
theorem seen_get (l : List ByteArray) (i : Nat) (x : ByteArray) : (sget (seenL l i) x).getD (.bool false) = .bool (memS x (l.take i)) := by
  unfold seenL
  generalize l.take i = r
  induction r with
  | nil => rfl
  | cons y r ih =>
    unfold sget memS at *
    rw [List.map_cons, List.find?_cons, List.any_cons]
    by_cases h : y = x
    · simp [h]
    · simp only [h, decide_false, Bool.false_or]; exact ih
theorem seen_put {l : List ByteArray} {i : Nat} (hi : i < l.length) (h : memS l[i] (l.take i) = false) : sput (seenL l i) l[i] (.bool true) = seenL l (i + 1) := by
  have hn : (seenL l i).findIdx? (fun p => p.1 = l[i]) = none := (find_none fun q hq e => by
    obtain ⟨s, hs, rfl⟩ := List.mem_map.1 hq
    have : memS l[i] (l.take i) = true := memS_iff.2 (by rw [← e]; exact hs)
    rw [h] at this; cases this).2
  unfold sput
  rw [hn]
  unfold seenL
  rw [List.take_add_one, List.getElem?_eq_getElem hi, List.map_append]; rfl
theorem zb4 : (Tryz.prog.info? 4).bind (·.zero) = some (.bool false) := by kernel_rfl
set_option maxRecDepth 8000 in
set_option maxHeartbeats 4000000 in
theorem c_given (l : List ByteArray) (hl : l.length ≤ 1099511627776) (hs : ∀ s ∈ l, s.size ≤ 1048576) : PC 187 [vl strV l] (.bool (givenB l)) := by
  obtain ⟨r, hr⟩ : ∃ r, givenB l = r := ⟨_, rfl⟩
  have hbad := fun i hi h => givenB_bad (l := l) (i := i) hi h
  have hgood := givenB_good (l := l)
  rw [hr] at hbad hgood ⊢
  refine pB Tryz.func187 rfl (by decide) Tryz.ntmps187 (by simp) Tryz.results187 ?_
  repeat' (first
 |refine aK fun K hK=>?_|refine Step.by1 ?_|refine sE (by decide) ?_|refine cz rfl ?_|refine Fork.by2 (fun h=>?_) fun h=>?_
 |(refine aR ?_;simp [vl, strV])
 |(refine Split.by2 (fun h=>?_) (fun h=>?_)<;>(simp [h, vl, strV]))
 |(refine AS_op1 rfl S_makeMap ?_; simp)
 |(apply hK;clear hK K)|refine AWh ‹_› ?_)
  refine aL [3, 7, 8] (fun i : Nat => [(9, .int .i64 i)]) (fun i => [.map (smap (seenL l i))]) (fun i => i ≤ l.length ∧ (l.take i).Nodup ∧ ∀ j, j < i → goodAt l j = true) (fun i => l.length - i) 0 ⟨Nat.zero_le _, by simp, fun j hj => by omega⟩ (by apply Weak.mk' <;> simp [vl, strV, seenL, smap]) (fun _ _ => rfl) ?_
  rintro i ⟨hi, hnd, hpre⟩
  by_cases hlt : i < l.length
  · have hb := hbad i hlt
    have hx16 := isNameB_size (s := l[i])
    have hnk : ((seenL l i).map (·.1)).Nodup := by rw [seen_keys]; exact hnd
    have hget := seen_get l i l[i]
    have hput := seen_put hlt
    have hga : goodAt l i = (isNameB l[i] && !memS l[i] (l.take i)) := by simp [goodAt, List.getD, hlt]
    have hnd' : memS l[i] (l.take i) = false → (l.take (i + 1)).Nodup := fun h => by
      rw [List.take_add_one, List.getElem?_eq_getElem hlt]
      refine List.nodup_append.2 ⟨hnd, by simp, fun a ha b hb' => ?_⟩
      simp at hb'; subst hb'
      intro e; subst e
      rw [memS_iff.2 ha] at h; cases h
    have hsx := hs l[i] (List.getElem_mem hlt)
    obtain ⟨x, hx⟩ : ∃ x, l[i] = x := ⟨_, rfl⟩
    rw [hx] at hx16 hget hput hga hnd' hsx
    have hname := c_IsName x (by omega)
    generalize isNameB x = nb at *
    generalize memS x (l.take i) = mb at *
    repeat' (first
 |refine aK fun K hK=>?_|refine Step.by1 ?_|refine sE (by decide) ?_|refine cz rfl ?_|refine Fork.by2 (fun h=>?_) fun h=>?_
 |((first|refine aR ?_|refine aC (f:=216) rfl rfl (hname) rfl rfl rfl ?_);simp [vl, strV, hlt, hx, hget, wI];try (simp (disch:=omega) only [wI];try simp [vl, strV, hlt, hx, hget, wI]))
 |(refine Split.by2 (fun h=>?_) (fun h=>?_)<;>(simp [h, vl, strV, hlt, hx, hget, wI];try (simp (disch:=omega) only [wI];try simp [vl, strV, hlt, hx, hget, wI])))
 |(refine AS_op1 rfl (S_lookup (l := seenL l i) Tryz.underlying238 Tryz.underlying9 zb4 rfl rfl rfl hnk) ?_; simp [hget])
 |(refine AS_op1 rfl (S_mapUpdate (l := seenL l i) Tryz.underlying238 Tryz.underlying9 rfl rfl rfl hnk rfl) ?_; simp)
 |(apply hK;clear hK K)|refine AWh ‹_› ?_)
    all_goals first
      | (exfalso; have := hx16 (by assumption); omega)
      | exact r1q (cE (by rw [hb (by rw [hga]; simp [*])]; rfl) rfl)
      | (refine ⟨i + 1, ⟨by omega, hnd' h, fun j hj => ?_⟩, by omega, ?_⟩
         · rcases Nat.lt_or_ge j i with h' | h'
           · exact hpre j h'
           · rw [show j = i by omega, hga]; simp [*]
         · apply Weak.mk' <;> simp [vl, strV, hput h])
  · have hr1 := hgood (fun j hj => hpre j (by omega))
    repeat' (first
 |refine aK fun K hK=>?_|refine Step.by1 ?_|refine sE (by decide) ?_|refine cz rfl ?_|refine Fork.by2 (fun h=>?_) fun h=>?_
 |(refine aR ?_;simp [vl, strV, hlt])
 |(refine Split.by2 (fun h=>?_) (fun h=>?_)<;>(simp [h, vl, strV, hlt]))
 |(apply hK;clear hK K)|refine AWh ‹_› ?_)
    exact r1q (cE (by simp [hr1]) rfl)
theorem r_isValue (n : Int) : PC 139 [.int .i64 n] (.bool (decide (-1048576 ≤ n ∧ n ≤ 1048576))) := by
  refine pB Tryz.func139 rfl (by decide) Tryz.ntmps139 (by simp) Tryz.results139 ?_
  repeat' (first
 |refine aK fun K hK=>?_|refine Step.by1 ?_|refine sE (by decide) ?_|refine cz rfl ?_|refine Fork.by2 (fun h=>?_) fun h=>?_
 |(refine aR ?_;simp)
 |(refine Split.by2 (fun h=>?_) (fun h=>?_)<;>(simp [h]))
 |(apply hK;clear hK K)|refine AWh ‹_› ?_)
  all_goals first
    | exact r1q (cE (by simp [*]; done) rfl)
    | exact r1q (cE (by simp [*]; omega) rfl)
theorem r_isConst (n : Int) : PC 155 [.int .i64 n] (.bool (decide (0 ≤ n ∧ n ≤ 1048576))) := by
  refine pB Tryz.func155 rfl (by decide) Tryz.ntmps155 (by simp) Tryz.results155 ?_
  repeat' (first
 |refine aK fun K hK=>?_|refine Step.by1 ?_|refine sE (by decide) ?_|refine cz rfl ?_|refine Fork.by2 (fun h=>?_) fun h=>?_
 |(refine aR ?_;simp)
 |(refine Split.by2 (fun h=>?_) (fun h=>?_)<;>(simp [h]))
 |(apply hK;clear hK K)|refine AWh ‹_› ?_)
  all_goals first
    | exact r1q (cE (by simp [*]; done) rfl)
    | exact r1q (cE (by simp [*]; omega) rfl)
theorem r_cmpless (g : GuardD) : PC 201 [.agg g.cells] (.bool (cmpG g)) := by
  refine pB Tryz.func201 rfl (by decide) Tryz.ntmps201 (by simp) Tryz.results201 ?_
  repeat' (first
 |refine aK fun K hK=>?_|refine Step.by1 ?_|refine sE (by decide) ?_|refine cz rfl ?_|refine Fork.by2 (fun h=>?_) fun h=>?_
 |(refine aR ?_;simp [GuardD.cells])
 |(refine Split.by2 (fun h=>?_) (fun h=>?_)<;>(simp [h, GuardD.cells]))
 |(apply hK;clear hK K)|refine AWh ‹_› ?_)
  all_goals first
    | exact r1q (cE (by simp [cmpG, *]; done) rfl)
    | exact r1q (cE (by simp [cmpG, *]; omega) rfl)
theorem clkG_eq (n : NetD) (g : GuardD) : clkG n g = decide (g.clock < 1 ∨ (n.clocks.length : Int) < g.clock ∨ g.other < 0 ∨ (n.clocks.length : Int) < g.other) := by
  rw [Bool.eq_iff_iff]
  simp only [clkG, isClk, Bool.or_eq_true, Bool.and_eq_true, Bool.not_eq_true', decide_eq_true_eq, decide_eq_false_iff_not]
  omega
theorem r_clockless (n : NetD) (g : GuardD) : PC 200 [.agg n.cells, .agg g.cells] (.bool (clkG n g)) := by
  rw [clkG_eq]
  obtain ⟨r, hr⟩ : ∃ r, decide (g.clock < 1 ∨ (n.clocks.length : Int) < g.clock ∨ g.other < 0 ∨ (n.clocks.length : Int) < g.other) = r := ⟨_, rfl⟩
  rw [hr]
  refine pB Tryz.func200 rfl (by decide) Tryz.ntmps200 (by simp) Tryz.results200 ?_
  repeat' (first
 |refine aK fun K hK=>?_|refine Step.by1 ?_|refine sE (by decide) ?_|refine cz rfl ?_|refine Fork.by2 (fun h=>?_) fun h=>?_
 |(refine aR ?_;simp [GuardD.cells, NetD.cells, vl])
 |(refine Split.by2 (fun h=>?_) (fun h=>?_)<;>(simp [h, GuardD.cells, NetD.cells, vl]))
 |(apply hK;clear hK K)|refine AWh ‹_› ?_)
  all_goals first
    | exact r1q (cE (by rw [← hr]; simp [*]; done) rfl)
    | exact r1q (cE (by rw [← hr]; simp [*]; omega) rfl)
/-- Is a guard wrong in a way? -/
def wayG (n : NetD) (way : Int) (g : GuardD) : Bool := (decide (way = 12) && clkG n g) || (decide (way = 7) && cmpG g)
set_option maxRecDepth 8000 in
set_option maxHeartbeats 4000000 in
theorem r_guards (n : NetD) (l : List GuardD) (way : Int) (hl : l.length ≤ 1099511627776) : PC 153 [.agg n.cells, vl GuardD.cells l, .int .i64 way] (.bool (anyL (wayG n way) l)) := by
  refine pB Tryz.func153 rfl (by decide) Tryz.ntmps153 (by simp) Tryz.results153 ?_
  repeat' (first
 |refine aK fun K hK=>?_|refine Step.by1 ?_|refine sE (by decide) ?_|refine cz rfl ?_|refine Fork.by2 (fun h=>?_) fun h=>?_
 |(refine aR ?_;simp [vl, NetD.cells])
 |(refine Split.by2 (fun h=>?_) (fun h=>?_)<;>(simp [h, vl, NetD.cells]))
 |(apply hK;clear hK K)|refine AWh ‹_› ?_)
  refine aS1 (l) 7 [1, 2, 3] (anyL (wayG n way)) rfl (by apply Weak.mk' <;> simp [vl]) ?_ ?_
  · intro i x _ hlt hx hF
    rw [anC] at hF
    have hc1 := r_clockless n x
    have hc2 := r_cmpless x
    simp only [NetD.cells, GuardD.cells, vl] at hc1 hc2
    have hw : wayG n way x = ((decide (way = 12) && clkG n x) || (decide (way = 7) && cmpG x)) := rfl
    generalize clkG n x = k1 at *
    generalize cmpG x = k2 at *
    repeat' (first
 |refine aK fun K hK=>?_|refine Step.by1 ?_|refine sE (by decide) ?_|refine cz rfl ?_|refine Fork.by2 (fun h=>?_) fun h=>?_
 |((first|refine aR ?_|refine aX (id:=4) 21 mixed (by decide) ?_|refine aP1 (f:=200) rfl rfl (hc1) rfl rfl rfl ?_|refine aP1 (f:=201) rfl rfl (hc2) rfl rfl rfl ?_);simp [vl, NetD.cells, GuardD.cells, hlt, hx, wI];try (simp (disch:=omega) only [wI];try simp [vl, NetD.cells, GuardD.cells, hlt, hx, wI]))
 |(refine Split.by2 (fun h=>?_) (fun h=>?_)<;>(simp [h, vl, NetD.cells, GuardD.cells, hlt, hx, wI];try (simp (disch:=omega) only [wI];try simp [vl, NetD.cells, GuardD.cells, hlt, hx, wI])))
 |(apply hK;clear hK K)|refine AWh ‹_› ?_)
    all_goals first
      | exact r1q (cE (by rw [← hF, hw]; simp [*]; done) rfl)
      | exact r1q (cE (by rw [← hF, hw]; simp [*]; omega) rfl)
      | (refine ⟨by rw [← hF, hw]; simp [*]; done, ?_⟩; apply Weak.mk' <;> simp [vl, NetD.cells] <;> (symm; assumption))
      | (refine ⟨by rw [← hF, hw]; simp [*]; omega, ?_⟩; apply Weak.mk' <;> simp [vl, NetD.cells] <;> (symm; assumption))
  · intro hF
    repeat' (first
 |refine aK fun K hK=>?_|refine Step.by1 ?_|refine sE (by decide) ?_|refine cz rfl ?_|refine Fork.by2 (fun h=>?_) fun h=>?_
 |(refine aR ?_;simp [vl])
 |(refine Split.by2 (fun h=>?_) (fun h=>?_)<;>(simp [h, vl]))
 |(apply hK;clear hK K)|refine AWh ‹_› ?_)
    exact r1q (cE (by rw [← hF]; rfl) rfl)
def allL (n : NetD) : List ByteArray := n.clocks ++ (namesL n ++ (n.chans ++ n.autos.map (·.name)))
def namesB (n : NetD) : Bool := !givenB (allL n) || anyL (fun a => !givenB (locNamesL a)) n.autos
def namesE (n : NetD) : Int := if namesB n = true then 112 else 0
def firstE : List Int → Int
  | [] => 0
  | x :: r => if x ≠ 0 then x else firstE r
theorem firstE_nil : firstE [] = 0 := rfl
theorem fC {x : Int} {r : List Int} : firstE (x :: r) = if x ≠ 0 then x else firstE r := rfl
def wholeE (n : NetD) : Int := firstE [someE n, sizesE n, namesE n, varE n.vars, locsE n.autos, edgesE n n.autos, clocksE n, formsE n, testsE n]
def setW (n : NetD) (way : Int) (s : SetD) : Bool := (decide (way = 12) && clkS n s) || ((decide (way = 7) && formS s) || (decide (way = 121) && testS n s))
def edgeW (n : NetD) (a : AutoD) (way : Int) (e : EdgeD) : Bool := if way = 123 then edgeB n a e else ((decide (way = 121) && truthBad n e.test) || anyL (setW n way) e.sets)
def locW (n : NetD) (way : Int) (x : LocD) : Bool := (decide (way = 122) && kindB x) || anyL (wayG n way) x.inv
def edW (n : NetD) (a : AutoD) (way : Int) (e : EdgeD) : Bool := anyL (wayG n way) e.guards || edgeW n a way e
def wrongA (n : NetD) (way : Int) (a : AutoD) : Bool := anyL (locW n way) a.locs || anyL (edW n a way) a.edges
def wrongB (n : NetD) (way : Int) : Bool := anyL (wrongA n way) n.autos
theorem anyL_or {α : Type} {p q : α → Bool} : ∀ {l : List α}, anyL (fun x => p x || q x) l = (anyL p l || anyL q l)
  | [] => rfl
  | x :: r => by simp only [anC, anyL_or (l := r)]; cases p x <;> cases q x <;> cases anyL p r <;> simp
theorem anyL_append {α : Type} {p : α → Bool} {l l' : List α} : anyL p (l ++ l') = (anyL p l || anyL p l') := by simp [anyL]
theorem anyL_flatMap {α β : Type} {p : β → Bool} {f : α → List β} : ∀ {l : List α}, anyL p (l.flatMap f) = anyL (fun x => anyL p (f x)) l
  | [] => rfl
  | x :: r => by rw [List.flatMap_cons, anyL_append, anC, anyL_flatMap (l := r)]
theorem anyL_false' {α : Type} {l : List α} : anyL (fun _ => false) l = false := by
  induction l with
  | nil => rfl
  | cons x r ih => rw [anC, ih]; rfl
theorem anyL_congr {α : Type} {p q : α → Bool} {l : List α} (h : ∀ x ∈ l, p x = q x) : anyL p l = anyL q l := by
  induction l with
  | nil => rfl
  | cons x r ih => rw [anC, anC, h x (.head _), ih fun y hy => h y (.tail _ hy)]
theorem wrong_loc (n : NetD) : (if wrongB n 122 = true then 122 else 0) = locsE n.autos := by
  have h1 : wayG n 122 = fun _ => false := funext fun g => by simp [wayG]
  have h2 : setW n 122 = fun _ => false := funext fun s => by simp [setW]
  have h3 : wrongA n 122 = fun a => anyL kindB a.locs := funext fun a => by
    have h4 : locW n 122 = kindB := funext fun x => by simp [locW, h1, anyL_false']
    have h5 : edW n a 122 = fun _ => false := funext fun e => by simp [edW, edgeW, h1, h2, anyL_false']
    simp [wrongA, h4, h5, anyL_false']
  unfold wrongB locsE; rw [h3]
theorem wrong_edge (n : NetD) : (if wrongB n 123 = true then 123 else 0) = edgesE n n.autos := by
  have h1 : wayG n 123 = fun _ => false := funext fun g => by simp [wayG]
  have h3 : wrongA n 123 = fun a => anyL (edgeB n a) a.edges := funext fun a => by
    have h4 : locW n 123 = fun _ => false := funext fun x => by simp [locW, h1, anyL_false']
    have h5 : edW n a 123 = edgeB n a := funext fun e => by simp [edW, edgeW, h1, anyL_false']
    simp [wrongA, h4, h5, anyL_false']
  unfold wrongB edgesE; rw [h3]
theorem any_guards {n : NetD} {p : GuardD → Bool} {q : SetD → Bool} : anyL (fun a : AutoD => anyL (fun x : LocD => anyL p x.inv) a.locs || anyL (fun e : EdgeD => anyL p e.guards || anyL q e.sets) a.edges) n.autos = (anyL p (guardsL n) || anyL q (setsL n)) := by
  unfold guardsL setsL
  rw [anyL_flatMap, anyL_flatMap, ← anyL_or]
  refine anyL_congr fun a _ => ?_
  unfold guardsA setsA
  rw [anyL_append, anyL_flatMap, anyL_flatMap, anyL_flatMap, anyL_or, Bool.or_assoc]
theorem wrong_clk (n : NetD) : (if wrongB n 12 = true then 12 else 0) = clocksE n := by
  have h1 : wayG n 12 = clkG n := funext fun g => by simp [wayG]
  have h2 : setW n 12 = clkS n := funext fun s => by simp [setW]
  have h3 : wrongA n 12 = fun a => anyL (fun x : LocD => anyL (clkG n) x.inv) a.locs || anyL (fun e : EdgeD => anyL (clkG n) e.guards || anyL (clkS n) e.sets) a.edges := funext fun a => by
    have h4 : locW n 12 = fun x : LocD => anyL (clkG n) x.inv := funext fun x => by simp [locW, h1]
    have h5 : edW n a 12 = fun e : EdgeD => anyL (clkG n) e.guards || anyL (clkS n) e.sets := funext fun e => by simp [edW, edgeW, h1, h2]
    simp only [wrongA, h4, h5]
  unfold wrongB; rw [h3, any_guards]
  unfold clocksE clkE
  change _ = if (if anyL (clkG n) (guardsL n) = true then (12 : Int) else 0) ≠ 0 then (if anyL (clkG n) (guardsL n) = true then (12 : Int) else 0) else _
  cases anyL (clkG n) (guardsL n) <;> simp
theorem wrong_form (n : NetD) : (if wrongB n 7 = true then 7 else 0) = formsE n := by
  have h1 : wayG n 7 = cmpG := funext fun g => by simp [wayG]
  have h2 : setW n 7 = formS := funext fun s => by simp [setW]
  have h3 : wrongA n 7 = fun a => anyL (fun x : LocD => anyL cmpG x.inv) a.locs || anyL (fun e : EdgeD => anyL cmpG e.guards || anyL formS e.sets) a.edges := funext fun a => by
    have h4 : locW n 7 = fun x : LocD => anyL cmpG x.inv := funext fun x => by simp [locW, h1]
    have h5 : edW n a 7 = fun e : EdgeD => anyL cmpG e.guards || anyL formS e.sets := funext fun e => by simp [edW, edgeW, h1, h2]
    simp only [wrongA, h4, h5]
  unfold wrongB; rw [h3, any_guards]
  unfold formsE cmpE
  change _ = if (if anyL cmpG (guardsL n) = true then (7 : Int) else 0) ≠ 0 then (if anyL cmpG (guardsL n) = true then (7 : Int) else 0) else _
  cases anyL cmpG (guardsL n) <;> simp
theorem wrong_test (n : NetD) : (if wrongB n 121 = true then 121 else 0) = testsE n := by
  have h1 : wayG n 121 = fun _ => false := funext fun g => by simp [wayG]
  have h2 : setW n 121 = testS n := funext fun s => by simp [setW]
  have h3 : wrongA n 121 = fun a => testsA n a || anyL (testS n) (setsA a) := funext fun a => by
    have h4 : locW n 121 = fun _ => false := funext fun x => by simp [locW, h1, anyL_false']
    have h5 : edW n a 121 = fun e : EdgeD => truthBad n e.test || anyL (testS n) e.sets := funext fun e => by simp [edW, edgeW, h1, h2, anyL_false']
    simp only [wrongA, h4, h5, anyL_false', Bool.false_or, testsA, setsA, anyL_or, anyL_flatMap]
  unfold wrongB; rw [h3, anyL_or]
  unfold testsE setsL
  rw [anyL_flatMap]
  generalize anyL (testsA n) n.autos = p
  generalize anyL (fun x => anyL (testS n) (setsA x)) n.autos = q
  cases p <;> cases q <;> simp
/-- The way in which the reference looks at all. -/
theorem wholeE_ref (n : NetD) : wholeE n = firstE [someE n, sizesE n, namesE n, varE n.vars, if wrongB n 122 = true then 122 else 0, if wrongB n 123 = true then 123 else 0, if wrongB n 12 = true then 12 else 0, if wrongB n 7 = true then 7 else 0, if wrongB n 121 = true then 121 else 0] := by
  rw [wrong_loc, wrong_edge, wrong_clk, wrong_form, wrong_test]; rfl
end Go.Proofs.YtgmlimipejcpgaaGreatDoor
end
section
set_option linter.unusedVariables false
set_option linter.unusedSimpArgs false
namespace Go.AM
section
variable {P : Program} {ge : GEnv} {st : St} {Q : Exit → St → Prop} {G : Gh} {w : World}
variable {d : Option Tmp} {t : TypeId} {p : String} {af : Array Edge} {g : Option (Nat × Bool)}
theorem inv_nils {fr : Bool} {c : Value} (h : R G w fr .nils c) : c = .slice none 0 0 := by cases h; rfl
/-- The capacity of nil. -/
theorem S_capNil {T e : TypeId} {x : Operand} {ts : Array TypeId} (hts : ts = #[T]) (hu : P.underlying T = some (.slice e)) (hx : ev ge st.tm x = .nils) :
    OpS P ge st ⟨d, .call { callee := .builtin .cap, args := #[x], argTypes := ts }, t, p, af, g⟩ (.int .i64 0) st.h :=
  OpS_pure fun G a w hr => by
    have hvx := hr.ev x
    rw [hx] at hvx
    have hcx := inv_nils hvx
    exact ⟨.int .i64 0, by simp [execOp, resolve, invoke, builtin, hcx, hts, Builtin.cap_, run_underlying hu, goInt], .int⟩
/-- A slice of nil. -/
theorem S_sliceNil {T e : TypeId} {x y : Operand} {k : IntKind} (hu : P.underlying T = some (.slice e)) (h0 : 0 < szOf P e) (hx : ev ge st.tm x = .nils) (hy : ev ge st.tm y = .int k 0) :
    OpS P ge st ⟨d, .slice T x none (some y) none, t, p, af, g⟩ .nils st.h :=
  OpS_pure fun G a w hr => by
    have hvx := hr.ev x
    have hvy := hr.ev y
    rw [hx] at hvx
    rw [hy] at hvy
    have hcx := inv_nils hvx
    have hcy := hvy.inv_int
    exact ⟨.slice none 0 0, by simp [execOp, hcx, hcy, Instr.sliceAt, Instr.slice, run_underlying hu, Instr.sliceBounds, Instr.sliceBound, asIntOf, run_sizeOf rfl h0], .nils⟩
/-- append of so many zeros onto nil; what they are is not told. -/
theorem S_appendCount {T N e : TypeId} {x y : Operand} {ts : Array TypeId} {k kn : IntKind} {n : Nat} {zs : List V} (hts : ts = #[T, N]) (hu : P.underlying T = some (.slice e)) (hN : P.underlying N = some (.int kn)) (hz : zeroOf P e = some zs) (hsz : szOf P e = zs.length) (h0 : 0 < zs.length)
    (hx : ev ge st.tm x = .nils) (hy : ev ge st.tm y = .int k (n : Int)) (hn : 0 < n) (hb : n * bytesOf P e ≤ 140737488355328) (hb0 : 0 < bytesOf P e) :
    OpS P ge st ⟨d, .call { callee := .builtin .append, args := #[x, y], argTypes := ts }, t, p, af, g⟩ (.ref st.h.length 0 0 n) (st.h ++ [.row e 0 0 true []]) := by
  intro G a w hr
  have hvx := hr.ev x
  have hvy := hr.ev y
  rw [hx] at hvx
  rw [hy] at hvy
  have hcx := inv_nils hvx
  have hcy := hvy.inv_int
  obtain ⟨z, _, hz1, hz2, _, hz3⟩ := run_zeroValue hz
  obtain ⟨inf, hi, hisz, hby⟩ := info_of hsz h0
  rw [hi] at hz1
  simp only [Option.bind_some] at hz1
  have h63 : n ≤ maxLen := by
    have : n * 1 ≤ n * bytesOf P e := Nat.mul_le_mul_left _ hb0
    unfold maxLen; omega
  have hrun := Go.Lib.run_append_nil_zeros (P := P) w T N t e inf z k kn hu hN hi hz1 n hn (by omega) (by unfold maxLen at h63; omega) (by rw [hby]; omega)
  have hgrow : WGrow w (w.drew.alloc (.cells (Builtin.zeroCells z.cells n ++ Builtin.zeroCells z.cells (grownCap w n 0 e - n)) e)) := (WGrow.drew w).trans (.alloc _ _)
  have hge := grownCap_ge w n 0 e
  have hk : ∀ k', (G.push (some w.heap.size) (szOf P e) (grownCap w n 0 e)).at G.n (.row e 0 0 true []) = some k' → w.heap.size ≤ k' := fun k' h => by simp [Gh.at, Gh.push] at h; omega
  refine ⟨.slice (some ⟨w.heap.size, 0, none⟩) n (grownCap w n 0 e), G.push (some w.heap.size) (szOf P e) (grownCap w n 0 e), w.drew.alloc (.cells (Builtin.zeroCells z.cells n ++ Builtin.zeroCells z.cells (grownCap w n 0 e - n)) e), .inl ?_, hr.rh.push hgrow ⟨by simp [Gh.push], Nat.zero_le _, by simp [Gh.push, hsz, h0], .inr ⟨w.heap.size, _, by simp [Gh.push], heap_alloc_new w.drew _, ?_, ?_, by simp, ?_, fun i x h => by simp at h, fun i x j v h => by simp at h⟩⟩ hk, ?_, .push hr.rh hgrow hk⟩
  · rw [run_append_call, hcx, hcy, hts, hrun]; rfl
  · simp [Gh.push, hr.rh.fzlt]
  · simp only [Gh.push, Array.size_append, size_zeroCells, hz2, hsz, if_true]
    rw [← Nat.add_mul]; congr 1; omega
  · simpa [Gh.push] using grownCap_le_maxLen w n 0 e h63
  · rw [hr.rh.n]
    have := R.ref (G := G.push (some w.heap.size) (szOf P e) (grownCap w n 0 e)) (w := w.drew.alloc (.cells (Builtin.zeroCells z.cells n ++ Builtin.zeroCells z.cells (grownCap w n 0 e - n)) e)) (b := G.n) (g := 0) (off := 0) (len := n) (k := w.heap.size) (by simp [Gh.push]) (by simp [Gh.push]) (by simp [Gh.push]) (by simp [Gh.push]; omega)
    simpa [Gh.push] using this
/-- Nil, as a slice that shows nothing. -/
def V.denil : V → V
  | .nils => .vec [] 0
  | v => v
theorem PCall.denil {f : Nat} {args args' : List V} {r : V} (hc : PCall P ge f args' r) (ha : args.map V.denil = args') : PCall P ge f args r := by
  subst ha
  refine ⟨hc.1, fun G w cargs h hg => hc.2 G w cargs ⟨by rw [List.length_map]; exact h.1, fun i v hv => ?_⟩ hg⟩
  rw [List.getElem?_map] at hv
  obtain ⟨u, h1, rfl⟩ := Option.map_eq_some_iff.1 hv
  have h2 := h.2 i u h1
  generalize cargs.getD i undef = c at h2 ⊢
  cases u <;> first | exact h2 | (cases h2; exact .emp (Nat.zero_le _))
end
end Go.AM
end
section
set_option linter.unusedSimpArgs false
set_option linter.unusedVariables false
namespace Go.Proofs.YtgmlimipejcpgaaGreatDoor
open Go Go.AM Fx
set_option maxRecDepth 8000 in
theorem c_growS (n : Nat) (hn : n ≤ 1073741824) : PC 233 [.nils, .int .i64 n] (.own 9 []) := by
  have z0 : ¬ (n : Int) < 0 := by omega
  have w1 : IntKind.i64.wrap (n : Int) = n := wI (by omega) (by omega)
  have wz : IntKind.i64.wrap 0 = 0 := by decide
  refine pB Tryz.func233 rfl (by decide) Tryz.ntmps233 (by simp) Tryz.results233 ?_
  by_cases h0 : n = 0
  · subst h0
    repeat' (first
 |refine AW_nilrow 4 9 rfl (by simp) ?_
 |refine aK fun K hK=>?_|refine Step.by1 ?_|refine sE (by decide) ?_|refine cz rfl ?_|refine Fork.by2 (fun h=>?_) fun h=>?_
 |(refine aR ?_;simp [z0, w1, wz])
 |(refine Split.by2 (fun h=>?_) (fun h=>?_)<;>(simp [h, z0, w1, wz]))
 |(refine AS_op1 rfl (S_capNil rfl Tryz.underlying22 rfl) ?_; simp [z0, w1, wz])
 |(apply hK;clear hK K)|refine AWh ‹_› ?_)
    exact r1q (.inr (.inl (conv1_own (b := 1) (xs := []) rfl rfl)))
  · have hp : (0 : Int) < n := by omega
    have hn0 : 0 < n := by omega
    have hb16 : n * bytesOf Tryz.prog 9 ≤ 140737488355328 := by simp; omega
    repeat' (first
 |refine aK fun K hK=>?_|refine Step.by1 ?_|refine sE (by decide) ?_|refine cz rfl ?_|refine Fork.by2 (fun h=>?_) fun h=>?_
 |(refine aR ?_;simp [z0, w1, wz, hp, hn0])
 |(refine Split.by2 (fun h=>?_) (fun h=>?_)<;>(simp [h, z0, w1, wz, hp, hn0]))
 |(refine AS_op rfl rfl (S_capNil rfl Tryz.underlying22 rfl) ?_; refine AS_op rfl rfl (S_sliceNil Tryz.underlying22 (by simp) rfl rfl) ?_; refine AS_op rfl rfl S_move ?_; refine AS_op1 rfl (S_appendCount (n := n) (zs := zeroD Tryz.prog 9) rfl Tryz.underlying22 Tryz.underlying3 (show zeroOf Tryz.prog 9 = some (zeroD Tryz.prog 9) from getD_some (by simp)) (by simp) (by simp) rfl rfl hn0 hb16 (by simp)) ?_; simp [z0, w1, wz, hp, hn0])
 |(refine AS_op1 rfl (S_capNil rfl Tryz.underlying22 rfl) ?_; simp [z0, w1, wz, hp, hn0])
 |(apply hK;clear hK K)|refine AWh ‹_› ?_)
    exact r1q (.inr (.inl (conv1_own (b := 0) (xs := []) rfl rfl)))
theorem catF_len {α β : Type} {f : α → List β} {x : α} {l : List α} {acc : Nat × List β} {r : List β} (h : catF f (x :: l) acc = r) : acc.2.length + (f x).length ≤ r.length := by
  rw [← h]; simp [catF]
theorem take_str (l : List ByteArray) : (l.map fun s => [V.str s]).take l.length = l.map fun s => [V.str s] := List.take_of_length_le (by simp)
def lenF (l : List (List ByteArray)) (c : Nat) : Nat := c + l.flatten.length
theorem lenF_nil {c : Nat} : lenF [] c = c := rfl
theorem lenF_cons {x : List ByteArray} {l : List (List ByteArray)} {c : Nat} : lenF (x :: l) c = lenF l (c + x.length) := by simp [lenF]; omega
theorem lenF_le {l : List (List ByteArray)} {c : Nat} : c ≤ lenF l c := by simp [lenF]
set_option maxRecDepth 8000 in
set_option maxHeartbeats 4000000 in
theorem c_concatS (ls : List (List ByteArray)) (hl : ls.length ≤ 1048576) (ht : ls.flatten.length ≤ 1073741824) : PC 217 [.vec (ls.map fun l => [vl (fun s => [V.str s]) l]) ls.length] (.own 9 (ls.flatten.map fun s => [V.str s])) := by
  have hG := c_growS ls.flatten.length ht
  have hfl0 : ls.flatMap (fun l => l) = ls.flatten := by rw [List.flatMap_id']
  obtain ⟨fl, hfl⟩ : ∃ fl, ls.flatten = fl := ⟨_, rfl⟩
  rw [hfl] at hG ht hfl0 ⊢
  obtain ⟨tot, htot⟩ : ∃ tot, fl.length = tot := ⟨_, rfl⟩
  rw [htot] at hG ht
  refine pB Tryz.func217 rfl (by decide) Tryz.ntmps217 (by simp) Tryz.results217 ?_
  repeat' (first
 |refine aK fun K hK=>?_|refine Step.by1 ?_|refine sE (by decide) ?_|refine cz rfl ?_|refine Fork.by2 (fun h=>?_) fun h=>?_
 |(refine aR ?_;simp [vl])
 |(refine Split.by2 (fun h=>?_) (fun h=>?_)<;>(simp [h, vl]))
 |(apply hK;clear hK K)|refine AWh ‹_› ?_)
  refine AW_range (r := tot) ls 11 [0, 9, 10] (fun c : Nat => [(3, .int .i64 (c : Int))]) (fun _ => []) (fun _ _ => True) lenF 0
    (by unfold lenF; rw [hfl, htot]; omega) trivial (by apply Weak.mk' <;> simp [vl]) (fun _ _ _ => rfl) ?_ ?_
  · intro i c x _ hlt hx _ hF
    rw [lenF_cons] at hF
    have hle : c + x.length ≤ tot := hF ▸ lenF_le
    have hlt' : (i : Int) < ls.length := by omega
    have hc0 : ¬ (c : Int) + x.length < 0 := by omega
    have w1 : IntKind.i64.wrap ((i : Int) + 1) = i + 1 := wI (by omega) (by omega)
    have w2 : IntKind.i64.wrap ((c : Int) + x.length) = c + x.length := wI (by omega) (by omega)
    repeat' (first
 |refine aK fun K hK=>?_|refine Step.by1 ?_|refine sE (by decide) ?_|refine cz rfl ?_|refine Fork.by2 (fun h=>?_) fun h=>?_
 |(refine aR ?_;simp [vl, strV, hlt, hlt', hx, w1, w2, hc0])
 |(refine Split.by2 (fun h=>?_) (fun h=>?_)<;>(simp [h, vl, strV, hlt, hlt', hx, w1, w2, hc0]))
 |(apply hK;clear hK K)|refine AWh ‹_› ?_)
    exact ⟨c + x.length, hF, by apply Weak.mk' <;> simp [vl]⟩
  · intro c _ hF
    rw [lenF_nil] at hF
    subst hF
    repeat' (first
 |refine aK fun K hK=>?_|refine Step.by1 ?_|refine sE (by decide) ?_|refine cz rfl ?_|refine Fork.by2 (fun h=>?_) fun h=>?_
 |((first|refine aR ?_|refine AS_callO (f:=233) rfl rfl (hG) rfl rfl ?_);simp [vl, strV])
 |(refine Split.by2 (fun h=>?_) (fun h=>?_)<;>(simp [h, vl, strV]))
 |(apply hK;clear hK K)|refine AWh ‹_› ?_)
    refine AW_range (r := fl) ls 27 [25, 26] (fun c : Nat × List ByteArray => [(6, .ref 0 c.1 0 c.2.length)]) (fun c => [.row 9 c.1 0 true (c.2.map fun s => [V.str s])]) (fun _ _ => True) (catF fun l : List ByteArray => l) (0, [])
      (by unfold catF; rw [hfl0]; rfl) trivial (by apply Weak.mk' <;> simp [vl]) (fun _ _ _ => rfl) ?_ ?_
    · rintro i ⟨g, out⟩ x _ hlt hx _ hF
      have hle := catF_len hF
      rw [catF_cons (g + 1)] at hF
      simp only at hF hle
      have hby : (out.length + x.length) * 16 ≤ 140737488355328 := by omega
      have hlt' : (i : Int) < ls.length := by omega
      have htk := take_str x
      have w1 : IntKind.i64.wrap ((i : Int) + 1) = i + 1 := wI (by omega) (by omega)
      repeat' (first
 |refine aK fun K hK=>?_|refine Step.by1 ?_|refine sE (by decide) ?_|refine cz rfl ?_|refine Fork.by2 (fun h=>?_) fun h=>?_
 |(refine aR ?_;simp [vl, strV, hlt, hlt', hx, w1, htk, hby])
 |(refine Split.by2 (fun h=>?_) (fun h=>?_)<;>(simp [h, vl, strV, hlt, hlt', hx, w1, htk, hby]))
 |(apply hK;clear hK K)|refine AWh ‹_› ?_)
      exact ⟨g + 1, out ++ x, hF, by apply Weak.mk' <;> simp [vl]⟩
    · rintro ⟨g, out⟩ _ hF
      rw [catF_nil] at hF
      simp only at hF
      subst hF
      repeat' (first
 |refine aK fun K hK=>?_|refine Step.by1 ?_|refine sE (by decide) ?_|refine cz rfl ?_|refine Fork.by2 (fun h=>?_) fun h=>?_
 |(refine aR ?_;simp [vl])
 |(refine Split.by2 (fun h=>?_) (fun h=>?_)<;>(simp [h, vl]))
 |(apply hK;clear hK K)|refine AWh ‹_› ?_)
      exact r1q (.inr (.inl (conv1_own rfl (by simp))))
set_option maxRecDepth 8000 in
set_option maxHeartbeats 4000000 in
theorem c_all (n : NetD) (hn : n.ok) : PC 188 [.agg n.cells] (vl strV (allL n)) := by
  obtain ⟨⟨h1, _⟩, ⟨h2, _⟩, ⟨h3, _⟩, h4, h5⟩ := hn
  have hN := c_Names n h2
  have hnl : (namesL n).length ≤ 1048576 := by simp [namesL, h2]
  have hC := c_concatS [n.clocks, namesL n, n.chans] (by simp) (by simp; omega)
  have hgoal : PC 188 [.agg n.cells] (.own 9 ((allL n).map fun s => [V.str s])) := by
    generalize hns : namesL n = ns at *
    have hfl : [n.clocks, ns, n.chans].flatten = n.clocks ++ (ns ++ n.chans) := by simp
    rw [hfl] at hC
    simp only [vl, NetD.cells] at hN
    simp only [vl, List.map_cons, List.map_nil, List.length_cons, List.length_nil, List.map_append] at hC
    refine pB Tryz.func188 rfl (by decide) Tryz.ntmps188 (by simp) Tryz.results188 ?_
    repeat' (first
 |refine aK fun K hK=>?_|refine Step.by1 ?_|refine sE (by decide) ?_|refine cz rfl ?_|refine Fork.by2 (fun h=>?_) fun h=>?_
 |((first|refine aR ?_|refine aX (id:=1) 6 mixed (by decide) ?_|refine aP1 (f:=218) rfl rfl (hN) rfl rfl rfl ?_);simp [vl, NetD.cells])
 |(refine Split.by2 (fun h=>?_) (fun h=>?_)<;>(simp [h, vl, NetD.cells]))
 |(refine AS_view 12 rfl rfl (by simp) ?_; simp; refine AS_callO (f := 217) rfl rfl hC rfl rfl ?_; simp [vl, NetD.cells])
 |(apply hK;clear hK K)|refine AWh ‹_› ?_)
    refine AW_range n.autos 17 [15, 16] (fun c : Nat × List ByteArray => [(3, .ref 2 c.1 0 c.2.length)]) (fun c => [.var n.cells, .dead, .row 9 c.1 0 true (c.2.map fun s => [V.str s])]) (fun i c => c.2.length ≤ 3145728 + i) (catF fun x : AutoD => [x.name]) (0, n.clocks ++ (ns ++ n.chans)) (r := allL n)
      (by simp [catF, allL, hns]; try exact (List.map_eq_flatMap ..).symm) (by simp; omega) (by apply Weak.mk' <;> simp [vl, NetD.cells]) (fun _ _ _ => rfl) ?_ ?_
    · rintro i ⟨g, out⟩ x _ hlt hx hJ hF
      simp only at hJ
      rw [catF_cons (g + 1)] at hF
      have hby : (out.length + 1) * 16 ≤ 140737488355328 := by omega
      have hlt' : (i : Int) < n.autos.length := by omega
      have w1 : IntKind.i64.wrap ((i : Int) + 1) = i + 1 := wI (by omega) (by omega)
      repeat' (first
 |refine aK fun K hK=>?_|refine Step.by1 ?_|refine sE (by decide) ?_|refine cz rfl ?_|refine Fork.by2 (fun h=>?_) fun h=>?_
 |(refine aR ?_;simp [vl, NetD.cells, AutoD.cells, hlt, hlt', hx, hby, w1])
 |(refine Split.by2 (fun h=>?_) (fun h=>?_)<;>(simp [h, vl, NetD.cells, AutoD.cells, hlt, hlt', hx, hby, w1]))
 |(apply hK;clear hK K)|refine AWh ‹_› ?_)
      exact ⟨g + 1, out ++ [x.name], hF, by simp; omega, by apply Weak.mk' <;> simp [vl, NetD.cells]⟩
    · rintro ⟨g, out⟩ hJ hF
      rw [catF_nil] at hF
      simp only at hF
      subst hF
      repeat' (first
 |refine aK fun K hK=>?_|refine Step.by1 ?_|refine sE (by decide) ?_|refine cz rfl ?_|refine Fork.by2 (fun h=>?_) fun h=>?_
 |(refine aR ?_;simp [vl, NetD.cells])
 |(refine Split.by2 (fun h=>?_) (fun h=>?_)<;>(simp [h, vl, NetD.cells]))
 |(apply hK;clear hK K)|refine AWh ‹_› ?_)
      exact r1q (.inr (.inl (conv1_own rfl (by simp))))
  have := hgoal.freeze
  have e : ((allL n).map fun s => [V.str s]).length = (allL n).length := by simp
  rw [e] at this
  exact this
end Go.Proofs.YtgmlimipejcpgaaGreatDoor
end
