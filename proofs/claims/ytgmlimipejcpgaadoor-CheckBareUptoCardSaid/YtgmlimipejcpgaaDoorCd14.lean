/-
  YtgmlimipejcpgaaDoorCd14: steps of the proof of a law of the program: what these texts prove holds under the hypotheses that their theorems name, and no others.
-/
import Derived.Test.YtgmlimipejcpgaaDoorCd13
section
set_option linter.unusedSimpArgs false
set_option linter.unusedVariables false
namespace Go.Proofs.YtgmlimipejcpgaaDoor
open Go Go.AM Fx
theorem flat_len {α β : Type} {f : α → List β} {c : Nat} : ∀ {l : List α}, (∀ x ∈ l, (f x).length ≤ c) → (l.flatMap f).length ≤ l.length * c
  | [], _ => by simp
  | x :: r, h => by
    have h1 := h x (.head _)
    have h2 := flat_len (f := f) (c := c) (l := r) fun y hy => h y (.tail _ hy)
    simp only [List.flatMap_cons, List.length_append, List.length_cons, Nat.add_mul, Nat.one_mul]; omega
theorem guardsA_len {n : NetD} (hz : Small n) {a : AutoD} (ha : a ∈ n.autos) : (guardsA a).length ≤ 5120 := by
  have h1 := flat_len (f := fun x : LocD => x.inv) (c := 16) (hz.inv a ha)
  have h2 := flat_len (f := fun x : EdgeD => x.guards) (c := 16) (hz.guards a ha)
  have h3 := hz.locs a ha
  have h4 := hz.edges a ha
  unfold guardsA; rw [List.length_append]; omega
theorem guardsL_len {n : NetD} (hz : Small n) : (guardsL n).length ≤ 40960 := by
  have h1 := flat_len (f := guardsA) (c := 5120) (fun a ha => guardsA_len hz ha)
  have := hz.autos
  unfold guardsL; omega
theorem setsL_len {n : NetD} (hz : Small n) : (setsL n).length ≤ 32768 := by
  have h1 := flat_len (l := n.autos) (f := setsA) (c := 4096) (fun a ha => by
    have h2 := flat_len (f := fun x : EdgeD => x.sets) (c := 16) (hz.sets a ha)
    have h4 := hz.edges a ha
    unfold setsA; omega)
  have := hz.autos
  unfold setsL; omega
def clkS (n : NetD) (s : SetD) : Bool := decide (s.clock ≠ 0) && !isClk n s.clock
def clocksE (n : NetD) : Int := if clkE n (guardsL n) ≠ 0 then clkE n (guardsL n) else if anyL (clkS n) (setsL n) = true then 12 else 0
set_option maxRecDepth 8000 in
set_option maxHeartbeats 8000000 in
theorem c_clocks (n : NetD) (hz : Small n) : PC 45 [.agg n.cells] (.int .i64 (clocksE n)) := by
  have hg := c_guards n hz
  have hs := c_sets n hz
  have hk := c_clkE n (guardsL n) (by have := guardsL_len hz; omega)
  have hsl := setsL_len hz
  by_cases h0 : clkE n (guardsL n) = 0
  · have hr : clocksE n = if anyL (clkS n) (setsL n) = true then 12 else 0 := by simp [clocksE, h0]
    rw [hr]
    rw [h0] at hk
    obtain ⟨E, hE⟩ : ∃ E : List SetD → Int, E = fun l => if anyL (clkS n) l = true then 12 else 0 := ⟨_, rfl⟩
    have hEc : ∀ a l, E (a :: l) = if clkS n a = true then 12 else E l := fun a l => by subst hE; by_cases h : clkS n a = true <;> simp [anC, h]
    have hEn : (if anyL (clkS n) (setsL n) = true then (12 : Int) else 0) = E (setsL n) := by subst hE; rfl
    have hE0 : E [] = 0 := by subst hE; rfl
    rw [hEn]
    generalize setsL n = ss at *
    generalize guardsL n = gs at *
    simp only [NetD.cells, vl] at hg hs hk
    refine pB Tryd.func45 rfl (by decide) Tryd.ntmps45 (by simp) Tryd.results45 ?_
    repeat' (first
 |refine aK fun K hK=>?_|refine Step.by1 ?_|refine sE (by decide) ?_|refine cz rfl ?_|refine Fork.by2 (fun h=>?_) fun h=>?_
 |((first|refine aR ?_|refine aX (id:=1) 5 mixed (by decide) ?_|refine aC (f:=82) rfl rfl (hg) rfl rfl rfl ?_|refine aP1 (f:=82) rfl rfl (hg) rfl rfl rfl ?_|refine aP1 (f:=81) rfl rfl (hk) rfl rfl rfl ?_|refine aC (f:=81) rfl rfl (hk) rfl rfl rfl ?_|refine aC (f:=83) rfl rfl (hs) rfl rfl rfl ?_);simp [vl, NetD.cells])
 |(refine Split.by2 (fun h=>?_) (fun h=>?_)<;>(simp [h, vl, NetD.cells]))
 |(apply hK;clear hK K)|refine AWh ‹_› ?_)
    refine aS1 (ss) 16 [1, 14, 15] (E) rfl (by apply Weak.mk' <;> simp [vl]) ?_ ?_
    · intro i x _ hlt hx hF
      rw [hEc] at hF
      have hc1 := c_isClock n x.clock
      simp only [NetD.cells, vl] at hc1
      generalize hk1 : isClk n x.clock = k1 at hc1
      repeat' (first
 |refine aK fun K hK=>?_|refine Step.by1 ?_|refine sE (by decide) ?_|refine cz rfl ?_|refine Fork.by2 (fun h=>?_) fun h=>?_
 |((first|refine aR ?_|refine aC (f:=84) rfl rfl (hc1) rfl rfl rfl ?_);simp [vl, SetD.cells, NetD.cells, hlt, hx, wI];try (simp (disch:=omega) only [wI];try simp [vl, SetD.cells, NetD.cells, hlt, hx, wI]))
 |(refine Split.by2 (fun h=>?_) (fun h=>?_)<;>(simp [h, vl, SetD.cells, NetD.cells, hlt, hx, wI];try (simp (disch:=omega) only [wI];try simp [vl, SetD.cells, NetD.cells, hlt, hx, wI])))
 |(apply hK;clear hK K)|refine AWh ‹_› ?_)
      all_goals first
        | exact r1q (cE (by rw [← hF]; simp [clkS, *]) rfl)
        | (refine ⟨by rw [← hF]; simp [clkS, *], ?_⟩; apply Weak.mk' <;> simp [vl, NetD.cells])
    · intro hF
      repeat' (first
 |refine aK fun K hK=>?_|refine Step.by1 ?_|refine sE (by decide) ?_|refine cz rfl ?_|refine Fork.by2 (fun h=>?_) fun h=>?_
 |(refine aR ?_;simp [vl, NetD.cells])
 |(refine Split.by2 (fun h=>?_) (fun h=>?_)<;>(simp [h, vl, NetD.cells]))
 |(apply hK;clear hK K)|refine AWh ‹_› ?_)
      exact r1q (cE (by rw [← hF, hE0]; simp) rfl)
  · have hr : clocksE n = clkE n (guardsL n) := by simp [clocksE, h0]
    rw [hr]
    generalize clkE n (guardsL n) = k at *
    generalize guardsL n = gs at *
    simp only [NetD.cells, vl] at hg hk
    refine pB Tryd.func45 rfl (by decide) Tryd.ntmps45 (by simp) Tryd.results45 ?_
    repeat' (first
 |refine aK fun K hK=>?_|refine Step.by1 ?_|refine sE (by decide) ?_|refine cz rfl ?_|refine Fork.by2 (fun h=>?_) fun h=>?_
 |((first|refine aR ?_|refine aX (id:=1) 5 mixed (by decide) ?_|refine aC (f:=82) rfl rfl (hg) rfl rfl rfl ?_|refine aP1 (f:=82) rfl rfl (hg) rfl rfl rfl ?_|refine aP1 (f:=81) rfl rfl (hk) rfl rfl rfl ?_|refine aC (f:=81) rfl rfl (hk) rfl rfl rfl ?_);simp [vl, NetD.cells, h0])
 |(refine Split.by2 (fun h=>?_) (fun h=>?_)<;>(simp [h, vl, NetD.cells, h0]))
 |(apply hK;clear hK K)|refine AWh ‹_› ?_)
    exact r1q (cE rfl rfl)
def formS (s : SetD) : Bool := decide (s.clock = 0 ∧ s.n ≠ 0 ∨ s.clock ≠ 0 ∧ (s.var ≠ 0 ∨ 0 < s.expr.length))
def formsE (n : NetD) : Int := if cmpE (guardsL n) ≠ 0 then cmpE (guardsL n) else if anyL formS (setsL n) = true then 7 else 0
set_option maxRecDepth 8000 in
set_option maxHeartbeats 8000000 in
theorem c_forms (n : NetD) (hz : Small n) : PC 46 [.agg n.cells] (.int .i64 (formsE n)) := by
  have hg := c_guards n hz
  have hs := c_sets n hz
  have hk := c_cmpE (guardsL n) (by have := guardsL_len hz; omega)
  have hsl := setsL_len hz
  by_cases h0 : cmpE (guardsL n) = 0
  · have hr : formsE n = if anyL formS (setsL n) = true then 7 else 0 := by simp [formsE, h0]
    rw [hr]
    rw [h0] at hk
    obtain ⟨E, hE⟩ : ∃ E : List SetD → Int, E = fun l => if anyL formS l = true then 7 else 0 := ⟨_, rfl⟩
    have hEc : ∀ a l, E (a :: l) = if formS a = true then 7 else E l := fun a l => by subst hE; by_cases h : formS a = true <;> simp [anC, h]
    have hEn : (if anyL formS (setsL n) = true then (7 : Int) else 0) = E (setsL n) := by subst hE; rfl
    have hE0 : E [] = 0 := by subst hE; rfl
    rw [hEn]
    generalize setsL n = ss at *
    generalize guardsL n = gs at *
    simp only [NetD.cells, vl] at hg hs hk
    refine pB Tryd.func46 rfl (by decide) Tryd.ntmps46 (by simp) Tryd.results46 ?_
    repeat' (first
 |refine aK fun K hK=>?_|refine Step.by1 ?_|refine sE (by decide) ?_|refine cz rfl ?_|refine Fork.by2 (fun h=>?_) fun h=>?_
 |((first|refine aR ?_|refine aC (f:=82) rfl rfl (hg) rfl rfl rfl ?_|refine aC (f:=85) rfl rfl (hk) rfl rfl rfl ?_|refine aC (f:=83) rfl rfl (hs) rfl rfl rfl ?_);simp [vl, NetD.cells])
 |(refine Split.by2 (fun h=>?_) (fun h=>?_)<;>(simp [h, vl, NetD.cells]))
 |(apply hK;clear hK K)|refine AWh ‹_› ?_)
    refine aS1 (ss) 15 [13, 14] (E) rfl (by apply Weak.mk' <;> simp [vl]) ?_ ?_
    · intro i x _ hlt hx hF
      rw [hEc] at hF
      repeat' (first
 |refine aK fun K hK=>?_|refine Step.by1 ?_|refine sE (by decide) ?_|refine cz rfl ?_|refine Fork.by2 (fun h=>?_) fun h=>?_
 |(refine aR ?_;simp [vl, SetD.cells, NetD.cells, hlt, hx, wI];try (simp (disch:=omega) only [wI];try simp [vl, SetD.cells, NetD.cells, hlt, hx, wI]))
 |(refine Split.by2 (fun h=>?_) (fun h=>?_)<;>(simp [h, vl, SetD.cells, NetD.cells, hlt, hx, wI];try (simp (disch:=omega) only [wI];try simp [vl, SetD.cells, NetD.cells, hlt, hx, wI])))
 |(apply hK;clear hK K)|refine AWh ‹_› ?_)
      all_goals first
        | exact r1q (cE (by rw [← hF]; simp [formS, *]) rfl)
        | exact r1q (cE (by rw [← hF]; simp [formS, *]; omega) rfl)
        | (refine ⟨by rw [← hF]; simp [formS, *]; done, ?_⟩; apply Weak.mk' <;> simp [vl, NetD.cells])
        | (refine ⟨by rw [← hF]; simp [formS, *]; omega, ?_⟩; apply Weak.mk' <;> simp [vl, NetD.cells])
    · intro hF
      repeat' (first
 |refine aK fun K hK=>?_|refine Step.by1 ?_|refine sE (by decide) ?_|refine cz rfl ?_|refine Fork.by2 (fun h=>?_) fun h=>?_
 |(refine aR ?_;simp [vl, NetD.cells])
 |(refine Split.by2 (fun h=>?_) (fun h=>?_)<;>(simp [h, vl, NetD.cells]))
 |(apply hK;clear hK K)|refine AWh ‹_› ?_)
      exact r1q (cE (by rw [← hF, hE0]; simp) rfl)
  · have hr : formsE n = cmpE (guardsL n) := by simp [formsE, h0]
    rw [hr]
    generalize cmpE (guardsL n) = k at *
    generalize guardsL n = gs at *
    simp only [NetD.cells, vl] at hg hk
    refine pB Tryd.func46 rfl (by decide) Tryd.ntmps46 (by simp) Tryd.results46 ?_
    repeat' (first
 |refine aK fun K hK=>?_|refine Step.by1 ?_|refine sE (by decide) ?_|refine cz rfl ?_|refine Fork.by2 (fun h=>?_) fun h=>?_
 |((first|refine aR ?_|refine aC (f:=82) rfl rfl (hg) rfl rfl rfl ?_|refine aC (f:=85) rfl rfl (hk) rfl rfl rfl ?_);simp [vl, NetD.cells, h0])
 |(refine Split.by2 (fun h=>?_) (fun h=>?_)<;>(simp [h, vl, NetD.cells, h0]))
 |(apply hK;clear hK K)|refine AWh ‹_› ?_)
    exact r1q (cE rfl rfl)
def isLoc (a : AutoD) (c : Int) : Bool := decide (0 ≤ c ∧ c < a.locs.length)
theorem c_edgesIs (a : AutoD) (c : Int) (hp : List B) (b : Nat) (hb : hp[b]? = some (.var a.cells)) : GCall Tryd.prog GV 80 [.int .i64 c, .ptr b 0] hp (fun v h' => v = .bool (isLoc a c) ∧ h' = hp) := by
  simp only [AutoD.cells, vl] at hb
  refine gB1 Tryd.func80 rfl (by decide) Tryd.ntmps80 (by simp) Tryd.results80 ?_
  repeat' (first
 |refine aK fun K hK=>?_|refine Step.by1 ?_|refine sE (by decide) ?_|refine cz rfl ?_|refine Fork.by2 (fun h=>?_) fun h=>?_
 |(refine aR ?_;simp [hb])
 |(refine Split.by2 (fun h=>?_) (fun h=>?_)<;>(simp [h, hb]))
 |(apply hK;clear hK K)|refine AWh ‹_› ?_)
  all_goals first
    | exact retg1 (h' := hp) ⟨by simp [isLoc, *], rfl⟩ rfl Leaves.refl
def edgeB (n : NetD) (a : AutoD) (e : EdgeD) : Bool := !isLoc a e.frm || (!isLoc a e.to || (decide (e.chan < 0 ∨ n.chans.length < e.chan) || (e.send && decide (e.chan = 0))))
def edgesE (n : NetD) (l : List AutoD) : Int := if anyL (fun a => anyL (edgeB n a) a.edges) l then 123 else 0
theorem edgesE_cons {n : NetD} {a : AutoD} {l : List AutoD} : edgesE n (a :: l) = if anyL (edgeB n a) a.edges = true then 123 else edgesE n l := by
  by_cases h : anyL (edgeB n a) a.edges = true <;> simp [edgesE, anC, h]
set_option maxRecDepth 8000 in
set_option maxHeartbeats 8000000 in
theorem c_edges (n : NetD) (hn : n.ok) : PC 44 [.agg n.cells] (.int .i64 (edgesE n n.autos)) := by
  obtain ⟨⟨h1, _⟩, ⟨h2, _⟩, ⟨h3, _⟩, h4, h5⟩ := hn
  refine pB Tryd.func44 rfl (by decide) Tryd.ntmps44 (by simp) Tryd.results44 ?_
  repeat' (first
 |refine aK fun K hK=>?_|refine Step.by1 ?_|refine sE (by decide) ?_|refine cz rfl ?_|refine Fork.by2 (fun h=>?_) fun h=>?_
 |(refine aR ?_;simp [vl, NetD.cells])
 |(refine Split.by2 (fun h=>?_) (fun h=>?_)<;>(simp [h, vl, NetD.cells]))
 |(apply hK;clear hK K)|refine AWh ‹_› ?_)
  refine aS1 (n.autos) 11 [1, 9, 10] (edgesE n) rfl (by apply Weak.mk' <;> simp [vl]) ?_ ?_
  · intro i a _ hlt ha hF
    have hoa := h5 a (ha ▸ List.getElem_mem hlt)
    obtain ⟨_, ⟨hl1, hl2⟩, he1, he2⟩ := hoa
    rw [edgesE_cons] at hF
    repeat' (first
 |refine aK fun K hK=>?_|refine Step.by1 ?_|refine sE (by decide) ?_|refine cz rfl ?_|refine Fork.by2 (fun h=>?_) fun h=>?_
 |(refine aR ?_;simp [vl, AutoD.cells, hlt, ha, wI];try (simp (disch:=omega) only [wI];try simp [vl, AutoD.cells, hlt, ha, wI]))
 |(refine Split.by2 (fun h=>?_) (fun h=>?_)<;>(simp [h, vl, AutoD.cells, hlt, ha, wI];try (simp (disch:=omega) only [wI];try simp [vl, AutoD.cells, hlt, ha, wI])))
 |(apply hK;clear hK K)|refine AWh ‹_› ?_)
    refine aS1 (a.edges) 19 [1, 5, 9, 10, 11, 17, 18] (anyL (edgeB n a)) rfl (by apply Weak.mk' <;> simp [vl]) ?_ ?_
    · intro m y _ hmt hy hM
      rw [anC] at hM
      have hg1 := c_edgesIs a y.frm
      have hg2 := c_edgesIs a y.to
      simp only [AutoD.cells, vl] at hg1 hg2
      generalize hk1 : isLoc a y.frm = k1 at hg1
      generalize hk2 : isLoc a y.to = k2 at hg2
      repeat' (first
 |refine aK fun K hK=>?_|refine Step.by1 ?_|refine sE (by decide) ?_|refine cz rfl ?_|refine Fork.by2 (fun h=>?_) fun h=>?_
 |(refine aR ?_;simp [vl, EdgeD.cells, hmt, hy, wI];try (simp (disch:=omega) only [wI];try simp [vl, EdgeD.cells, hmt, hy, wI]))
 |(refine Split.by2 (fun h=>?_) (fun h=>?_)<;>(simp [h, vl, EdgeD.cells, hmt, hy, wI];try (simp (disch:=omega) only [wI];try simp [vl, EdgeD.cells, hmt, hy, wI])))
 |(refine aG (f := 80) rfl rfl (hg1 _ 1 rfl) rfl (fun v h' hq => ?_); obtain ⟨rfl, rfl⟩ := hq; simp [vl])
 |(refine aG (f := 80) rfl rfl (hg2 _ 1 rfl) rfl (fun v h' hq => ?_); obtain ⟨rfl, rfl⟩ := hq; simp [vl])
 |(apply hK;clear hK K)|refine AWh ‹_› ?_)
      all_goals first
        | exact r1q (cE (by rw [← hF, ← hM]; simp [edgeB, *]) rfl)
        | (refine ⟨by rw [← hM]; simp [edgeB, *]; done, ?_⟩; apply Weak.mk' <;> simp [vl, AutoD.cells])
        | (refine ⟨by rw [← hM]; simp [edgeB, *]; omega, ?_⟩; apply Weak.mk' <;> simp [vl, AutoD.cells])
    · intro hM
      rw [← hM, anyL_nil] at hF
      repeat' (first
 |refine aK fun K hK=>?_|refine Step.by1 ?_|refine sE (by decide) ?_|refine cz rfl ?_|refine Fork.by2 (fun h=>?_) fun h=>?_
 |(refine aR ?_;simp [vl, wI];try (simp (disch:=omega) only [wI];try simp [vl, wI]))
 |(refine Split.by2 (fun h=>?_) (fun h=>?_)<;>(simp [h, vl, wI];try (simp (disch:=omega) only [wI];try simp [vl, wI])))
 |(apply hK;clear hK K)|refine AWh ‹_› ?_)
      all_goals first
        | (refine ⟨by simpa using hF, ?_⟩; apply Weak.mk' <;> simp [vl])
  · intro hF
    repeat' (first
 |refine aK fun K hK=>?_|refine Step.by1 ?_|refine sE (by decide) ?_|refine cz rfl ?_|refine Fork.by2 (fun h=>?_) fun h=>?_
 |(refine aR ?_;simp [vl])
 |(refine Split.by2 (fun h=>?_) (fun h=>?_)<;>(simp [h, vl]))
 |(apply hK;clear hK K)|refine AWh ‹_› ?_)
    exact r1q (cE (by rw [← hF]; simp [edgesE, anyL_nil]) rfl)
def handV {α : Type} (c : α → List V) (mark : Nat → List V) (l : List α) : V := .vec (l.map c ++ (List.range 9).map mark) l.length
def kindT : Nat → Int × Bool × Bool × ByteArray × Int
  | 0 => (0, false, false, ⟨#[]⟩, 0)
  | 1 => (0, false, false, ⟨#[]⟩, 9)
  | 2 => (0, false, false, ⟨#[]⟩, 9)
  | 3 => (1, false, false, ⟨#[45]⟩, 6)
  | 4 => (2, false, false, ⟨#[43]⟩, 4)
  | 5 => (2, false, false, ⟨#[45]⟩, 4)
  | 6 => (2, false, false, ⟨#[42]⟩, 5)
  | 7 => (0, true, false, ⟨#[116, 114, 117, 101]⟩, 9)
  | 8 => (2, true, false, ⟨#[60]⟩, 3)
  | 9 => (2, true, false, ⟨#[60, 61]⟩, 3)
  | 10 => (2, true, false, ⟨#[61, 61]⟩, 3)
  | 11 => (2, true, false, ⟨#[33, 61]⟩, 3)
  | 12 => (1, true, true, ⟨#[33]⟩, 9)
  | 13 => (2, true, true, ⟨#[38, 38]⟩, 2)
  | 14 => (2, true, true, ⟨#[124, 124]⟩, 1)
  | _ => (0, false, false, ⟨#[]⟩, 0)
def known (o : Int) : Bool := decide (1 ≤ o ∧ o ≤ 14)
def kindO (o : Int) : Int × Bool × Bool × ByteArray × Int := if known o = true then kindT o.toNat else (0, false, false, ⟨#[]⟩, 0)
def kparts (o : Int) : Int := (kindO o).1
def ktruth (o : Int) : Bool := (kindO o).2.1
def ktakes (o : Int) : Bool := (kindO o).2.2.1
def ksign (o : Int) : ByteArray := (kindO o).2.2.2.1
def kbinds (o : Int) : Int := (kindO o).2.2.2.2
def kcells (o : Int) : List V := [.int .i64 (kparts o), .bool (ktruth o), .bool (ktakes o), .str (ksign o), .int .i64 (kbinds o)]
theorem kinds_at : ∀ j : Nat, 1 ≤ j → j ≤ 14 → (kindsV.drop (j * 5)).take 5 = kcells j := by
  intro j h1 h2
  match j, h1, h2 with
  | 1, _, _ => rfl
  | 2, _, _ => rfl
  | 3, _, _ => rfl
  | 4, _, _ => rfl
  | 5, _, _ => rfl
  | 6, _, _ => rfl
  | 7, _, _ => rfl
  | 8, _, _ => rfl
  | 9, _, _ => rfl
  | 10, _, _ => rfl
  | 11, _, _ => rfl
  | 12, _, _ => rfl
  | 13, _, _ => rfl
  | 14, _, _ => rfl
  | j + 15, _, h => omega
set_option maxRecDepth 8000 in
theorem c_of (o : Int) (ho : 0 ≤ o ∧ o ≤ 255) : PC 109 [.int .u8 o] (.tup [.agg (kcells o), .bool (known o)]) := by
  by_cases hk : 1 ≤ o ∧ o ≤ 14
  · obtain ⟨j, rfl⟩ := Int.eq_ofNat_of_zero_le ho.1
    have hat := kinds_at j (by omega) (by omega)
    have k1 : ¬ (j : Int) < 1 := by omega
    have k2 : ¬ (14 : Int) < j := by omega
    have k3 : (j : Int) < 15 := by omega
    have k4 : j * 5 + 5 ≤ 75 := by omega
    have hlen : kindsV.length = 75 := rfl
    have hkn : known (j : Int) = true := by simp [known]; omega
    have hkl : (kcells (j : Int)).length = 5 := rfl
    have k5 : min 5 (75 - j * 5) = 5 := by omega
    rw [hkn]
    refine pB Tryd.func109 rfl (by decide) Tryd.ntmps109 (by simp) Tryd.results109 ?_
    repeat' (first
 |refine aK fun K hK=>?_|refine Step.by1 ?_|refine sE (by decide) ?_|refine cz rfl ?_|refine Fork.by2 (fun h=>?_) fun h=>?_
 |(refine aR ?_;simp [k1, k2, k3, k4, hlen, k5, hat, hkl])
 |(refine Split.by2 (fun h=>?_) (fun h=>?_)<;>(simp [h, k1, k2, k3, k4, hlen, k5, hat, hkl]))
 |(apply hK;clear hK K)|refine AWh ‹_› ?_)
    exact retq2ct rfl (by simp [kcells]) (cE (by simp [kcells]) (by simp [kcells]))
  · have hkn : known o = false := by simpa [known] using hk
    have hkc : kcells o = [.int .i64 0, .bool false, .bool false, .str ⟨#[]⟩, .int .i64 0] := by simp [kcells, kparts, ktruth, ktakes, ksign, kbinds, kindO, hkn]
    rw [hkc, hkn]
    refine pB Tryd.func109 rfl (by decide) Tryd.ntmps109 (by simp) Tryd.results109 ?_
    by_cases h1 : o < 1
    · repeat' (first
 |refine aK fun K hK=>?_|refine Step.by1 ?_|refine sE (by decide) ?_|refine cz rfl ?_|refine Fork.by2 (fun h=>?_) fun h=>?_
 |(refine aR ?_;simp [h1])
 |(refine Split.by2 (fun h=>?_) (fun h=>?_)<;>(simp [h, h1]))
 |(apply hK;clear hK K)|refine AWh ‹_› ?_)
      exact retq2ct rfl (by simp) (cE (by simp) (by simp))
    · have h2 : 14 < o := by omega
      repeat' (first
 |refine aK fun K hK=>?_|refine Step.by1 ?_|refine sE (by decide) ?_|refine cz rfl ?_|refine Fork.by2 (fun h=>?_) fun h=>?_
 |(refine aR ?_;simp [h1, h2])
 |(refine Split.by2 (fun h=>?_) (fun h=>?_)<;>(simp [h, h1, h2]))
 |(apply hK;clear hK K)|refine AWh ‹_› ?_)
      exact retq2ct rfl (by simp) (cE (by simp) (by simp))
theorem kparts_le (o : Int) : 0 ≤ kparts o ∧ kparts o ≤ 2 := by
  unfold kparts kindO
  split
  · unfold kindT; split <;> decide
  · decide
/-- The place behind so many trees, from a place on; 0: there are not so many. -/
def endL : List NodeD → Int → Int → Int
  | [], _, _ => 0
  | x :: r, need, at_ => if need + kparts x.op - 1 = 0 then at_ + 1 else endL r (need + kparts x.op - 1) (at_ + 1)
def endAt (l : List NodeD) (at_ : Nat) : Int := endL (l.drop at_) 1 at_
set_option maxRecDepth 8000 in
set_option maxHeartbeats 4000000 in
theorem c_End (l : List NodeD) (hl : l.length ≤ 1048576 ∧ ∀ x ∈ l, x.ok) (at0 : Nat) (ha : at0 ≤ 1099511627776) : PC 108 [vl NodeD.cells l, .int .i64 at0] (.int .i64 (endAt l at0)) := by
  obtain ⟨hl1, hl2⟩ := hl
  obtain ⟨r, hr⟩ : ∃ r, endAt l at0 = r := ⟨_, rfl⟩
  rw [hr]
  have hneg : ¬ (at0 : Int) < 0 := by omega
  refine pB Tryd.func108 rfl (by decide) Tryd.ntmps108 (by simp) Tryd.results108 ?_
  repeat' (first
 |refine aK fun K hK=>?_|refine Step.by1 ?_|refine sE (by decide) ?_|refine cz rfl ?_|refine Fork.by2 (fun h=>?_) fun h=>?_
 |(refine aR ?_;simp [vl, hneg])
 |(refine Split.by2 (fun h=>?_) (fun h=>?_)<;>(simp [h, vl, hneg]))
 |(apply hK;clear hK K)|refine AWh ‹_› ?_)
  refine aL [0] (fun s : Nat × Int => [(1, .int .i64 (s.1 : Int)), (5, .int .i64 s.2)]) (fun _ => []) (fun s => 0 ≤ s.2 ∧ s.2 ≤ s.1 * 2 + 1 ∧ s.1 ≤ at0 + l.length ∧ (if s.2 = 0 then (s.1 : Int) = r else endL (l.drop s.1) s.2 s.1 = r)) (fun s => at0 + l.length + 1 - s.1) (at0, 1) ⟨(by decide : (0 : Int) ≤ 1), (by simp only; omega), (by simp only; omega), (by simpa [endAt] using hr)⟩ (by apply Weak.mk' <;> simp [vl]) (fun _ _ => rfl) ?_
  rintro ⟨p, need⟩ ⟨i1, i2, i3, i4⟩
  simp only at i1 i2 i3 i4
  by_cases hn0 : need = 0
  · subst hn0
    rw [if_pos rfl] at i4
    repeat' (first
 |refine aK fun K hK=>?_|refine Step.by1 ?_|refine sE (by decide) ?_|refine cz rfl ?_|refine Fork.by2 (fun h=>?_) fun h=>?_
 |(refine aR ?_;simp [vl])
 |(refine Split.by2 (fun h=>?_) (fun h=>?_)<;>(simp [h, vl]))
 |(apply hK;clear hK K)|refine AWh ‹_› ?_)
    exact r1q (cE (by simp [i4]) rfl)
  · rw [if_neg hn0] at i4
    have hnp : 0 < need := by omega
    by_cases hlt : p < l.length
    · have hlt' : (p : Int) < l.length := by omega
      have hlt2 : ¬ (l.length : Int) ≤ p := by omega
      have hlt3 : ¬ l.length ≤ p := by omega
      obtain ⟨x, hx⟩ : ∃ x, l[p] = x := ⟨_, rfl⟩
      have hxo := hl2 x (hx ▸ List.getElem_mem hlt)
      have hc := c_of x.op hxo.1
      have hk := kparts_le x.op
      rw [List.drop_eq_getElem_cons hlt, hx] at i4
      unfold endL at i4
      simp only [kcells] at hc
      generalize kparts x.op = kp at *
      repeat' (first
 |refine aK fun K hK=>?_|refine Step.by1 ?_|refine sE (by decide) ?_|refine cz rfl ?_|refine Fork.by2 (fun h=>?_) fun h=>?_
 |((first|refine aR ?_|refine aC (f:=109) rfl rfl (hc) rfl rfl rfl ?_);simp [vl, NodeD.cells, hlt, hlt', hlt2, hlt3, hnp, hx, wI];try (simp (disch:=omega) only [wI];try simp [vl, NodeD.cells, hlt, hlt', hlt2, hlt3, hnp, hx, wI]))
 |(refine Split.by2 (fun h=>?_) (fun h=>?_)<;>(simp [h, vl, NodeD.cells, hlt, hlt', hlt2, hlt3, hnp, hx, wI];try (simp (disch:=omega) only [wI];try simp [vl, NodeD.cells, hlt, hlt', hlt2, hlt3, hnp, hx, wI])))
 |(apply hK;clear hK K)|refine AWh ‹_› ?_)
      refine ⟨p + 1, need + kp - 1, ⟨by omega, by omega, by omega, ?_⟩, by omega, ?_⟩
      · by_cases hc0 : need + kp - 1 = 0
        · rw [if_pos hc0] at i4 ⊢; push_cast; exact i4
        · rw [if_neg hc0] at i4 ⊢; push_cast; exact i4
      · apply Weak.mk' <;> simp [vl]
    · have hge : (l.length : Int) ≤ p := by omega
      have hge3 : l.length ≤ p := by omega
      rw [List.drop_eq_nil_of_le (by omega)] at i4
      unfold endL at i4
      repeat' (first
 |refine aK fun K hK=>?_|refine Step.by1 ?_|refine sE (by decide) ?_|refine cz rfl ?_|refine Fork.by2 (fun h=>?_) fun h=>?_
 |(refine aR ?_;simp [vl, hge, hge3, hnp])
 |(refine Split.by2 (fun h=>?_) (fun h=>?_)<;>(simp [h, vl, hge, hge3, hnp]))
 |(apply hK;clear hK K)|refine AWh ‹_› ?_)
      exact r1q (cE (by simp [i4]) rfl)
theorem c_IsTruth (l : List NodeD) (hl : ∀ x ∈ l, x.ok) : PC 88 [vl NodeD.cells l] (.bool (match l with | [] => false | x :: _ => ktruth x.op)) := by
  cases l with
  | nil =>
    refine pB Tryd.func88 rfl (by decide) Tryd.ntmps88 (by simp) Tryd.results88 ?_
    repeat' (first
 |refine aK fun K hK=>?_|refine Step.by1 ?_|refine sE (by decide) ?_|refine cz rfl ?_|refine Fork.by2 (fun h=>?_) fun h=>?_
 |(refine aR ?_;simp [vl])
 |(refine Split.by2 (fun h=>?_) (fun h=>?_)<;>(simp [h, vl]))
 |(apply hK;clear hK K)|refine AWh ‹_› ?_)
    exact r1q (cE rfl rfl)
  | cons x r =>
    have hc := c_of x.op (hl x (.head _)).1
    simp only [kcells] at hc
    have h1 : ¬ (r.length : Int) + 1 = 0 := by omega
    have h2 : (0 : Int) < (r.length : Int) + 1 := by omega
    refine pB Tryd.func88 rfl (by decide) Tryd.ntmps88 (by simp) Tryd.results88 ?_
    repeat' (first
 |refine aK fun K hK=>?_|refine Step.by1 ?_|refine sE (by decide) ?_|refine cz rfl ?_|refine Fork.by2 (fun h=>?_) fun h=>?_
 |((first|refine aR ?_|refine aC (f:=109) rfl rfl (hc) rfl rfl rfl ?_);simp [vl, NodeD.cells, h1, h2])
 |(refine Split.by2 (fun h=>?_) (fun h=>?_)<;>(simp [h, vl, NodeD.cells, h1, h2]))
 |(apply hK;clear hK K)|refine AWh ‹_› ?_)
    exact r1q (cE rfl rfl)
def wgt (x : NodeD) : Int := kparts x.op - 1
def sumL : List NodeD → Int
  | [] => 0
  | x :: r => wgt x + sumL r
theorem sumL_append : ∀ (a b : List NodeD), sumL (a ++ b) = sumL a + sumL b
  | [], b => by simp [sumL]
  | x :: r, b => by simp [sumL, sumL_append r b]; omega
theorem endL_spec : ∀ (l : List NodeD) (need at_ : Int), 1 ≤ need →
    (∃ m : Nat, 1 ≤ m ∧ m ≤ l.length ∧ endL l need at_ = at_ + m ∧ need + sumL (l.take m) = 0 ∧ ∀ k, k < m → 0 < need + sumL (l.take k)) ∨ (endL l need at_ = 0 ∧ ∀ k, k ≤ l.length → 0 < need + sumL (l.take k))
  | [], need, at_, h => .inr ⟨rfl, fun k hk => by simp at hk; subst hk; simp [sumL]; omega⟩
  | x :: r, need, at_, h => by
    have hk := kparts_le x.op
    unfold endL
    by_cases h0 : need + kparts x.op - 1 = 0
    · rw [if_pos h0]
      refine .inl ⟨1, by omega, by simp, by simp, by simp [sumL, wgt]; omega, fun k hk => ?_⟩
      have : k = 0 := by omega
      subst this; simp [sumL]; omega
    · rw [if_neg h0]
      have hstep : ∀ k, 0 < k → need + sumL ((x :: r).take k) = need + kparts x.op - 1 + sumL (r.take (k - 1)) := fun k hk => by
        obtain ⟨j, rfl⟩ : ∃ j, k = j + 1 := ⟨k - 1, by omega⟩
        simp [sumL, wgt]; omega
      have hz : need + sumL ((x :: r).take 0) = need := by simp [sumL]
      rcases endL_spec r (need + kparts x.op - 1) (at_ + 1) (by omega) with ⟨m, h1, h2, h3, h4, h5⟩ | ⟨h3, h5⟩
      · refine .inl ⟨m + 1, by omega, by simp; omega, by rw [h3]; push_cast; omega, by rw [hstep _ (by omega)]; simpa using h4, fun k hk => ?_⟩
        rcases Nat.eq_zero_or_pos k with h | h
        · subst h; rw [hz]; omega
        · rw [hstep k h]; exact h5 (k - 1) (by omega)
      · refine .inr ⟨h3, fun k hk => ?_⟩
        rcases Nat.eq_zero_or_pos k with h | h
        · subst h; rw [hz]; omega
        · rw [hstep k h]; exact h5 (k - 1) (by simp at hk; omega)
def numN (l : List NodeD) (j : Nat) : Int := 1 + sumL (l.take j)
theorem numN_succ {l : List NodeD} {j : Nat} (h : j < l.length) : numN l (j + 1) = numN l j + kparts l[j].op - 1 := by
  unfold numN
  rw [List.take_add_one, List.getElem?_eq_getElem h, sumL_append]
  simp [sumL, wgt]; omega
structure WholeL (l : List NodeD) : Prop where
  pos : ∀ j, j < l.length → 0 < numN l j
  zero : numN l l.length = 0
theorem whole_of {l : List NodeD} (h0 : 0 < l.length) (h : endAt l 0 = l.length) : WholeL l := by
  unfold endAt at h
  simp only [List.drop_zero] at h
  rcases endL_spec l 1 ((0 : Nat) : Int) (by omega) with ⟨m, h1, h2, h3, h4, h5⟩ | ⟨h3, _⟩
  · have hm : m = l.length := by rw [h] at h3; omega
    subst hm
    exact ⟨fun j hj => h5 j hj, h4⟩
  · rw [h3] at h; omega
theorem whole_end {l : List NodeD} (w : WholeL l) {j : Nat} (hj : j < l.length) : ∃ e : Nat, endAt l j = e ∧ j < e ∧ e ≤ l.length ∧ numN l e = numN l j - 1 := by
  have hsum : ∀ k, sumL (l.take (j + k)) = sumL (l.take j) + sumL ((l.drop j).take k) := fun k => by rw [List.take_add, sumL_append]
  rcases endL_spec (l.drop j) 1 (j : Int) (by omega) with ⟨m, h1, h2, h3, h4, h5⟩ | ⟨h3, h5⟩
  · rw [List.length_drop] at h2
    refine ⟨j + m, by unfold endAt; rw [h3]; push_cast; rfl, by omega, by omega, ?_⟩
    unfold numN; rw [hsum]; omega
  · exfalso
    have h6 := h5 (l.length - j) (by simp)
    have h7 := w.zero
    have h8 := w.pos j hj
    unfold numN at h7 h8
    have h9 := hsum (l.length - j)
    rw [show j + (l.length - j) = l.length by omega] at h9
    omega
/-- What is wrong with a node by itself; with its parts. -/
def nodeBad (k : Int) (x : NodeD) : Bool := !known x.op || decide (x.n < 0 ∨ (if x.op = 1 then 1048576 else if x.op = 2 then (if k < 0 then 0 else k) - 1 else 0) < x.n)
def kidsBad (l : List NodeD) (tk : Bool) : Nat → Nat → Bool
  | 0, _ => false
  | q + 1, at_ => (ktruth (l.getD at_ default).op != tk) || kidsBad l tk q (endAt l at_).toNat
def rightAt (l : List NodeD) (k : Int) (i : Nat) : Bool := nodeBad k (l.getD i default) || kidsBad l (ktakes (l.getD i default).op) (kparts (l.getD i default).op).toNat (i + 1)
def rightE (l : List NodeD) (k : Int) : Int := if l.length = 0 ∨ 64 < l.length ∨ endAt l 0 ≠ l.length then 121 else if (List.range l.length).any (rightAt l k) then 121 else 0
theorem rightE_bad {l : List NodeD} {k : Int} {i : Nat} (hi : i < l.length) (h : rightAt l k i = true) : rightE l k = 121 := by
  unfold rightE
  split
  · rfl
  · rw [if_pos (List.any_eq_true.2 ⟨i, List.mem_range.2 hi, h⟩)]
theorem rightE_good {l : List NodeD} {k : Int} (h0 : ¬ (l.length = 0 ∨ 64 < l.length ∨ endAt l 0 ≠ l.length)) (h : ∀ i, i < l.length → rightAt l k i = false) : rightE l k = 0 := by
  unfold rightE
  rw [if_neg h0, if_neg]
  rw [List.any_eq_true]
  rintro ⟨i, hi, hb⟩
  rw [h i (List.mem_range.1 hi)] at hb; cases hb
end Go.Proofs.YtgmlimipejcpgaaDoor
end
