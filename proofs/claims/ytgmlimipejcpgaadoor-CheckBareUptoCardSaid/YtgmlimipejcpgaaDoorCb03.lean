/-
  YtgmlimipejcpgaaDoorCb03: steps of the proof of a law of the program: what these texts prove holds under the hypotheses that their theorems name, and no others.
-/
import Derived.Test.YtgmlimipejcpgaaDoorCb02
section
set_option linter.unusedSimpArgs false
set_option linter.unusedVariables false
namespace Go.Proofs.YtgmlimipejcpgaaDoor
open Go Go.AM Fx
def bareL (x : LocD) : LocD := { x with inv := [] }
def bareEd (x : EdgeD) : EdgeD := { x with guards := [], sets := [] }
def bareA (a : AutoD) : AutoD := { a with locs := a.locs.map bareL, edges := a.edges.map bareEd }
def bareW (n : NetD) : NetD := { n with autos := n.autos.map bareA }
theorem bareL_ok {x : LocD} (h : x.ok) : (bareL x).ok := ⟨h.1, h.2.1, by simp [bareL], fun a ha => by simp [bareL] at ha⟩
theorem bareEd_ok {x : EdgeD} (h : x.ok) : (bareEd x).ok := ⟨h.1, h.2.1, ⟨by simp [bareEd], fun a ha => by simp [bareEd] at ha⟩, h.2.2.2.1, h.2.2.2.2.1, trivial, by simp [bareEd], fun a ha => by simp [bareEd] at ha⟩
theorem bareA_ok {a : AutoD} (h : a.ok) : (bareA a).ok := by
  obtain ⟨h1, ⟨h2, h3⟩, h4, h5⟩ := h
  refine ⟨h1, ⟨by simpa [bareA] using h2, fun x hx => ?_⟩, by simpa [bareA] using h4, fun x hx => ?_⟩
  · obtain ⟨y, hy, rfl⟩ := List.mem_map.1 hx; exact bareL_ok (h3 y hy)
  · obtain ⟨y, hy, rfl⟩ := List.mem_map.1 hx; exact bareEd_ok (h5 y hy)
theorem bareW_ok {n : NetD} (h : n.ok) : (bareW n).ok := by
  obtain ⟨h1, h2, h3, h4, h5⟩ := h
  refine ⟨h1, h2, h3, by simpa [bareW] using h4, fun x hx => ?_⟩
  obtain ⟨y, hy, rfl⟩ := List.mem_map.1 hx
  exact bareA_ok (h5 y hy)
theorem firstAt_zero {α : Type} {f : α → Int} : ∀ {l : List α} {i : Nat}, (∀ x ∈ l, f x = 0) → firstAt f l i = none
  | [], _, _ => rfl
  | x :: r, i, h => by rw [firstAt_cons, if_neg (by rw [h x (by simp)]; simp)]; exact firstAt_zero fun y hy => h y (by simp [hy])
theorem searchE_zero {pl : LocD → Int} {pe : EdgeD → Int} : ∀ {l : List AutoD} {i : Nat}, (∀ a ∈ l, (∀ x ∈ a.locs, pl x = 0) ∧ ∀ x ∈ a.edges, pe x = 0) → searchE pl pe l i = ((0, 0, 0), 0)
  | [], _, _ => rfl
  | a :: r, i, h => by
    have e : searchA pl pe a = none := by
      unfold searchA
      rw [firstAt_zero (h a (by simp)).1]
      simp only
      rw [firstAt_zero (h a (by simp)).2]
    rw [searchE_cons, e]
    exact searchE_zero fun y hy => h y (by simp [hy])
theorem bare_search {pl : LocD → Int} {pe : EdgeD → Int} {n : NetD} (h1 : ∀ x, pl (bareL x) = 0) (h2 : ∀ x, pe (bareEd x) = 0) : searchE pl pe (bareW n).autos 0 = ((0, 0, 0), 0) := by
  refine searchE_zero fun a ha => ?_
  obtain ⟨b, _, rfl⟩ := List.mem_map.1 ha
  refine ⟨fun x hx => ?_, fun x hx => ?_⟩
  · obtain ⟨y, _, rfl⟩ := List.mem_map.1 hx; exact h1 y
  · obtain ⟨y, _, rfl⟩ := List.mem_map.1 hx; exact h2 y
theorem bare_net (n : NetD) : netE (bareW n) = wholeE (bareW n) := by
  unfold netE whereE
  by_cases h : wholeE (bareW n) ≠ 0
  · rw [if_pos h]
  · rw [if_neg h, bare_search (fun x => by simp [diagE, bareL]) (fun x => by simp [diagE, bareEd]), if_neg (by simp), bare_search (fun x => by simp [greatE, bareL]) (fun x => by simp [edG, greatE, greatSE, bareEd])]
    simp at h
    simp [h]
theorem bare_guards (n : NetD) : guardsL (bareW n) = [] := by
  unfold guardsL
  refine List.flatMap_eq_nil_iff.2 fun a ha => ?_
  obtain ⟨b, _, rfl⟩ := List.mem_map.1 ha
  unfold guardsA
  simp [bareA, bareL, bareEd, List.flatMap_map]
theorem bare_numb (n : NetD) (so : Int → Bool) : numbE (bareW n) so [] = if wholeE (bareW n) ≠ 0 then none else some (List.replicate n.clocks.length (-1)) := by
  unfold numbE
  rw [bare_net, bare_guards, numG_nil]
  rfl
theorem kept_none : ∀ {k : Nat} {s : Nat × List Int}, keptF (List.replicate k (-1)) s = s.2
  | 0, _ => rfl
  | k + 1, s => by rw [List.replicate_succ, keptF_cons, if_neg (by decide)]; exact kept_none
def bareLc (x : LocD) : List V := [.str x.name, .int .u8 x.kind, .nils]
def bareEc (x : EdgeD) : List V := [.int .i64 x.frm, .int .i64 x.to, .nils, vl NodeD.cells x.test, .int .i64 x.chan, .bool x.send, .nils]
def bareAc (x : AutoD) : List V := [.str x.name, vl bareLc x.locs, vl bareEc x.edges]
def bareWc (x : NetD) : List V := [vl (fun x => [.str x]) x.clocks, vl VarD.cells x.vars, vl (fun x => [.str x]) x.chans, vl bareAc x.autos]
theorem dn_vl {α β : Type} {c : α → List V} {c' : β → List V} {f : α → β} {l : List α} (h : ∀ x ∈ l, V.dns (c x) = c' (f x)) : (vl c l).dn = vl c' (l.map f) := by
  simp only [vl, V.dn, dnR_eq, List.map_map, List.length_map]
  congr 1
  exact List.map_congr_left fun x hx => by simp only [Function.comp]; exact h x hx
theorem dn_vl' {α : Type} {c : α → List V} {l : List α} (h : ∀ x ∈ l, V.dns (c x) = c x) : (vl c l).dn = vl c l := by
  have := dn_vl (f := id) (c' := c) (l := l) h
  simpa using this
theorem dn_bareL (x : LocD) : V.dns (bareLc x) = (bareL x).cells := by simp [bareLc, bareL, LocD.cells, V.dns, V.dn, vl]
theorem dn_bareEd (x : EdgeD) : V.dns (bareEc x) = (bareEd x).cells := by
  have h : (vl NodeD.cells x.test).dn = vl NodeD.cells x.test := dn_vl' fun y _ => by simp [NodeD.cells, V.dns, V.dn]
  simp only [bareEc, bareEd, EdgeD.cells, V.dns, V.dn, h]
  simp [vl]
theorem dn_bareA (x : AutoD) : V.dns (bareAc x) = (bareA x).cells := by
  have h1 : (vl bareLc x.locs).dn = vl LocD.cells (x.locs.map bareL) := dn_vl fun y _ => dn_bareL y
  have h2 : (vl bareEc x.edges).dn = vl EdgeD.cells (x.edges.map bareEd) := dn_vl fun y _ => dn_bareEd y
  simp only [bareAc, bareA, AutoD.cells, V.dns, V.dn, h1, h2]
theorem dn_bareW (x : NetD) : V.dns [V.agg (bareWc x)] = [V.agg (bareW x).cells] := by
  have h1 : (vl (fun x : ByteArray => [V.str x]) x.clocks).dn = vl (fun x => [V.str x]) x.clocks := dn_vl' fun y _ => by simp [V.dns, V.dn]
  have h2 : (vl VarD.cells x.vars).dn = vl VarD.cells x.vars := dn_vl' fun y _ => by simp [VarD.cells, V.dns, V.dn]
  have h3 : (vl (fun x : ByteArray => [V.str x]) x.chans).dn = vl (fun x => [V.str x]) x.chans := dn_vl' fun y _ => by simp [V.dns, V.dn]
  have h4 : (vl bareAc x.autos).dn = vl AutoD.cells (x.autos.map bareA) := dn_vl fun y _ => dn_bareA y
  simp only [bareWc, bareW, NetD.cells, V.dns, V.dn, h1, h2, h3, h4]
end Go.Proofs.YtgmlimipejcpgaaDoor
end
section
set_option linter.unusedVariables false
set_option linter.unusedSimpArgs false
namespace Go.Proofs.YtgmlimipejcpgaaDoor
open Go Go.AM Fx
theorem AT.setne {o b g : Nat} {h : List B} {fl : Bool} {l : List AutoD} {T : List (Nat × Nat)} (p : AT o h b g fl l T) {k : Nat} {cs : List V} {y : B} (hk : h[k]? = some (.var cs)) : AT o (h.set k y) b g fl l T :=
  ⟨by rw [gN (fun e => by have := p.at0; rw [← e, hk] at this; cases this)]; exact p.at0, p.flat, p.len, fun i a t ha ht => by
    obtain ⟨h1, h2⟩ := p.rows i a t ha ht
    exact ⟨by rw [gN (fun e => by rw [← e, hk] at h1; cases h1)]; exact h1, by rw [gN (fun e => by rw [← e, hk] at h2; cases h2)]; exact h2⟩, p.low, p.one⟩
theorem AT.low' {o o' b g : Nat} {h : List B} {fl : Bool} {l : List AutoD} {T : List (Nat × Nat)} (p : AT o h b g fl l T) (ho : o' ≤ o) : AT o' h b g fl l T :=
  ⟨p.at0, p.flat, p.len, p.rows, ⟨Nat.le_trans ho p.low.1, fun t ht => ⟨Nat.le_trans ho (p.low.2 t ht).1, Nat.le_trans ho (p.low.2 t ht).2⟩⟩, p.one⟩
set_option maxRecDepth 20000 in
set_option maxHeartbeats 16000000 in
theorem g_Copy (n : NetD) (hn : n.ok) {h : List B} (hh : HL h) : GCall Tryd.prog GV 8 [.agg n.cells] h
    (fun v h' => ∃ b g fl T, v = .agg [vl (fun x : ByteArray => [V.str x]) n.clocks, vl VarD.cells n.vars, vl (fun x : ByteArray => [V.str x]) n.chans, .ref b g 0 n.autos.length] ∧ Old h h' ∧ AT h.length h' b g fl n.autos T) := by
  have h1 := c_CloneS n.clocks hn.1.1
  have h2 := c_CloneV n.vars hn.2.1.1
  have h3 := c_CloneS n.chans hn.2.2.1.1
  have g0 := fun x : List B => ga0 (h := h) (x := x) rfl
  have g1 := fun (x : List B) (k : Nat) => ga1 (h := h) (x := x) (k := k) rfl
  have s0 := fun (x : List B) (y : B) => sa0 (h := h) (x := x) (y := y) rfl
  have s1 := fun (x : List B) (k : Nat) (y : B) => sa1 (h := h) (x := x) (k := k) (y := y) rfl
  have hH : HL (h ++ [B.var n.cells, B.var [.nils, .nils, .nils, .nils]]) := hh.app (by simp [NetD.cells, vl])
  have h4 := g_eachAuto n.autos hn.2.2.2.1 hn.2.2.2.2 hH
  have hO := (Old.rfl hh).app hH
  have q1 : ∀ {h1 : List B}, Old (h ++ [B.var n.cells, B.var [.nils, .nils, .nils, .nils]]) h1 → h1[h.length]? = some (B.var n.cells) ∧ h1[h.length + 1]? = some (B.var [.nils, .nils, .nils, .nils]) :=
    fun ho => ⟨ho.get (by rw [g0]; rfl), ho.get (by rw [g1]; rfl)⟩
  simp only [vl, NetD.cells] at h1 h2 h3 h4 hH hO q1
  refine gB1 Tryd.func8 rfl (by decide) Tryd.ntmps8 (by simp) Tryd.results8 ?_
  repeat' (first
 |refine aK fun K hK=>?_|refine Step.by1 ?_|refine sE (by decide) ?_|refine cz rfl ?_|refine Fork.by2 (fun h=>?_) fun h=>?_
 |((first|refine aR ?_|refine aX (id:=1) 10 mixed (by decide) ?_|refine aP1 (f:=24) rfl rfl (h1) rfl rfl rfl ?_|refine aP1 (f:=25) rfl rfl (h2) rfl rfl rfl ?_|refine aP1 (f:=24) rfl rfl (h3) rfl rfl rfl ?_);simp [vl, NetD.cells, g0, g1, s0, s1])
 |(refine Split.by2 (fun h=>?_) (fun h=>?_)<;>(simp [h, vl, NetD.cells, g0, g1, s0, s1]))
 |(apply hK;clear hK K)|refine AWh ‹_› ?_)
  refine aG (f := 26) rfl rfl h4 rfl (fun v h5 hq => ?_)
  obtain ⟨b, g, fl, T, rfl, ho, hp⟩ := hq
  have ho : Old (h ++ [B.var [.vec (n.clocks.map fun x => [V.str x]) n.clocks.length, .vec (n.vars.map VarD.cells) n.vars.length, .vec (n.chans.map fun x => [V.str x]) n.chans.length, .vec (n.autos.map AutoD.cells) n.autos.length], B.var [.nils, .nils, .nils, .nils]]) h5 := ho
  obtain ⟨z0, z1⟩ := q1 ho
  have hp : AT (h.length + 2) h5 b g fl n.autos T := by simpa using hp
  have hbl := hp.b_lt
  have hlen : h.length + 2 ≤ h5.length := by simpa using ho.len
  simp [z0, z1]
  have e0 : ∀ y : B, (h5.set h.length y)[h.length]? = some y := fun y => get_set_eq z0
  have e1 : ∀ y : B, (h5.set h.length y)[h.length + 1]? = some (B.var [.nils, .nils, .nils, .nils]) := fun y => by rw [gN (by omega)]; exact z1
  obtain ⟨XX, hXX⟩ : ∃ XX, XX = [V.vec (n.clocks.map fun x => [V.str x]) n.clocks.length, V.vec (n.vars.map VarD.cells) n.vars.length, V.vec (n.chans.map fun x => [V.str x]) n.chans.length, V.ref b g 0 n.autos.length] := ⟨_, rfl⟩
  have hl1 : HL (h5.set h.length (.var XX)) := ho.hl.set (by rw [hXX]; simp; omega)
  have hl2 : HL ((h5.set h.length (.var XX)).set (h.length + 1) (.var XX)) := hl1.set (by rw [hXX]; simp; omega)
  have hO2 := ((hO.trans ho).set (b := h.length) (Nat.le_refl _) hl1).set (b := h.length + 1) (Nat.le_succ _) hl2
  have hp2 := ((hp.setne z0 (y := .var XX)).setne (e1 _) (y := .var XX)).low' (o' := h.length) (by omega)
  have e2 : ((h5.set h.length (.var XX)).set (h.length + 1) (.var XX))[h.length + 1]? = some (.var XX) := get_set_eq (e1 _)
  have hbl2 := hp2.b_lt
  rw [hXX] at hl2 hO2 hp2 e2 hbl2
  clear hl1 hXX
  repeat' (first
 |refine aK fun K hK=>?_|refine Step.by1 ?_|refine sE (by decide) ?_|refine cz rfl ?_|refine Fork.by2 (fun h=>?_) fun h=>?_
 |(refine aR ?_;simp [e0, e1])
 |(refine Split.by2 (fun h=>?_) (fun h=>?_)<;>(simp [h, e0, e1]))
 |(apply hK;clear hK K)|refine AWh ‹_› ?_)
  refine retgc (by simp [e2]; exact ⟨rfl, rfl⟩) (by simp) ⟨b, g, fl, T, by simp [vl], hO2, hp2⟩ (by simp at hbl2 ⊢; omega) (Go.AM.Leaves.sym hO2.len hO2.hl)
/-- A list whose first elements are turned. -/
def mixL {α : Type} (c' c : α → List V) (k : Nat) (l : List α) : List (List V) := (l.take k).map c' ++ (l.drop k).map c
section
variable {α : Type} {c' c : α → List V} {l : List α} {k : Nat}
theorem mix_len : (mixL c' c k l).length = l.length := by simp [mixL]; omega
theorem mix_0 : mixL c' c 0 l = l.map c := by simp [mixL]
theorem mix_all : mixL c' c l.length l = l.map c' := by simp [mixL]
theorem mix_get {x : α} (hx : l[k]? = some x) : (mixL c' c k l)[k]? = some (c x) := by
  have hk := (List.getElem?_eq_some_iff.1 hx).1
  unfold mixL
  rw [List.getElem?_append_right (by simp; omega)]
  simp [hx, Nat.min_eq_left (Nat.le_of_lt hk)]
theorem mix_set {x : α} (hx : l[k]? = some x) : (mixL c' c k l).set k (c' x) = mixL c' c (k + 1) l := by
  have hk := (List.getElem?_eq_some_iff.1 hx).1
  apply List.ext_getElem?
  intro j
  rw [List.getElem?_set]
  by_cases e : k = j
  · subst e
    rw [if_pos rfl, if_pos (by rw [mix_len]; exact hk)]
    unfold mixL
    rw [List.getElem?_append_left (by simp; omega)]
    simp [hx]
  · rw [if_neg e]
    unfold mixL
    rcases Nat.lt_or_ge j k with h | h
    · rw [List.getElem?_append_left (by simp; omega), List.getElem?_append_left (by simp; omega)]
      simp [List.getElem?_take, h, Nat.lt_succ_of_lt h]
    · rw [List.getElem?_append_right (by simp; omega), List.getElem?_append_right (by simp; omega)]
      simp only [List.length_map, List.length_take, List.getElem?_map, List.getElem?_drop]
      congr 2
      omega
end
end Go.Proofs.YtgmlimipejcpgaaDoor
end
