/-
  YtgmlimipejcpgaaGreatDoorLj27: steps of the proof of a law of the program: what these texts prove holds under the hypotheses that their theorems name, and no others.
-/
import Derived.Test.YtgmlimipejcpgaaGreatDoorLj26
import Derived.Test.YtgmlimipejcpgaaGreatDoorLj24
import Derived.Test.YtgmlimipejcpgaaGreatDoorLj10
section
set_option linter.unusedVariables false
set_option linter.unusedSimpArgs false
namespace Go.Proofs.YtgmlimipejcpgaaGreatDoor
open Go Go.AM Fx
theorem MR.appx {α : Type} {T0 T : TypeId} {en : List α → List (List V)} {h hc x : List B} {mr gm N : Nat} {fl : Bool} {ids : List (Nat × Nat)} {m : List (List α)} (p : MR T0 T en h mr gm fl ids N m hc) (hx : HL (hc ++ x)) : MR T0 T en (hc ++ x) mr gm fl ids N m (hc ++ x) :=
  ⟨p.ne, rfl, hx, by rw [get_app (List.getElem?_eq_some_iff.1 p.mr).1]; exact p.mr, p.ml, fun i y hy => by
    obtain ⟨r, h1, h2, h3⟩ := p.rows i y hy
    exact ⟨r, h1, h2, by rw [get_app (List.getElem?_eq_some_iff.1 h3).1]; exact h3⟩, p.inj, fun _ _ => rfl⟩
theorem MR.baseI {h hc : List B} {mr gm N : Nat} {fl : Bool} {ids : List (Nat × Nat)} {m : List (List Int)} (p : MR 47 3 ivs h mr gm fl ids N m hc) : MR 47 3 ivs hc mr gm fl ids N m hc := ⟨p.ne, rfl, p.hl, p.mr, p.ml, p.rows, p.inj, fun _ _ => rfl⟩
theorem MR.overI {h hc h' : List B} {mr gm N : Nat} {fl : Bool} {ids : List (Nat × Nat)} {m m' : List (List Int)} (p : MR 47 3 ivs h mr gm fl ids N m hc) (q : MR 47 3 ivs hc mr gm fl ids N m' h') : MR 47 3 ivs h mr gm fl ids N m' h' :=
  ⟨q.ne, q.len.trans p.len, q.hl, q.mr, q.ml, q.rows, q.inj, fun b hb => (q.rest b hb).trans (p.rest b hb)⟩
theorem N2.toMR {o b g N : Nat} {h : List B} {fl : Bool} {ids : List (Nat × Nat × Nat)} {P : List (List Int)} (p : N2 o h b g fl ids P) (hl : HL h) (hN : ∀ x ∈ ids, x.2.2 = N) : MR 47 3 ivs h b g fl (ids.map fun x => (x.1, x.2.1)) N P h := by
  refine ⟨by decide, rfl, hl, ?_, by simp [p.len], fun i x hx => ?_, fun i j x y hx hy e => ?_, fun _ _ => rfl⟩
  · rw [p.at0, mrefs, List.map_map]
    congr 2
    refine List.map_congr_left fun x hx => ?_
    simp [rv, hN x hx]
  · rw [List.getElem?_map] at hx
    cases h1 : ids[i]? with
    | none => rw [h1] at hx; cases hx
    | some z =>
      rw [h1] at hx; cases hx
      obtain ⟨ns, q1, q2, q3⟩ := p.rows i z h1
      exact ⟨ns, q1, by rw [q2]; exact hN z (List.mem_of_getElem? h1), q3⟩
  · have hi : i < ids.length := by have := (List.getElem?_eq_some_iff.1 hx).1; simpa using this
    have hj : j < ids.length := by have := (List.getElem?_eq_some_iff.1 hy).1; simpa using this
    have q := p.nodup
    rw [List.getElem?_map] at hx hy
    rw [List.getElem?_eq_getElem hi] at hx
    rw [List.getElem?_eq_getElem hj] at hy
    cases hx; cases hy
    rw [List.Nodup, List.pairwise_iff_getElem] at q
    rcases Nat.lt_trichotomy i j with h | h | h
    · exact absurd (by rw [List.getElem_map, List.getElem_map]; exact e) (q i j (by simpa using hi) (by simpa using hj) h)
    · exact h
    · exact absurd (by rw [List.getElem_map, List.getElem_map]; exact e.symm) (q j i (by simpa using hj) (by simpa using hi) h)
theorem MR.toN2 {o b g N : Nat} {h hc : List B} {fl : Bool} {ids : List (Nat × Nat)} {P : List (List Int)} (p : MR 47 3 ivs h b g fl ids N P hc) (hf : fl = true → ids = []) (ho : o ≤ b ∧ ∀ x ∈ ids, o ≤ x.1) : N2 o hc b g fl (ids.map fun x => (x.1, x.2, N)) P := by
  refine ⟨?_, fun h => by rw [hf h]; rfl, by simp [p.ml], fun j x hx => ?_, ⟨ho.1, fun x hx => ?_⟩, ?_⟩
  · rw [p.mr, mrefs, List.map_map]; rfl
  · rw [List.getElem?_map] at hx
    cases h1 : ids[j]? with
    | none => rw [h1] at hx; cases hx
    | some z =>
      rw [h1] at hx; cases hx
      obtain ⟨r, q1, q2, q3⟩ := p.rows j z h1
      exact ⟨r, q1, q2, q3⟩
  · obtain ⟨y, hy, rfl⟩ := List.mem_map.1 hx
    exact ho.2 y hy
  · rw [List.map_map, List.Nodup, List.pairwise_iff_getElem]
    intro i j hi hj hij e
    have hi' : i < ids.length := by simpa using hi
    have hj' : j < ids.length := by simpa using hj
    have := p.inj i j _ _ (List.getElem?_eq_getElem hi') (List.getElem?_eq_getElem hj') (by simpa using e)
    omega
def gsG (gs : List (List PartD)) : List GuardD := gs.flatMap fun g => g.flatMap (·.guards)
def raiseGs (so : Int → Bool) (gs : List (List PartD)) (o : List Int) : List Int := raiseL so (gsG gs) o
theorem raiseGs_nil {so : Int → Bool} {o : List Int} : raiseGs so [] o = o := rfl
theorem raiseGs_cons {so : Int → Bool} {g : List PartD} {gs : List (List PartD)} {o : List Int} : raiseGs so (g :: gs) o = raiseGs so gs (raisePs so g o) := by simp only [raiseGs, raisePs, gsG, List.flatMap_cons, raiseL_append]
theorem raiseGs_len {so : Int → Bool} {gs : List (List PartD)} {o : List Int} : (raiseGs so gs o).length = o.length := raiseL_len
def fromG (es : List EdgeD) (i : Nat) : List GuardD := (es.filter fun e => decide (e.frm = (i : Int))).flatMap (·.guards)
theorem fromG_snoc {es : List EdgeD} {e : EdgeD} {i : Nat} : fromG (es ++ [e]) i = fromG es i ++ (if e.frm = (i : Int) then e.guards else []) := by
  unfold fromG
  rw [List.filter_append, List.flatMap_append]
  by_cases h : e.frm = (i : Int)
  · rw [if_pos h]; simp [h]
  · rw [if_neg h]; simp [h]
def invAt (a : AutoD) (i : Nat) : List GuardD := ((a.locs[i]?).map (·.inv)).getD []
def row1 (a : AutoD) (N : Nat) (so : Int → Bool) (gs : List (List PartD)) (i : Nat) : List Int := raiseGs so gs (raiseL so (invAt a i) (List.replicate N (-1)))
def luBase (a : AutoD) (N : Nat) (so : Int → Bool) (gs : List (List PartD)) (i : Nat) : List Int := raiseL so (fromG a.edges i) (row1 a N so gs i)
def luB (a : AutoD) (N : Nat) (so : Int → Bool) (gs : List (List PartD)) (i c : Nat) : Int := (luBase a N so gs i).getD c 0
theorem row1_len {a : AutoD} {N : Nat} {so : Int → Bool} {gs : List (List PartD)} {i : Nat} : (row1 a N so gs i).length = N := by simp [row1, raiseGs_len, raiseL_len]
theorem luBase_len {a : AutoD} {N : Nat} {so : Int → Bool} {gs : List (List PartD)} {i : Nat} : (luBase a N so gs i).length = N := by rw [luBase, raiseL_len, row1_len]
/-- Behind k places: their rows are raised by invariants and goals. -/
structure L2 (a : AutoD) (N : Nat) (so : Int → Bool) (gs : List (List PartD)) (k : Nat) (m : List (List Int)) : Prop where
  len : m.length = a.locs.length
  row : ∀ i, i < a.locs.length → m[i]? = some (if i < k then row1 a N so gs i else List.replicate N (-1))
/-- Behind k edges. -/
structure L3 (a : AutoD) (N : Nat) (so : Int → Bool) (gs : List (List PartD)) (k : Nat) (m : List (List Int)) : Prop where
  len : m.length = a.locs.length
  row : ∀ i, i < a.locs.length → m[i]? = some (raiseL so (fromG (a.edges.take k) i) (row1 a N so gs i))
section
variable {a : AutoD} {N k : Nat} {so : Int → Bool} {gs : List (List PartD)} {m : List (List Int)}
theorem L2.init : L2 a N so gs 0 (List.replicate a.locs.length (List.replicate N (-1))) := ⟨by simp, fun i hi => by rw [if_neg (by omega)]; simp [hi]⟩
theorem L2.step (p : L2 a N so gs k m) (hk : k < a.locs.length) : L2 a N so gs (k + 1) (m.set k (row1 a N so gs k)) := by
  refine ⟨by rw [List.length_set]; exact p.len, fun i hi => ?_⟩
  rw [List.getElem?_set]
  by_cases e : k = i
  · subst e; rw [if_pos rfl, if_pos (by rw [p.len]; exact hi), if_pos (by omega)]
  · rw [if_neg e, p.row i hi]
    by_cases h : i < k
    · rw [if_pos h, if_pos (by omega)]
    · rw [if_neg h, if_neg (by omega)]
theorem L2.done (p : L2 a N so gs a.locs.length m) : L3 a N so gs 0 m := ⟨p.len, fun i hi => by rw [p.row i hi, if_pos hi]; rfl⟩
theorem L3.step (p : L3 a N so gs k m) {e : EdgeD} (he : a.edges[k]? = some e) {q : Nat} (hq : e.frm = (q : Int)) {r : List Int} (hr : m[q]? = some r) : L3 a N so gs (k + 1) (m.set q (raiseL so e.guards r)) := by
  refine ⟨by rw [List.length_set]; exact p.len, fun i hi => ?_⟩
  have ht : a.edges.take (k + 1) = a.edges.take k ++ [e] := by rw [List.take_add_one, he]; rfl
  rw [List.getElem?_set, ht, fromG_snoc]
  by_cases e2 : q = i
  · subst e2
    rw [if_pos rfl, if_pos (by rw [p.len]; exact hi), if_pos hq, raiseL_append]
    have := p.row q hi
    rw [hr] at this; cases this; rfl
  · rw [if_neg e2, if_neg (by omega), p.row i hi, List.append_nil]
theorem L3.ls (p : L3 a N so gs a.edges.length m) : LS a N (luB a N so gs) m := by
  have hrow : ∀ i r, m[i]? = some r → i < a.locs.length ∧ r = luBase a N so gs i := fun i r hr => by
    have hi : i < a.locs.length := by rw [← p.len]; exact (List.getElem?_eq_some_iff.1 hr).1
    have := p.row i hi
    rw [hr, List.take_length] at this
    cases this; exact ⟨hi, rfl⟩
  refine ⟨p.len, fun i r hr => ?_, fun i c v h => ?_, fun i c v h => ?_⟩
  · rw [(hrow i r hr).2]; exact luBase_len
  · obtain ⟨r, h1, h2⟩ := nget_some h
    obtain ⟨hi, rfl⟩ := hrow i r h1
    exact ⟨i, .refl hi, by simp [luB, List.getD, h2]⟩
  · obtain ⟨r, h1, h2⟩ := nget_some h
    obtain ⟨hi, rfl⟩ := hrow i r h1
    simp [luB, List.getD, h2]
end
end Go.Proofs.YtgmlimipejcpgaaGreatDoor
end
section
set_option linter.unusedSimpArgs false
set_option linter.unusedVariables false
namespace Go.Proofs.YtgmlimipejcpgaaGreatDoor
open Go Go.AM Fx
theorem c_luRaiseX {h hc x : List B} {mr gm N : Nat} {fl : Bool} {ids : List (Nat × Nat)} {m : List (List Int)} (p0 : MR 47 3 ivs h mr gm fl ids N m hc) (hx : HL (hc ++ x)) (hN : N ≤ 1048576) (fso : Nat) (so : Int → Bool) (hso : ∀ c, PC fso [.int .u8 c] (.bool (so c))) {p : Nat} {y : Nat × Nat} {r : List Int} (hy : ids[p]? = some y) (hr : m[p]? = some r)
    (l : List GuardD) (hl : l.length ≤ 1048576) (hg : ∀ g ∈ l, okG N g) (hp : ids.length ≤ 1048576) :
    GCall Tryz.prog GV 167 [.ref mr gm 0 ids.length, .int .i64 p, vl GuardD.cells l, .fn (.func fso) [] []] (hc ++ x) (fun v h' => v = .tup [] ∧ h' = hc.set y.1 (.row 3 y.2 0 true (ivs (raiseL so l r))) ++ x) := by
  obtain ⟨_, _, _, h3⟩ := p0.rows p y hy
  refine (c_luRaise (p0.appx hx) hN fso so hso hy hr l hl hg).mono fun v h' hq => ⟨hq.1, ?_⟩
  rw [hq.2, set_app (List.getElem?_eq_some_iff.1 h3).1]
theorem c_luRaiseC {h hc x : List B} {mr gm N : Nat} {fl : Bool} {ids : List (Nat × Nat)} {m : List (List Int)} (p0 : MR 47 3 ivs h mr gm fl ids N m hc) (hN : N ≤ 1048576) (fso : Nat) (so : Int → Bool) (hso : ∀ c, PC fso [.int .u8 c] (.bool (so c))) {p : Nat} {y : Nat × Nat} {c : List Int} (hy : ids[p]? = some y) (hcl : c.length = N) (hx : HL (hc.set y.1 (.row 3 y.2 0 true (ivs c)) ++ x))
    (l : List GuardD) (hl : l.length ≤ 1048576) (hg : ∀ g ∈ l, okG N g) (hp : ids.length ≤ 1048576) :
    GCall Tryz.prog GV 167 [.ref mr gm 0 ids.length, .int .i64 p, vl GuardD.cells l, .fn (.func fso) [] []] (hc.set y.1 (.row 3 y.2 0 true (ivs c)) ++ x) (fun v h' => v = .tup [] ∧ h' = hc.set y.1 (.row 3 y.2 0 true (ivs (raiseL so l c))) ++ x) := by
  have hpl : p < m.length := by rw [p0.ml]; exact (List.getElem?_eq_some_iff.1 hy).1
  refine (c_luRaiseX (p0.upd hy hcl) hx hN fso so hso hy (r := c) (by rw [List.getElem?_set, if_pos rfl, if_pos hpl]) l hl hg hp).mono fun v h' hq => ⟨hq.1, ?_⟩
  rw [hq.2, List.set_set]
structure LO where
  i : Nat
  hc : List B
  fl : Bool
  ids : List (Nat × Nat × Nat)
structure LOI (n : NetD) (a : AutoD) (N : Nat) (h : List B) (s : LO) : Prop where
  i : s.i ≤ a.locs.length
  ho : Old h s.hc
  c0 : s.hc[h.length]? = some (.var n.cells)
  c1 : s.hc[h.length + 1]? = some (.var a.cells)
  il : s.ids.length = s.i
  iN : ∀ x ∈ s.ids, x.2.2 = N
  p : N2 h.length s.hc (h.length + 2) s.i s.fl s.ids (List.replicate s.i (List.replicate N (-1)))
set_option maxRecDepth 20000 in
set_option maxHeartbeats 16000000 in
theorem c_luOf (n : NetD) (hn : n.ok) (a : AutoD) (ham : a ∈ n.autos) (gs : List (List PartD)) (hgl : gs.length ≤ 1048576) (hgs : ∀ g ∈ gs, okGoal g) (he : lookE n gs = 0) (fso : Nat) (so : Int → Bool) (hso : ∀ c, PC fso [.int .u8 c] (.bool (so c))) {h : List B} (hl : HL h) :
    GCall Tryz.prog GV 104 [.agg n.cells, .agg a.cells, gsV gs, .fn (.func fso) [] []] h (fun v h' => ∃ b g fl ids, v = .ref b g 0 ids.length ∧ Old h h' ∧ N2 h.length h' b g fl ids (luM a n.clocks.length (luB a n.clocks.length so gs))) := by
  obtain ⟨h0, hgg⟩ := look_ok he
  have hw := netE_whole h0
  have hE := edges_ok hw a ham
  have ha := hn.2.2.2.2 a ham
  have hal := ha.2.1
  have hae := ha.2.2
  have hN := hn.1.1
  have hgA : ∀ x ∈ guardsA a, okG n.clocks.length x := fun x hx => whole_guards hw x (List.mem_flatMap.2 ⟨a, ham, hx⟩)
  have hgI : ∀ l ∈ a.locs, ∀ x ∈ l.inv, okG n.clocks.length x := fun l hl x hx => hgA x (List.mem_append.2 (.inl (List.mem_flatMap.2 ⟨l, hl, hx⟩)))
  have hgE : ∀ e ∈ a.edges, ∀ x ∈ e.guards, okG n.clocks.length x := fun e he x hx => hgA x (List.mem_append.2 (.inr (List.mem_flatMap.2 ⟨e, he, hx⟩)))
  have hgG : ∀ g ∈ gs, ∀ p ∈ g, ∀ x ∈ p.guards, okG n.clocks.length x := fun g hg => goal_guards (hgg g hg)
  obtain ⟨N, hNe⟩ : ∃ N, n.clocks.length = N := ⟨_, rfl⟩
  rw [hNe] at hgA hgI hgE hgG hN ⊢
  refine gB1 Tryz.func104 rfl (by decide) Tryz.ntmps104 (by simp) Tryz.results104 ?_
  repeat' (first
 |refine aK fun K hK=>?_|refine Step.by1 ?_|refine sE (by decide) ?_|refine cz rfl ?_|refine Fork.by2 (fun h=>?_) fun h=>?_
 |(refine aR ?_;simp [gsV, vl, NetD.cells, AutoD.cells])
 |(refine Split.by2 (fun h=>?_) (fun h=>?_)<;>(simp [h, gsV, vl, NetD.cells, AutoD.cells]))
 |(apply hK;clear hK K)|refine AWh ‹_› ?_)
  refine AW_nilrow 9 47 rfl (by simp) ?_
  have hH0 : HL (h ++ [B.var n.cells, B.var a.cells, B.row 47 0 0 true []]) := hl.app (by simp [NetD.cells, AutoD.cells, vl])
  have u0 := ga0 (h := h) (x := [B.var n.cells, B.var a.cells, B.row 47 0 0 true []]) rfl
  have u1 := ga1 (h := h) (x := [B.var n.cells, B.var a.cells, B.row 47 0 0 true []]) (k := 1) rfl
  have u2 := ga1 (h := h) (x := [B.var n.cells, B.var a.cells, B.row 47 0 0 true []]) (k := 2) rfl
  have hNb : (N : Int) ≤ 281474976710656 := by omega
  refine AW_loopGL [2, 3, 4, 5, 20] (fun s : LO => [(9, .ref (h.length + 2) s.i 0 s.i), (21, .int .i64 s.i)]) (fun s => s.hc) (LOI n a N h) (fun s => a.locs.length - s.i) ⟨0, h ++ [B.var n.cells, B.var a.cells, B.row 47 0 0 true []], true, []⟩
    ⟨Nat.zero_le _, (Old.rfl hl).app hH0, u0, u1, rfl, by simp, ⟨u2, fun _ => rfl, rfl, fun i y hy => by simp at hy, ⟨by omega, by simp⟩, by simp⟩⟩
    (Weak.sym (x := []) (by simp [NetD.cells, AutoD.cells, vl]) hH0 (by simp [vl, gsV])) (fun s hs => by have := hs.ho.len; have := hs.p.b_lt; simp; omega) ?_
  clear u0 u1 u2 hH0
  rintro ⟨i, hc, fl, ids⟩ ⟨hi, ho, c0, c1, hil, hiN, hp⟩
  simp only at hi ho c0 c1 hil hiN hp
  by_cases hlt : i < a.locs.length
  · have hlt' : (i : Int) < a.locs.length := by omega
    have w1 : IntKind.i64.wrap ((i : Int) + 1) = i + 1 := wI (by omega) (by omega)
    have hby : (i + 1) * 24 ≤ 140737488355328 := by omega
    have hb := hp.b_lt
    have l0 := (List.getElem?_eq_some_iff.1 c0).1
    have l1 := (List.getElem?_eq_some_iff.1 c1).1
    have k0 := fun x : List B => (get_app (x := x) l0).trans c0
    have kb := fun x : List B => (get_app (x := x) hb).trans hp.at0
    have sb := fun (x : List B) (y : B) => set_app (x := x) (y := y) hb
    have g0 := fun x : List B => ga0 (h := hc) (x := x) rfl
    have g1 := fun (x : List B) (k : Nat) => ga1 (h := hc) (x := x) (k := k) rfl
    have hml : (ids.map fun x => [rv x]).length = i := by simp [hil]
    have hH1 : HL (hc ++ [B.row 3 0 0 true (ivs [-1])]) := ho.hl.app (by simp)
    have hrep := c_repeat hH1 (b := hc.length) (g := 0) (f := 0) (x := -1) (by rw [g0]; rfl) N hN
    have hp1 : N2 h.length (hc ++ [B.row 3 0 0 true (ivs [-1])]) (h.length + 2) i fl ids (List.replicate i (List.replicate N (-1))) := hp.mono fun k hk => get_app hk
    have hsn := hp1.snoc (ns := List.replicate N (-1)) (by have := ho.len; simp; omega)
    rw [List.length_replicate] at hsn
    have hrs : List.replicate i (List.replicate N (-1 : Int)) ++ [List.replicate N (-1)] = List.replicate (i + 1) (List.replicate N (-1)) := by rw [List.replicate_succ']
    rw [hrs] at hsn
    rw [sb] at hsn
    simp only [List.length_append, List.length_cons, List.length_nil, List.append_assoc, List.cons_append, List.nil_append, Nat.zero_add] at hsn
    have hold := ho.setapp (b := h.length + 2) (y := B.row 47 (i + 1) 0 false (ids.map (fun x => [rv x]) ++ [[rv (hc.length + 1, 0, N)]])) (x := [B.row 3 0 0 true (ivs [-1]), B.row 3 0 0 true (ivs (List.replicate N (-1)))]) (by omega) (ho.hl.setapp (rowR_lt fun y hy => by
      rcases List.mem_append.1 hy with hy | hy
      · exact refs_lt (fun x hx => by have := hp.ids_lt x hx; simp; omega) y hy
      · simp at hy; subst hy; simp [rv]) (by simp))
    repeat' (first
 |refine aK fun K hK=>?_|refine Step.by1 ?_|refine sE (by decide) ?_|refine cz rfl ?_|refine Fork.by2 (fun h=>?_) fun h=>?_
 |(refine aR ?_;simp [vl, NetD.cells, hlt, hlt', w1, k0, kb, sb, g0, g1, hml, hby, hNe])
 |(refine Split.by2 (fun h=>?_) (fun h=>?_)<;>(simp [h, vl, NetD.cells, hlt, hlt', w1, k0, kb, sb, g0, g1, hml, hby, hNe]))
 |(refine aG (f := 166) rfl rfl hrep rfl (fun v h' hq => ?_); obtain ⟨rfl, rfl⟩ := hq; simp [kb, sb, hil, hby])
 |(apply hK;clear hK K)|refine AWh ‹_› ?_)
    have hI : LOI n a N h ⟨i + 1, _, false, ids ++ [(hc.length + 1, 0, N)]⟩ := ⟨by show i + 1 ≤ _; omega, hold, ?_, ?_, by simp [hil], ?_, hsn⟩
    refine ⟨_, hI, by show _ - (i + 1) < _ - i; omega, Weak.sym (x := [B.row 47 0 0 false [[V.ref (hc.length + 1) 0 0 N]]]) (by simp [rv]) hold.hl (by have := hold.len; have := hsn.b_lt; simp [vl, gsV]; omega)⟩
    · show (hc.set _ _ ++ _)[h.length]? = _
      rw [get_app (by rw [List.length_set]; exact l0), gN (by omega)]; exact c0
    · show (hc.set _ _ ++ _)[h.length + 1]? = _
      rw [get_app (by rw [List.length_set]; exact l1), gN (by omega)]; exact c1
    · intro x hx
      rcases List.mem_append.1 hx with hx | hx
      · exact hiN x hx
      · simp at hx; subst hx; rfl
  · obtain rfl : i = a.locs.length := by omega
    repeat' (first
 |refine aK fun K hK=>?_|refine Step.by1 ?_|refine sE (by decide) ?_|refine cz rfl ?_|refine Fork.by2 (fun h=>?_) fun h=>?_
 |(refine aR ?_;simp [vl, c1, AutoD.cells])
 |(refine Split.by2 (fun h=>?_) (fun h=>?_)<;>(simp [h, vl, c1, AutoD.cells]))
 |(apply hK;clear hK K)|refine AWh ‹_› ?_)
    have hm0 := hp.toMR ho.hl hiN
    have hfl := hp.flat
    have hlow := hp.low
    obtain ⟨js, hjs⟩ : ∃ js, (ids.map fun x => (x.1, x.2.1)) = js := ⟨_, rfl⟩
    have hjl : js.length = a.locs.length := by rw [← hjs]; simp [hil]
    have hjf : fl = true → js = [] := fun h => by rw [← hjs, hfl h]; rfl
    have hjo : ∀ x ∈ js, h.length ≤ x.1 := fun x hx => by
      rw [← hjs] at hx
      obtain ⟨y, hy, rfl⟩ := List.mem_map.1 hx
      exact hlow.2 y hy
    rw [hjs] at hm0
    have hj1 : ∀ x ∈ js, x.1 ≠ h.length + 1 := fun x hx e => by
      obtain ⟨q, hq⟩ := List.getElem?_of_mem hx
      obtain ⟨_, _, _, h3⟩ := hm0.rows q x hq
      rw [e, c1] at h3; cases h3
    have hM0 : L2 a N so gs 0 (List.replicate a.locs.length (List.replicate N (-1))) := .init
    generalize List.replicate a.locs.length (List.replicate N (-1 : Int)) = m0 at *
    generalize hc = H0 at *
    have hmrl := (List.getElem?_eq_some_iff.1 hm0.mr).1
    refine aL [2, 3, 5, 9, 33, 34] (fun s : NS => [(35, .int .i64 s.k)]) (fun s => s.hc) (fun s => s.k ≤ a.locs.length ∧ L2 a N so gs s.k s.m ∧ MR 47 3 ivs H0 (h.length + 2) a.locs.length fl js N s.m s.hc) (fun s => a.locs.length - s.k) ⟨0, false, m0, H0⟩ ⟨Nat.zero_le _, hM0, hm0⟩
      (Weak.sym (x := []) (by simp) hm0.hl (by simp [vl, gsV]; omega)) (fun s hs => by rw [hs.2.2.len]) ?_
    rintro ⟨k, mo, m, hc⟩ ⟨hk, hp, hm⟩
    simp only at hk hp hm
    have hlen := hm.len
    by_cases hkt : k < a.locs.length
    · obtain ⟨l, hle⟩ : ∃ l, a.locs[k] = l := ⟨_, rfl⟩
      have hlm : l ∈ a.locs := hle ▸ List.getElem_mem hkt
      have hli := (hal.2 l hlm).2.2
      have hkt' : (k : Int) < a.locs.length := by omega
      have w1 : IntKind.i64.wrap ((k : Int) + 1) = k + 1 := wI (by omega) (by omega)
      obtain ⟨x, hx, hmp⟩ := hm.at (i := k) (by omega)
      obtain ⟨r, hr, hrl, hrow⟩ := hm.rows k x hx
      have hst := hp.step hkt
      have hr0 : r = List.replicate N (-1) := by have := hp.row k hkt; rw [if_neg (by omega), hr] at this; cases this; rfl
      have hiv : invAt a k = l.inv := by simp [invAt, hkt, hle]
      obtain ⟨rr, hrr⟩ : ∃ rr, row1 a N so gs k = rr := ⟨_, rfl⟩
      rw [hrr] at hst
      rw [row1, hiv, ← hr0] at hrr
      have hxl := (List.getElem?_eq_some_iff.1 hrow).1
      have hHx : ∀ (c : List Int) (y : List B), (∀ z ∈ y, z.lt 0) → HL (hc.set x.1 (.row 3 x.2 0 true (ivs c)) ++ y) := fun c y hy => (hm.hl.set rowF_lt).app fun z hz => B.lt_mono (Nat.zero_le _) (hy z hz)
      have hX0 : HL (hc ++ [B.var l.cells]) := hm.hl.app (by simp [LocD.cells, vl])
      have hra := c_luRaiseX hm hX0 hN fso so hso hx hr l.inv hli.1 (hgI l hlm) (by omega)
      rw [hjl] at hra
      simp only [LocD.cells, vl] at hra
      have g0 := fun y : List B => ga0 (x := y) hlen
      have g1 := fun (y : List B) (k : Nat) => ga1 (x := y) (k := k) hlen
      repeat' (first
 |refine aK fun K hK=>?_|refine Step.by1 ?_|refine sE (by decide) ?_|refine cz rfl ?_|refine Fork.by2 (fun h=>?_) fun h=>?_
 |(refine aR ?_;simp [vl, LocD.cells, gsV, hkt, hkt', hle, g0, g1, hlen])
 |(refine Split.by2 (fun h=>?_) (fun h=>?_)<;>(simp [h, vl, LocD.cells, gsV, hkt, hkt', hle, g0, g1, hlen]))
 |(refine aG (f := 167) rfl rfl hra rfl (fun v h' hq => ?_); obtain ⟨rfl, rfl⟩ := hq; simp)
 |(apply hK;clear hK K)|refine AWh ‹_› ?_)
      have b0 := fun (c : List Int) (y : List B) => ga0 (h := hc.set x.1 (.row 3 x.2 0 true (ivs c))) (x := y) (n := H0.length) (by rw [List.length_set]; exact hlen)
      have b1 := fun (c : List Int) (y : List B) (k : Nat) => ga1 (h := hc.set x.1 (.row 3 x.2 0 true (ivs c))) (x := y) (n := H0.length) (k := k) (by rw [List.length_set]; exact hlen)
      have bs0 := fun (c : List Int) (y : List B) (z : B) => sa0 (h := hc.set x.1 (.row 3 x.2 0 true (ivs c))) (x := y) (n := H0.length) (y := z) (by rw [List.length_set]; exact hlen)
      have hHl : ∀ c : List Int, HL (hc.set x.1 (.row 3 x.2 0 true (ivs c)) ++ [B.var l.cells]) := fun c => hHx c _ (by simp [LocD.cells, vl])
      refine AW_range (r := rr) gs 48 [2, 3, 5, 9, 10, 33, 34, 35, 46, 47] (fun _ : List Int => []) (fun c => hc.set x.1 (B.row 3 x.2 0 true (ivs c)) ++ [B.var l.cells]) (fun _ c => c.length = N) (raiseGs so) (raiseL so l.inv r) hrr (by rw [raiseL_len]; exact hrl)
        (Weak.sym (x := []) (by simp [LocD.cells, vl]) (hHl _) (by simp [vl, gsV, hlen]; omega)) (fun _ c _ => by simp) ?_ ?_
      · intro q c g hgq hq hge hJ hF
        rw [raiseGs_cons] at hF
        obtain ⟨c2, hc2⟩ : ∃ c2, raisePs so g c = c2 := ⟨_, rfl⟩
        rw [hc2] at hF
        have hgm : g ∈ gs := List.mem_of_getElem? hgq
        have hgo := hgs g hgm
        have hgG2 := hgG g hgm
        have hq' : (q : Int) < gs.length := by omega
        have w2 : IntKind.i64.wrap ((q : Int) + 1) = q + 1 := wI (by omega) (by omega)
        clear hgq hgm
        repeat' (first
 |refine aK fun K hK=>?_|refine Step.by1 ?_|refine sE (by decide) ?_|refine cz rfl ?_|refine Fork.by2 (fun h=>?_) fun h=>?_
 |(refine aR ?_;simp [gsV, vl, hq, hq', hge])
 |(refine Split.by2 (fun h=>?_) (fun h=>?_)<;>(simp [h, gsV, vl, hq, hq', hge]))
 |(apply hK;clear hK K)|refine AWh ‹_› ?_)
        refine AW_range (r := c2) g 54 [2, 3, 5, 9, 10, 33, 34, 35, 46, 47, 48, 52, 53] (fun _ : List Int => []) (fun c => hc.set x.1 (B.row 3 x.2 0 true (ivs c)) ++ [B.var l.cells]) (fun _ c => c.length = N) (raisePs so) c hc2 hJ
          (Weak.sym (x := []) (by simp [LocD.cells, vl]) (hHl _) (by simp [vl, gsV, hlen]; omega)) (fun _ c _ => by simp) ?_ ?_
        · intro j c p hpj hj hpe hJ hF2
          rw [raisePs_cons] at hF2
          have hpm : p ∈ g := List.mem_of_getElem? hpj
          have hpg := (hgo.2 p hpm).2.1
          have hgG3 := hgG2 p hpm
          have hj' : (j : Int) < g.length := by omega
          have w3 : IntKind.i64.wrap ((j : Int) + 1) = j + 1 := wI (by have := hgo.1; omega) (by have := hgo.1; omega)
          clear hpj hpm
          have hrb := c_luRaiseC hm hN fso so hso hx hJ (x := [B.var l.cells, B.var p.cells]) (hHx c _ (by simp [PartD.cells, LocD.cells, vl])) p.guards hpg.1 hgG3 (by omega)
          rw [hjl] at hrb
          simp only [PartD.cells, LocD.cells, vl] at hrb
          repeat' (first
 |refine aK fun K hK=>?_|refine Step.by1 ?_|refine sE (by decide) ?_|refine cz rfl ?_|refine Fork.by2 (fun h=>?_) fun h=>?_
 |(refine aR ?_;simp [gsV, vl, PartD.cells, LocD.cells, hj, hj', hpe, w3, b0, b1, bs0, hlen])
 |(refine Split.by2 (fun h=>?_) (fun h=>?_)<;>(simp [h, gsV, vl, PartD.cells, LocD.cells, hj, hj', hpe, w3, b0, b1, bs0, hlen]))
 |(refine aG (f := 167) rfl rfl hrb rfl (fun v h' hq => ?_); obtain ⟨rfl, rfl⟩ := hq; simp)
 |(apply hK;clear hK K)|refine AWh ‹_› ?_)
          refine ⟨_, hF2, by rw [raiseL_len]; exact hJ, Weak.sym (x := [B.var p.cells]) (by simp [PartD.cells, LocD.cells, vl]) (hHl _) (by simp [vl, gsV, hlen]; omega)⟩
        · intro c hJ hF2
          rw [raisePs_nil] at hF2
          subst c
          repeat' (first
 |refine aK fun K hK=>?_|refine Step.by1 ?_|refine sE (by decide) ?_|refine cz rfl ?_|refine Fork.by2 (fun h=>?_) fun h=>?_
 |(refine aR ?_;simp [gsV, vl, w2])
 |(refine Split.by2 (fun h=>?_) (fun h=>?_)<;>(simp [h, gsV, vl, w2]))
 |(apply hK;clear hK K)|refine AWh ‹_› ?_)
          refine ⟨c2, hF, hJ, Weak.sym (x := []) (by simp [LocD.cells, vl]) (hHl _) (by simp [vl, gsV, hlen]; omega)⟩
      · intro c hJ hF
        rw [raiseGs_nil] at hF
        subst c
        repeat' (first
 |refine aK fun K hK=>?_|refine Step.by1 ?_|refine sE (by decide) ?_|refine cz rfl ?_|refine Fork.by2 (fun h=>?_) fun h=>?_
 |(refine aR ?_;simp [gsV, vl, w1])
 |(refine Split.by2 (fun h=>?_) (fun h=>?_)<;>(simp [h, gsV, vl, w1]))
 |(apply hK;clear hK K)|refine AWh ‹_› ?_)
        have hm' := hm.upd hx hJ
        exact ⟨⟨k + 1, mo, _, _⟩, ⟨by show k + 1 ≤ _; omega, hst, hm'⟩, by show _ - (k + 1) < _ - k; omega, Weak.sym (x := [B.var l.cells]) (by simp [LocD.cells, vl]) hm'.hl (by simp [vl, gsV, hlen]; omega)⟩
    · obtain rfl : k = a.locs.length := by omega
      have hp3 := hp.done
      have c1' : hc[h.length + 1]? = some (.var a.cells) := by rw [hm.rest _ hj1]; exact c1
      simp only [AutoD.cells, vl] at c1'
      repeat' (first
 |refine aK fun K hK=>?_|refine Step.by1 ?_|refine sE (by decide) ?_|refine cz rfl ?_|refine Fork.by2 (fun h=>?_) fun h=>?_
 |(refine aR ?_;simp [vl, c1'])
 |(refine Split.by2 (fun h=>?_) (fun h=>?_)<;>(simp [h, vl, c1']))
 |(apply hK;clear hK K)|refine AWh ‹_› ?_)
      clear hp
      refine aL [3, 5, 9, 68, 69] (fun s : NS => [(70, .int .i64 s.k)]) (fun s => s.hc) (fun s => s.k ≤ a.edges.length ∧ L3 a N so gs s.k s.m ∧ MR 47 3 ivs H0 (h.length + 2) a.locs.length fl js N s.m s.hc) (fun s => a.edges.length - s.k) ⟨0, false, m, hc⟩ ⟨Nat.zero_le _, hp3, hm⟩
        (Weak.sym (x := []) (by simp) hm.hl (by simp [vl, gsV, hlen]; omega)) (fun s hs => by rw [hs.2.2.len, hlen]) ?_
      clear hp3 hm hlen c1'
      rintro ⟨k, mo, m, hc⟩ ⟨hk, hp, hm⟩
      simp only at hk hp hm
      have hlen := hm.len
      by_cases hkt : k < a.edges.length
      · obtain ⟨e, he⟩ : ∃ e, a.edges[k] = e := ⟨_, rfl⟩
        have he' : a.edges[k]? = some e := by rw [List.getElem?_eq_getElem hkt, he]
        have hem := List.mem_of_getElem? he'
        obtain ⟨⟨f1, f2⟩, t1, t2⟩ := hE e hem
        obtain ⟨p, hpp⟩ := Int.eq_ofNat_of_zero_le f1
        have hkt' : (k : Int) < a.edges.length := by omega
        have w1 : IntKind.i64.wrap ((k : Int) + 1) = k + 1 := wI (by omega) (by omega)
        have hpl : p < a.locs.length := by omega
        obtain ⟨x, hx, hmp⟩ := hm.at (i := p) (by omega)
        obtain ⟨r, hr, hrl, hrow⟩ := hm.rows p x hx
        have hst := hp.step he' hpp hr
        have hX0 : HL (hc ++ [B.var e.cells]) := hm.hl.app (by simp [EdgeD.cells, vl])
        have hra := c_luRaiseX hm hX0 hN fso so hso hx hr e.guards (hae.2 e hem).2.2.1.1 (hgE e hem) (by omega)
        rw [hjl] at hra
        simp only [EdgeD.cells, vl, hpp] at hra
        have g0 := fun y : List B => ga0 (x := y) hlen
        have g1 := fun (y : List B) (k : Nat) => ga1 (x := y) (k := k) hlen
        repeat' (first
 |refine aK fun K hK=>?_|refine Step.by1 ?_|refine sE (by decide) ?_|refine cz rfl ?_|refine Fork.by2 (fun h=>?_) fun h=>?_
 |(refine aR ?_;simp [vl, EdgeD.cells, hkt, hkt', he, hpp, g0, g1, hlen, w1])
 |(refine Split.by2 (fun h=>?_) (fun h=>?_)<;>(simp [h, vl, EdgeD.cells, hkt, hkt', he, hpp, g0, g1, hlen, w1]))
 |(refine aG (f := 167) rfl rfl hra rfl (fun v h' hq => ?_); obtain ⟨rfl, rfl⟩ := hq; simp)
 |(apply hK;clear hK K)|refine AWh ‹_› ?_)
        have hm' := hm.upd hx (r := raiseL so e.guards r) (by rw [raiseL_len]; exact hrl)
        exact ⟨⟨k + 1, mo, _, _⟩, ⟨by show k + 1 ≤ _; omega, hst, hm'⟩, by show _ - (k + 1) < _ - k; omega, Weak.sym (x := [B.var e.cells]) (by simp [EdgeD.cells, vl, hpp]) hm'.hl (by simp [vl, gsV, hlen]; omega)⟩
      · obtain rfl : k = a.edges.length := by omega
        have hls := hp.ls
        repeat' (first
 |refine aK fun K hK=>?_|refine Step.by1 ?_|refine sE (by decide) ?_|refine cz rfl ?_|refine Fork.by2 (fun h=>?_) fun h=>?_
 |(refine aR ?_;simp [vl])
 |(refine Split.by2 (fun h=>?_) (fun h=>?_)<;>(simp [h, vl]))
 |(apply hK;clear hK K)|refine AWh ‹_› ?_)
        refine aL [5, 9] (fun s : NS => []) (fun s => s.hc) (fun s => LS a N (luB a N so gs) s.m ∧ MR 47 3 ivs H0 (h.length + 2) a.locs.length fl js N s.m s.hc) (fun s => nM a (luB a N so gs) s.m) ⟨0, false, m, hc⟩ ⟨hls, hm⟩
          (Weak.sym (x := []) (by simp) hm.hl (by simp [vl, gsV, hlen]; omega)) (fun s hs => by rw [hs.2.len, hlen]) ?_
        clear hp hm hlen hls
        rintro ⟨_, _, m, hc⟩ ⟨hs, hm⟩
        simp only at hs hm
        have hsp := c_luSpread hm.baseI a ha hE _ hs hN
        have c1' : hc[h.length + 1]? = some (.var a.cells) := by rw [hm.rest _ hj1]; exact c1
        rw [hjl] at hsp
        simp only [AutoD.cells, vl] at hsp c1'
        repeat' (first
 |refine aK fun K hK=>?_|refine Step.by1 ?_|refine sE (by decide) ?_|refine cz rfl ?_|refine Fork.by2 (fun h=>?_) fun h=>?_
 |(refine aR ?_;simp [c1'])
 |(refine Split.by2 (fun h=>?_) (fun h=>?_)<;>(simp [h, c1']))
 |(refine aG (f := 168) rfl rfl hsp rfl (fun v h' hq => ?_); obtain ⟨mo2, m2, rfl, hp2, hm2⟩ := hq; cases mo2 <;> simp)
 |(apply hK;clear hK K)|refine AWh ‹_› ?_)
        · have e2 := (hp2.eq rfl).1
          have hd := hp2.done
          subst m2
          have hu : IsLu a N (luB a N so gs) m := ⟨hs, hd⟩
          have hm3 := hm.overI hm2
          have hq := (hm3.toN2 hjf ⟨by omega, hjo⟩ (o := h.length))
          rw [hu.luM hE] at hq
          have hO : Old h h' := ⟨hm3.hl, by rw [hm3.len]; exact ho.len, fun k hk => by
            rw [hm3.rest k (fun x hx => by have := hjo x hx; omega)]; exact ho.old k hk⟩
          exact retg1 ⟨h.length + 2, a.locs.length, fl, js.map fun x => (x.1, x.2, N), by simp [hjl], hO, hq⟩ (by simp; exact hq.b_lt) (Go.AM.Leaves.sym hO.len hO.hl)
        · have hm3 := hm.overI hm2
          exact ⟨⟨0, false, m2, h'⟩, ⟨hp2.s, hm3⟩, hp2.lt rfl, Weak.sym (x := []) (by simp) hm3.hl (by simp [hm3.len, vl, AutoD.cells]; omega)⟩
end Go.Proofs.YtgmlimipejcpgaaGreatDoor
end
section
set_option linter.unusedVariables false
set_option linter.unusedSimpArgs false
namespace Go.AM
section
variable {P : Program} {ge : GEnv}
theorem RO_fin {G G' : Gh} {w w' : World} {h : List B} {v r : V} {c : Value} (rh : RH P ge G' h w') (hvc : R G' w' false v c) (grow : WGrow w w') (hsz : w.heap.size ≤ w'.heap.size) (hfzold : ∀ k, k < w.heap.size → G'.fz k = G.fz k)
    (hbase : ∀ (b : Nat) (x : B) (k : Nat), h[b]? = some x → G'.at b x = some k → w.heap.size ≤ k) (hconv : Conv h v r) : ∃ c1 G2, Ending.returned c = .returned c1 ∧ Kept G w G2 w' ∧ RO P G2 w' w.heap.size r c1 := by
  rcases hconv with ⟨n, hrr, hp⟩ | h1 | ⟨vs, rs, rfl, rfl, hl, hall, hdis⟩
  · let fz2 : Nat → Nat := fun k => if k < w.heap.size then G'.fz k else match w'.heap[k]? with
      | some (.cells arr _ _) => max (G'.fz k) arr.size
      | _ => G'.fz k
    have hle : ∀ k, G'.fz k ≤ fz2 k := fun k => by
      show G'.fz k ≤ if k < w.heap.size then G'.fz k else match w'.heap[k]? with | some (.cells arr _ _) => max (G'.fz k) arr.size | _ => G'.fz k
      split
      · exact Nat.le_refl _
      · split
        · exact Nat.le_max_left _ _
        · exact Nat.le_refl _
    have hfr := frz_spec rh (fz2 := fz2) hle (fun b x k arr T fr hx hk hh => by
      have hb := hbase b x k hx hk
      show arr.size ≤ if k < w.heap.size then G'.fz k else match w'.heap[k]? with | some (.cells arr _ _) => max (G'.fz k) arr.size | _ => G'.fz k
      rw [if_neg (by omega), hh]
      exact Nat.le_max_right _ _) n hvc
    refine ⟨c, G'.withFz fz2, rfl, ⟨grow, fun k hk => ?_, fun k hk => ?_⟩, ?_⟩
    · show (if k < w.heap.size then G'.fz k else _) = G.fz k
      rw [if_pos hk]; exact hfzold k hk
    · have hk2 : ¬ k < w.heap.size := by have := hsz; omega
      show (if k < w.heap.size then G'.fz k else match w'.heap[k]? with | some (.cells arr _ _) => max (G'.fz k) arr.size | _ => G'.fz k) = 0
      rw [if_neg hk2, Array.getElem?_eq_none hk]
      exact rh.fzlt k hk
    · rw [← hrr] at hfr
      refine RO_of_one ?_
      cases r <;> first | exact hfr | (simp [V.plain] at hp)
  · exact ⟨c, G', rfl, ⟨grow, hfzold, rh.fzlt⟩, RO_of_one (RO1_of_conv rh hbase hvc h1)⟩
  · refine ⟨c, G', rfl, ⟨grow, hfzold, rh.fzlt⟩, ?_⟩
    cases hvc with
    | @tup _ _ arr hs hr' =>
      refine ⟨arr, rfl, by rw [hs]; exact hl, fun i v hv => ?_, fun i j u v k hu hv ou ov b1 b2 => ?_⟩
      · have hi : i < vs.length := by rw [hl]; exact (List.getElem?_eq_some_iff.1 hv).1
        exact RO1_of_conv rh hbase (hr' i _ (List.getElem?_eq_getElem hi)) (hall i _ v (List.getElem?_eq_getElem hi) hv)
      · have hi : i < vs.length := by rw [hl]; exact (List.getElem?_eq_some_iff.1 hu).1
        have hj : j < vs.length := by rw [hl]; exact (List.getElem?_eq_some_iff.1 hv).1
        have key : ∀ (i : Nat) (hi : i < vs.length) (u : V), rs[i]? = some u → u.isOwn = true → blkOf (arr.getD i undef) = some k → ∃ b x, vs[i].refBlk = some b ∧ h[b]? = some x ∧ G'.at b x = some k := by
          intro i hi u hu ou hb1
          have hR := hr' i _ (List.getElem?_eq_getElem hi)
          rcases hall i _ u (List.getElem?_eq_getElem hi) hu with ⟨hf, rfl⟩ | ⟨b, g, T, xs, hvi, hbx, rfl⟩
          · generalize hvv : vs[i] = vv at *
            cases vv <;> simp [V.isOwn] at ou
            simp [V.isF] at hf
          · rw [hvi] at hR
            refine ⟨b, _, by rw [hvi]; rfl, hbx, ?_⟩
            generalize arr.getD i undef = cc at *
            generalize hnl : xs.length = nl at hR
            cases hR with
            | ref hb' hg' hm' hle' => simp only [blkOf, Option.some.injEq] at hb1; subst hb1; exact hm'
            | refn => simp [blkOf] at hb1
        obtain ⟨bi, xi, e1, e2, e3⟩ := key i hi u hu ou b1
        obtain ⟨bj, xj, f1, f2, f3⟩ := key j hj v hv ov b2
        have hbb := rh.inj bi bj xi xj k e2 f2 e3 f3
        subst hbb
        exact hdis i j _ _ bi (List.getElem?_eq_getElem hi) (List.getElem?_eq_getElem hj) e1 f1
/-- A contract on the empty heap whose results may be told as frozen values or rows of one's own. -/
theorem PCall_of_GCall {f : Nat} {args : List V} {r : V} {Q : V → List B → Prop} (hc : GCall P ge f args [] Q) (hq : ∀ v h', Q v h' → Conv h' v r) : PCall P ge f args r := by
  refine ⟨hc.1, fun G w cargs ha gee => ?_⟩
  let G0 : Gh := { fz := G.fz, n := 0, gm := fun _ => 0, m := fun _ _ => none, sz := fun _ => 0, cap := fun _ _ => 0 }
  have ha0 : ArgsR G0 w false args cargs := ⟨ha.1, fun i v hv => ((ha.2 i v hv).monoT (G' := G0) (fun k => Nat.le_refl (G.fz k)) (fun _ _ _ => rfl) rfl).weak rfl⟩
  have rh0 : RH P ge G0 [] w := ⟨rfl, fun b x hx => by simp at hx, fun b b' x x' k hx => by simp at hx, gee.fzlt, fun g cs hg => (gee.ge g cs hg).monoT (G' := G0) (fun k => Nat.le_refl (G.fz k)) (fun _ _ _ => rfl) rfl⟩
  refine (hc.2 G0 w cargs ha0 rh0).mono fun e w' ⟨c, G', v, h', he, hQ, rh, hv, ext⟩ => ?_
  obtain ⟨c1, G2, e1, k1, k2⟩ := RO_fin (G := G) rh hv ⟨ext.size, fun k hk => (ext.frame k hk fun b x hx => by simp at hx).1, ext.os, ext.out⟩ ext.size (fun k hk => (ext.frame k hk fun b x hx => by simp at hx).2) (fun b x k hx hk => by
    rcases ext.fresh b x k hx hk with h | ⟨b0, x0, h, _⟩
    · exact h
    · simp at h) (hq v h' hQ)
  exact ⟨c1, G2, by rw [he]; exact e1, k1, k2⟩
end
end Go.AM
end
section
set_option linter.unusedSimpArgs false
set_option linter.unusedVariables false
namespace Go.Proofs.YtgmlimipejcpgaaGreatDoor
open Go Go.AM Fx
theorem N2.setne {o b g : Nat} {h : List B} {fl : Bool} {ids : List (Nat × Nat × Nat)} {P : List (List Int)} (p : N2 o h b g fl ids P) {k : Nat} {cs : List V} {y : B} (hk : h[k]? = some (.var cs)) : N2 o (h.set k y) b g fl ids P :=
  ⟨by rw [gN (fun e => by have := p.at0; rw [← e, hk] at this; cases this)]; exact p.at0, p.flat, p.len, fun j x hx => by
    obtain ⟨ns, h1, h2, h3⟩ := p.rows j x hx
    exact ⟨ns, h1, h2, by rw [gN (fun e => by rw [← e, hk] at h3; cases h3)]; exact h3⟩, p.low, p.nodup⟩
theorem N3.setne {o b g : Nat} {h : List B} {fl : Bool} {T : List (Nat × Nat × Bool × List (Nat × Nat × Nat))} {P : List (List (List Int))} (p : N3 o h b g fl T P) {k : Nat} {cs : List V} {y : B} (hk : h[k]? = some (.var cs)) : N3 o (h.set k y) b g fl T P :=
  ⟨by rw [gN (fun e => by have := p.at0; rw [← e, hk] at this; cases this)]; exact p.at0, p.flat, p.len, fun i x hx => by
    obtain ⟨Q, h1, h2⟩ := p.rows i x hx
    exact ⟨Q, h1, h2.setne hk⟩, p.low, p.nodup⟩
theorem N3.low' {o o' b g : Nat} {h : List B} {fl : Bool} {T : List (Nat × Nat × Bool × List (Nat × Nat × Nat))} {P : List (List (List Int))} (p : N3 o h b g fl T P) (ho : o' ≤ o) : N3 o' h b g fl T P :=
  ⟨p.at0, p.flat, p.len, fun i x hx => by
    obtain ⟨Q, h1, h2⟩ := p.rows i x hx
    exact ⟨Q, h1, ⟨h2.at0, h2.flat, h2.len, h2.rows, ⟨Nat.le_trans ho h2.low.1, fun x hx => Nat.le_trans ho (h2.low.2 x hx)⟩, h2.nodup⟩⟩, Nat.le_trans ho p.low, p.nodup⟩
theorem N3.ids_lt {o b g : Nat} {h : List B} {fl : Bool} {T : List (Nat × Nat × Bool × List (Nat × Nat × Nat))} {P : List (List (List Int))} (p : N3 o h b g fl T P) : ∀ y ∈ T, ∀ x ∈ y.2.2.2, x.1 < h.length := fun y hy x hx => by
  obtain ⟨i, hi⟩ := List.getElem?_of_mem hy
  obtain ⟨Q, _, h2⟩ := p.rows i y hi
  exact h2.ids_lt x hx
def halfV (P : List (List (List Int))) : V := .vec (rows3V P) P.length
end Go.Proofs.YtgmlimipejcpgaaGreatDoor
end
