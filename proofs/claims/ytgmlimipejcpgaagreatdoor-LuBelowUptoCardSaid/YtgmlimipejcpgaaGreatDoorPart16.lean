/-
  YtgmlimipejcpgaaGreatDoorPart16: steps of the proof of a law of the program: what these texts prove holds under the hypotheses that their theorems name, and no others.
-/
import Derived.Test.YtgmlimipejcpgaaGreatDoorPart15
section
set_option linter.unusedVariables false
set_option linter.unusedSimpArgs false
namespace Go.Proofs.YtgmlimipejcpgaaGreatDoor
open Go Go.AM Fx
theorem iput_nil {s : Int} {v : V} : iput [] s v = [(s, v)] := rfl
theorem iput_cons {a : Int × V} {r : List (Int × V)} {s : Int} {v : V} : iput (a :: r) s v = if a.1 = s then (s, v) :: r else a :: iput r s v := by
  unfold iput
  rw [List.findIdx?_cons]
  by_cases h : a.1 = s
  · simp [h]
  · simp only [h, decide_false, Bool.false_eq_true, if_false]
    cases hf : r.findIdx? (fun p => decide (p.1 = s)) <;> simp
theorem iget_cons {a : Int × V} {r : List (Int × V)} {x : Int} : iget (a :: r) x = if a.1 = x then some a.2 else iget r x := by
  unfold iget
  rw [List.find?_cons]
  by_cases h : a.1 = x <;> simp [h]
theorem iput_mem : ∀ {l : List (Int × V)} {s q : Int} {v : V}, q ∈ (iput l s v).map (·.1) → q = s ∨ q ∈ l.map (·.1)
  | [], s, q, v, h => by rw [iput_nil] at h; simpa using h
  | a :: r, s, q, v, h => by
    rw [iput_cons] at h
    split at h
    · simp only [List.map_cons, List.mem_cons] at h ⊢
      rcases h with h | h
      · exact .inl h
      · exact .inr (.inr h)
    · simp only [List.map_cons, List.mem_cons] at h ⊢
      rcases h with h | h
      · exact .inr (.inl h)
      · rcases iput_mem h with h | h
        · exact .inl h
        · exact .inr (.inr h)
theorem iput_nodup : ∀ {l : List (Int × V)} {s : Int} {v : V}, (l.map (·.1)).Nodup → ((iput l s v).map (·.1)).Nodup
  | [], s, v, h => by rw [iput_nil]; simp
  | a :: r, s, v, h => by
    rw [List.map_cons, List.nodup_cons] at h
    rw [iput_cons]
    split
    · rename_i e; subst e; rw [List.map_cons, List.nodup_cons]; exact h
    · rename_i e
      rw [List.map_cons, List.nodup_cons]
      refine ⟨fun hm => ?_, iput_nodup h.2⟩
      rcases iput_mem hm with h2 | h2
      · exact e h2
      · exact h.1 h2
theorem iget_iput : ∀ {l : List (Int × V)} {s x : Int} {v : V}, iget (iput l s v) x = if s = x then some v else iget l x
  | [], s, x, v => by rw [iput_nil, iget_cons]
  | a :: r, s, x, v => by
    rw [iput_cons]
    by_cases e : a.1 = s
    · rw [if_pos e, iget_cons, iget_cons]
      by_cases e2 : s = x
      · rw [if_pos e2, if_pos e2]
      · rw [if_neg e2, if_neg e2, if_neg (by rw [e]; exact e2)]
    · rw [if_neg e, iget_cons, iget_cons, iget_iput]
      by_cases e2 : a.1 = x
      · rw [if_pos e2, if_pos e2, if_neg (fun e3 => e (e2.trans e3.symm))]
      · rw [if_neg e2, if_neg e2]
/-- The clocks that are set, as keys. -/
def setsM (l : List SetD) (m : List (Int × V)) : List (Int × V) := l.foldl (fun m s => iput m s.clock (.bool true)) m
theorem setsM_nil {m : List (Int × V)} : setsM [] m = m := rfl
theorem setsM_cons {s : SetD} {l : List SetD} {m : List (Int × V)} : setsM (s :: l) m = setsM l (iput m s.clock (.bool true)) := rfl
theorem setsM_nodup : ∀ {l : List SetD} {m : List (Int × V)}, (m.map (·.1)).Nodup → ((setsM l m).map (·.1)).Nodup
  | [], m, h => h
  | s :: l, m, h => by rw [setsM_cons]; exact setsM_nodup (iput_nodup h)
theorem setsM_get : ∀ {l : List SetD} {m : List (Int × V)} {c : Int} {X : Bool}, (iget m c).getD (.bool false) = .bool X → (iget (setsM l m) c).getD (.bool false) = .bool (X || setsB c l)
  | [], m, c, X, h => by rw [setsM_nil, setsB_nil, Bool.or_false]; exact h
  | s :: l, m, c, X, h => by
    rw [setsM_cons, setsM_get (X := X || decide (s.clock = c)) ?_, setsB_cons, Bool.or_assoc]
    rw [iget_iput]
    by_cases e : s.clock = c
    · rw [if_pos e, decide_eq_true e, Bool.or_true]; rfl
    · rw [if_neg e, decide_eq_false e, Bool.or_false]; exact h
theorem setsM_at {l : List SetD} {c : Int} : (iget (setsM l []) c).getD (.bool false) = .bool (setsB c l) := by
  rw [setsM_get (X := false) rfl, Bool.false_or]
/-- Symbolic heaps: what stands behind. -/
theorem ga1 {h x : List B} {n k : Nat} (e : h.length = n) : (h ++ x)[n + k]? = x[k]? := by subst e; rw [List.getElem?_append_right (by omega)]; simp
theorem ga0 {h x : List B} {n : Nat} (e : h.length = n) : (h ++ x)[n]? = x[0]? := ga1 (k := 0) e
theorem sa1 {h x : List B} {n k : Nat} {y : B} (e : h.length = n) : (h ++ x).set (n + k) y = h ++ x.set k y := by subst e; rw [List.set_append, if_neg (by omega)]; simp
theorem sa0 {h x : List B} {n : Nat} {y : B} (e : h.length = n) : (h ++ x).set n y = h ++ x.set 0 y := sa1 (k := 0) e
theorem HL.app {h x : List B} (hl : HL h) (hx : ∀ y ∈ x, y.lt (h.length + x.length)) : HL (h ++ x) := fun y hy => by
  rw [List.length_append]
  rcases List.mem_append.1 hy with h | h
  · exact B.lt_mono (by omega) (hl y h)
  · exact hx y h
/-- Marks on the heap: a row of rows. -/
def mrefs (ids : List (Nat × Nat)) (N : Nat) : List (List V) := ids.map fun x => [V.ref x.1 x.2 0 N]
structure MR {α : Type} (T0 T : TypeId) (en : List α → List (List V)) (h : List B) (mr gm : Nat) (fl : Bool) (ids : List (Nat × Nat)) (N : Nat) (m : List (List α)) (hc : List B) : Prop where
  ne : T0 ≠ T
  len : hc.length = h.length
  hl : HL hc
  mr : hc[mr]? = some (.row T0 gm 0 fl (mrefs ids N))
  ml : m.length = ids.length
  rows : ∀ (i : Nat) (x : Nat × Nat), ids[i]? = some x → ∃ r, m[i]? = some r ∧ r.length = N ∧ hc[x.1]? = some (.row T x.2 0 true (en r))
  inj : ∀ (i j : Nat) (x y : Nat × Nat), ids[i]? = some x → ids[j]? = some y → x.1 = y.1 → i = j
  rest : ∀ b, (∀ x ∈ ids, x.1 ≠ b) → hc[b]? = h[b]?
section
variable {α : Type} {T0 T : TypeId} {en : List α → List (List V)} {h hc : List B} {mr gm N : Nat} {fl : Bool} {ids : List (Nat × Nat)} {m : List (List α)}
theorem MR.upd (p : MR T0 T en h mr gm fl ids N m hc) {i : Nat} {x : Nat × Nat} (hx : ids[i]? = some x) {r : List α} (hr : r.length = N) : MR T0 T en h mr gm fl ids N (m.set i r) (hc.set x.1 (.row T x.2 0 true (en r))) := by
  obtain ⟨r0, h1, h2, h3⟩ := p.rows i x hx
  have hi := (List.getElem?_eq_some_iff.1 h1).1
  have hne : x.1 ≠ mr := fun e => by
    rw [e, p.mr] at h3
    simp only [Option.some.injEq, B.row.injEq] at h3
    exact p.ne h3.1
  refine ⟨p.ne, by rw [List.length_set]; exact p.len, p.hl.set rowF_lt, by rw [get_set_ne hne]; exact p.mr, by rw [List.length_set]; exact p.ml, fun j y hy => ?_, p.inj, fun b hb => by rw [get_set_ne (hb x (List.mem_of_getElem? hx))]; exact p.rest b hb⟩
  by_cases e : i = j
  · subst e
    obtain rfl : x = y := by rw [hx] at hy; cases hy; rfl
    exact ⟨r, by rw [List.getElem?_set, if_pos rfl, if_pos hi], hr, get_set_eq h3⟩
  · obtain ⟨r1, k1, k2, k3⟩ := p.rows j y hy
    exact ⟨r1, by rw [List.getElem?_set, if_neg e]; exact k1, k2, by rw [get_set_ne (fun e2 => e (p.inj i j x y hx hy e2))]; exact k3⟩
theorem MR.to (p : MR T0 T en h mr gm fl ids N m hc) {i : Nat} (hi : i < ids.length) : ∃ (x : Nat × Nat) (r : List α), ids[i]? = some x ∧ m[i]? = some r ∧ r.length = N ∧ hc[x.1]? = some (.row T x.2 0 true (en r)) ∧ x.1 < hc.length ∧ (mrefs ids N)[i]? = some [V.ref x.1 x.2 0 N] := by
  have hx : ids[i]? = some ids[i] := List.getElem?_eq_getElem hi
  obtain ⟨r, h1, h2, h3⟩ := p.rows i _ hx
  exact ⟨_, r, hx, h1, h2, h3, (List.getElem?_eq_some_iff.1 h3).1, by unfold mrefs; rw [List.getElem?_map, hx]; rfl⟩
theorem MR.at (p : MR T0 T en h mr gm fl ids N m hc) {i : Nat} (hi : i < ids.length) : ∃ x : Nat × Nat, ids[i]? = some x ∧ (mrefs ids N)[i]'(by simp [mrefs, hi]) = [V.ref x.1 x.2 0 N] :=
  ⟨ids[i], List.getElem?_eq_getElem hi, by simp [mrefs]⟩
end
theorem usedEs_snoc {i : Nat} {c : Int} {X : Bool} {e : EdgeD} : ∀ {l : List EdgeD}, usedEs i c X (l ++ [e]) = ((decide (e.frm = i) && namedB c e.guards) || usedEs i c X l)
  | [] => rfl
  | a :: l => by rw [List.cons_append, usedEs_cons, usedEs_cons, usedEs_snoc, Bool.or_left_comm]
structure MU (a : AutoD) (gs : List (List PartD)) (N k : Nat) (m : Marks) : Prop where
  len : m.length = a.locs.length
  row : ∀ (i : Nat) (r : List Bool), m[i]? = some r → r.length = N
  get : ∀ i c, i < a.locs.length → c < N → mget m i c = some (namedB ((c : Int) + 1) (a.locs.getD i default).inv || usedEs i ((c : Int) + 1) (usedGs ((c : Int) + 1) gs) (a.edges.take k))
section
variable {a : AutoD} {gs : List (List PartD)} {N k : Nat} {m : Marks}
theorem row0_len {l : LocD} : (row0 N l gs).length = N := by unfold row0; rw [useGs_len, useL_len, List.length_replicate]
theorem MU.init (h1 : ∀ l ∈ a.locs, ∀ x ∈ l.inv, okG N x) (h2 : ∀ g ∈ gs, ∀ p ∈ g, ∀ x ∈ p.guards, okG N x) : MU a gs N 0 (a.locs.map fun l => row0 N l gs) := by
  refine ⟨List.length_map .., fun i r hr => ?_, fun i c hi hc => ?_⟩
  · rw [List.getElem?_map] at hr
    obtain ⟨l, _, rfl⟩ := Option.map_eq_some_iff.1 hr
    exact row0_len
  · have e : a.locs.getD i default = a.locs[i] := by simp [List.getD, hi]
    rw [mget_of (r := row0 N a.locs[i] gs) (by simp [hi]) (row0_get hc (h1 _ (List.getElem_mem hi)) h2), e]; rfl
theorem MU.step (p : MU a gs N k m) {e : EdgeD} (he : a.edges[k]? = some e) {r : List Bool} (hf : 0 ≤ e.frm) (hr : m[e.frm.toNat]? = some r) (hg : ∀ x ∈ e.guards, okG N x) : MU a gs N (k + 1) (m.set e.frm.toNat (useL e.guards r)) := by
  have hrl := p.row _ r hr
  have hi := (List.getElem?_eq_some_iff.1 hr).1
  refine ⟨by rw [List.length_set]; exact p.len, fun i q hq => ?_, fun i c hi2 hc => ?_⟩
  · rw [List.getElem?_set] at hq
    by_cases e2 : e.frm.toNat = i
    · rw [if_pos e2, if_pos hi] at hq; cases hq; rw [useL_len]; exact hrl
    · rw [if_neg e2] at hq; exact p.row i q hq
  · have ht : a.edges.take (k + 1) = a.edges.take k ++ [e] := by rw [List.take_add_one, he]; rfl
    have h0 := p.get i c hi2 hc
    rw [ht, usedEs_snoc]
    by_cases e2 : e.frm.toNat = i
    · subst e2
      rw [mget_of (r := useL e.guards r) (b := _) (by rw [List.getElem?_set, if_pos rfl, if_pos hi]) (useL_get (by rw [hrl]; exact hg) (by rw [mget, hr] at h0; exact h0)), decide_eq_true (by omega), Bool.true_and, Bool.or_comm, Bool.or_left_comm]
    · have h3 : mget (m.set e.frm.toNat (useL e.guards r)) i c = mget m i c := by unfold mget; rw [List.getElem?_set, if_neg e2]
      rw [h3, h0, decide_eq_false (by omega), Bool.false_and, Bool.false_or]
theorem MU.ms (p : MU a gs N a.edges.length m) : MS a gs N m := by
  have key : ∀ i c, i < a.locs.length → c < N → mget m i c = some (usedB a gs i ((c : Int) + 1)) := fun i c hi hc => by
    rw [p.get i c hi hc, List.take_length]; rfl
  refine ⟨p.len, p.row, fun i c h => ?_, fun i c hi hc hu => by rw [key i c hi hc, hu]⟩
  obtain ⟨r, h1, h2⟩ := mget_some h
  have hi : i < a.locs.length := by rw [← p.len]; exact (List.getElem?_eq_some_iff.1 h1).1
  have hc : c < N := by rw [← p.row i r h1]; exact (List.getElem?_eq_some_iff.1 h2).1
  rw [key i c hi hc] at h
  exact .use hi (by simpa using h)
/-- What the marks are in the end: a row for each place. -/
noncomputable def actR (a : AutoD) (gs : List (List PartD)) (N i : Nat) : List Bool := (List.range N).map fun c : Nat => actB a gs ((c : Int) + 1) i
theorem MS.rows (s : MS a gs N m) (hE : okE a) (hc : ∀ e ∈ a.edges, mclos N m e) {i : Nat} {r : List Bool} (hr : m[i]? = some r) : r = actR a gs N i := by
  have hi : i < a.locs.length := by rw [← s.len]; exact (List.getElem?_eq_some_iff.1 hr).1
  have hl := s.row i r hr
  apply List.ext_getElem?
  intro c
  by_cases h : c < N
  · have := marks_eq s hE hc hi h
    rw [mget, hr] at this
    simp only [Option.bind_some] at this
    rw [this]
    simp [actR, h]
  · rw [List.getElem?_eq_none (by omega), List.getElem?_eq_none (by simp [actR]; omega)]
end
end Go.Proofs.YtgmlimipejcpgaaGreatDoor
end

section
set_option linter.unusedVariables false
set_option linter.unusedSimpArgs false
namespace Go.Proofs.YtgmlimipejcpgaaGreatDoor
open Go Go.AM Fx
def refsO (N i : Nat) : List (List V) := (List.range i).map fun j => [V.ref (2 * j + 4) 0 0 N]
def tailB (a : AutoD) (gs : List (List PartD)) (N i : Nat) : List B := (a.locs.take i).flatMap fun l => [B.var l.cells, .row 4 0 0 true (bvs (row0 N l gs))]
def ofH (n : NetD) (a : AutoD) (gs : List (List PartD)) (i : Nat) : List B :=
  [.var n.cells, .var a.cells, .row 144 i 0 (decide (i = 0)) (refsO n.clocks.length i)] ++ tailB a gs n.clocks.length i
section
variable {n : NetD} {a : AutoD} {gs : List (List PartD)} {N i : Nat}
theorem refsO_succ : refsO N (i + 1) = refsO N i ++ [[V.ref (2 * i + 4) 0 0 N]] := by unfold refsO; rw [List.range_succ, List.map_append]; rfl
theorem refsO_len : (refsO N i).length = i := by simp [refsO]
theorem tailB_succ (hi : i < a.locs.length) : tailB a gs N (i + 1) = tailB a gs N i ++ [B.var a.locs[i].cells, .row 4 0 0 true (bvs (row0 N a.locs[i] gs))] := by
  unfold tailB
  rw [List.take_add_one, List.getElem?_eq_getElem hi, List.flatMap_append]
  simp
theorem tailB_len : ∀ {i : Nat}, i ≤ a.locs.length → (tailB a gs N i).length = 2 * i
  | 0, _ => rfl
  | i + 1, h => by rw [tailB_succ h, List.length_append, tailB_len (by omega)]; simp; omega
theorem tailB_get : ∀ {i j : Nat} (hi : i ≤ a.locs.length) (hj : j < i), (tailB a gs N i)[1 + 2 * j]? = some (.row 4 0 0 true (bvs (row0 N (a.locs[j]'(by omega)) gs)))
  | i + 1, j, hi, hj => by
    rw [tailB_succ hi]
    have hl := tailB_len (a := a) (gs := gs) (N := N) (i := i) (by omega)
    by_cases e : j = i
    · subst e
      rw [List.getElem?_append_right (by omega), hl, show 1 + 2 * j - 2 * j = 1 by omega]; rfl
    · rw [List.getElem?_append_left (by omega)]; exact tailB_get (by omega) (by omega)
theorem tailB_lt : ∀ {i k : Nat} (hi : i ≤ a.locs.length), ∀ y ∈ tailB a gs N i, B.lt k y
  | 0, k, hi, y, hy => by cases hy
  | i + 1, k, hi, y, hy => by
    rw [tailB_succ hi] at hy
    rcases List.mem_append.1 hy with h | h
    · exact tailB_lt (by omega) y h
    · simp only [List.mem_cons, List.not_mem_nil, or_false] at h
      rcases h with rfl | rfl
      · simp [LocD.cells, vl]
      · exact rowF_lt
theorem ofH_len (hi : i ≤ a.locs.length) : (ofH n a gs i).length = 2 * i + 3 := by unfold ofH; rw [List.length_append, tailB_len hi]; simp; omega
theorem ofH_hl (hi : i ≤ a.locs.length) : HL (ofH n a gs i) := by
  intro y hy
  rw [ofH_len hi]
  unfold ofH at hy
  rcases List.mem_append.1 hy with h | h
  · simp only [List.mem_cons, List.not_mem_nil, or_false] at h
    rcases h with rfl | rfl | rfl
    · simp [NetD.cells, vl]
    · simp [AutoD.cells, vl]
    · refine rowR_lt fun x hx => ?_
      obtain ⟨j, hj, rfl⟩ := List.mem_map.1 hx
      have := List.mem_range.1 hj
      simp; omega
  · exact tailB_lt hi y h
/-- A row behind a heap: clocks are marked there. -/
theorem c_useH {H x : List B} {y0 : B} {nb N : Nat} {c : List Bool} (hH : H.length = nb) (hl : ∀ c : List Bool, HL (H ++ y0 :: .row 4 0 0 true (bvs c) :: x)) (hc : c.length = N) (l : List GuardD) (hll : l.length ≤ 1048576) (hN : N ≤ 1048576) (hg : ∀ x ∈ l, okG N x) :
    GCall Tryz.prog GV 162 [.ref (nb + 1) 0 0 N, vl GuardD.cells l] (H ++ y0 :: .row 4 0 0 true (bvs c) :: x) (fun v h' => v = .tup [] ∧ h' = H ++ y0 :: .row 4 0 0 true (bvs (useL l c)) :: x) := by
  subst hc
  refine (c_use (hl c) (by rw [ga1 hH]; rfl) l hll hN hg).mono fun v h' hq => ⟨hq.1, ?_⟩
  rw [hq.2, sa1 hH]; rfl
theorem bvs_rep {N : Nat} : List.replicate N [V.bool false] = bvs (List.replicate N false) := by simp [bvs]
/-- Marks behind the loop over the places. -/
theorem ofH_mr : MR 144 4 bvs (ofH n a gs a.locs.length) 2 a.locs.length (decide (a.locs.length = 0)) ((List.range a.locs.length).map fun j => (2 * j + 4, 0)) n.clocks.length (a.locs.map fun l => row0 n.clocks.length l gs) (ofH n a gs a.locs.length) := by
  refine ⟨by decide, rfl, ofH_hl (Nat.le_refl _), ?_, by simp, fun i x hx => ?_, fun i j x y hx hy e => ?_, fun _ _ => rfl⟩
  · unfold ofH mrefs refsO; rw [List.map_map]; rfl
  · have hi : i < a.locs.length := by have := (List.getElem?_eq_some_iff.1 hx).1; simpa using this
    simp [hi] at hx; subst hx
    refine ⟨row0 n.clocks.length a.locs[i] gs, by simp [hi], row0_len, ?_⟩
    have := tailB_get (a := a) (gs := gs) (N := n.clocks.length) (Nat.le_refl _) hi
    unfold ofH
    rw [List.getElem?_append_right (by simp)]
    simp only [List.length_cons, List.length_nil]
    rw [show 2 * i + 4 - (0 + 1 + 1 + 1) = 1 + 2 * i by omega]; exact this
  · have hi : i < a.locs.length := by have := (List.getElem?_eq_some_iff.1 hx).1; simpa using this
    have hj : j < a.locs.length := by have := (List.getElem?_eq_some_iff.1 hy).1; simpa using this
    simp [hi] at hx; simp [hj] at hy; subst hx; subst hy
    simp at e; omega
end
end Go.Proofs.YtgmlimipejcpgaaGreatDoor
end

section
set_option linter.unusedVariables false
set_option linter.unusedSimpArgs false
namespace Go.Proofs.YtgmlimipejcpgaaGreatDoor
open Go Go.AM Fx
structure SS where
  k : Nat
  more : Bool
  m : Marks
  hc : List B
set_option maxRecDepth 20000 in
set_option maxHeartbeats 16000000 in
theorem c_spread {h : List B} {mr gm N : Nat} {fl : Bool} {ids : List (Nat × Nat)} {m0 : Marks} (p0 : MR 144 4 bvs h mr gm fl ids N m0 h) (a : AutoD) (ha : a.ok) (hE : okE a) (gs : List (List PartD)) (hs : MS a gs N m0) (hN : N ≤ 1048576) :
    GCall Tryz.prog GV 163 [.ref mr gm 0 ids.length, .agg a.cells] h (fun v h' => ∃ more m', v = .bool more ∧ MPass a gs N m0 a.edges.length 0 more m' ∧ MR 144 4 bvs h mr gm fl ids N m' h') := by
  have hal := ha.2.1
  have hae := ha.2.2
  have hids : ids.length = a.locs.length := by rw [← p0.ml, hs.len]
  have hmr : mr < h.length := (List.getElem?_eq_some_iff.1 p0.mr).1
  have hml : (mrefs ids N).length = ids.length := by simp [mrefs]
  have hl3 : ∀ {m : Marks} {hc : List B} {e : EdgeD}, MR 144 4 bvs h mr gm fl ids N m hc → ∀ c, HL (hc ++ [B.var a.cells, B.var e.cells, B.map (imap c)]) := fun hm c => hm.hl.app (by simp [AutoD.cells, EdgeD.cells, vl])
  refine GCall_body Tryz.func163 rfl (by decide) Tryz.ntmps163 (by simp) Tryz.results163 ?_
  repeat' (first
 |refine AW_seq_k fun K hK=>?_|refine Step.by1 ?_|refine SBlock_exit_ne (by decide) ?_|refine cz rfl ?_|refine Fork.by2 (fun h=>?_) fun h=>?_
 |(refine AW_region_AO ?_;simp [vl, AutoD.cells])
 |(refine Split.by2 (fun h=>?_) (fun h=>?_)<;>(simp [h, vl, AutoD.cells]))
 |(apply hK;clear hK K)|refine AWh (by assumption) ?_)
  refine AW_loopL [0, 14, 15] (fun s : SS => [(5, .bool s.more), (16, .int .i64 s.k)]) (fun s => s.hc ++ [B.var a.cells]) (fun s => s.k ≤ a.edges.length ∧ MPass a gs N m0 s.k 0 s.more s.m ∧ MR 144 4 bvs h mr gm fl ids N s.m s.hc) (fun s => a.edges.length - s.k) ⟨0, false, m0, h⟩ ⟨Nat.zero_le _, .init hs, p0⟩
    (Weak.sym (x := []) (by simp [AutoD.cells, vl]) (p0.hl.app (by simp [AutoD.cells, vl])) (by simp [vl, AutoD.cells]; omega)) (fun s hs => by simp [hs.2.2.len]) ?_
  rintro ⟨k, more, m, hc⟩ ⟨hk, hp, hm⟩
  simp only at hk hp hm
  have hlen := hm.len
  have g0 := fun x : List B => ga0 (x := x) hlen
  have g1 := fun (x : List B) (k : Nat) => ga1 (x := x) (k := k) hlen
  have s1 := fun (x : List B) (k : Nat) (y : B) => sa1 (x := x) (k := k) (y := y) hlen
  have gr : ∀ x : List B, (hc ++ x)[mr]? = some (.row 144 gm 0 fl (mrefs ids N)) := fun x => by rw [get_app (by omega)]; exact hm.mr
  by_cases hkt : k < a.edges.length
  · obtain ⟨e, he⟩ : ∃ e, a.edges[k] = e := ⟨_, rfl⟩
    have he' : a.edges[k]? = some e := by rw [List.getElem?_eq_getElem hkt, he]
    have hem := List.mem_of_getElem? he'
    obtain ⟨⟨f1, f2⟩, t1, t2⟩ := hE e hem
    obtain ⟨p, hpp⟩ := Int.eq_ofNat_of_zero_le f1
    obtain ⟨q, hqq⟩ := Int.eq_ofNat_of_zero_le t1
    have hes := (hae.2 e hem).2.2.2.2.2.2.1
    have hkt' : (k : Int) < a.edges.length := by omega
    have w1 : IntKind.i64.wrap ((k : Int) + 1) = k + 1 := wrap_i64 (by omega) (by omega)
    obtain ⟨sm, hsm⟩ : ∃ sm, setsM e.sets [] = sm := ⟨_, rfl⟩
    have hsn : (sm.map (·.1)).Nodup := by rw [← hsm]; exact setsM_nodup (by simp)
    have hsg : ∀ c, (iget sm c).getD (.bool false) = .bool (setsB c e.sets) := fun c => by rw [← hsm]; exact setsM_at
    repeat' (first
 |refine AW_seq_k fun K hK=>?_|refine Step.by1 ?_|refine SBlock_exit_ne (by decide) ?_|refine cz rfl ?_|refine Fork.by2 (fun h=>?_) fun h=>?_
 |(refine AW_region_AO ?_;simp [vl, AutoD.cells, EdgeD.cells, hkt, hkt', he, hlen, g0, g1])
 |(refine Split.by2 (fun h=>?_) (fun h=>?_)<;>(simp [h, vl, AutoD.cells, EdgeD.cells, hkt, hkt', he, hlen, g0, g1]))
 |(refine AS_op1 rfl S_makeMap ?_; simp [hlen])
 |(apply hK;clear hK K)|refine AWh (by assumption) ?_)
    refine AW_range (r := sm) e.sets 24 [0, 5, 7, 8, 14, 15, 16, 22, 23] (fun _ : List (Int × V) => []) (fun c => hc ++ [B.var a.cells, B.var e.cells, B.map (imap c)]) (fun i c => (c.map (·.1)).Nodup) setsM [] hsm (by simp)
      (Weak.sym (x := []) (by simp [AutoD.cells, EdgeD.cells, vl, imap]) (hl3 hm []) (by simp [vl, AutoD.cells, EdgeD.cells, hlen]; omega)) (fun _ c _ => by simp) ?_ ?_
    · intro i c x _ hlt hx hJ hF
      rw [setsM_cons] at hF
      have hlt' : (i : Int) < e.sets.length := by omega
      have w2 : IntKind.i64.wrap ((i : Int) + 1) = i + 1 := wrap_i64 (by omega) (by omega)
      repeat' (first
 |refine AW_seq_k fun K hK=>?_|refine Step.by1 ?_|refine SBlock_exit_ne (by decide) ?_|refine cz rfl ?_|refine Fork.by2 (fun h=>?_) fun h=>?_
 |(refine AW_region_AO ?_;simp [vl, EdgeD.cells, SetD.cells, hlt, hlt', hx, w2, hlen, g0, g1, s1])
 |(refine Split.by2 (fun h=>?_) (fun h=>?_)<;>(simp [h, vl, EdgeD.cells, SetD.cells, hlt, hlt', hx, w2, hlen, g0, g1, s1]))
 |(refine AS_op1 rfl (S_mapUpdateI (l := c) Tryz.underlying225 Tryz.underlying3 rfl (by simp [g1, hlen]) rfl hJ rfl) ?_; simp [hlen, g0, g1, s1])
 |(apply hK;clear hK K)|refine AWh (by assumption) ?_)
      refine ⟨_, hF, iput_nodup hJ, Weak.sym (x := [B.var x.cells]) (by simp [vl, EdgeD.cells, SetD.cells]) (hl3 hm _) (by simp [vl, AutoD.cells, EdgeD.cells, hlen]; omega)⟩
    · intro c hJ hF
      rw [setsM_nil] at hF
      subst c
      have hpl : p < ids.length := by omega
      have hql : q < ids.length := by omega
      have hpl' : (p : Int) < ids.length := by omega
      have hql' : (q : Int) < ids.length := by omega
      obtain ⟨xf, hxf, hmp⟩ := hm.at hpl
      obtain ⟨xt, hxt, hmq⟩ := hm.at hql
      have hxl : xt.1 < h.length := by obtain ⟨_, _, _, h3⟩ := hm.rows q xt hxt; rw [← hlen]; exact (List.getElem?_eq_some_iff.1 h3).1
      repeat' (first
 |refine AW_seq_k fun K hK=>?_|refine Step.by1 ?_|refine SBlock_exit_ne (by decide) ?_|refine cz rfl ?_|refine Fork.by2 (fun h=>?_) fun h=>?_
 |(refine AW_region_AO ?_;simp [vl, AutoD.cells, EdgeD.cells, hpp, hqq, hlen, g0, g1, gr, hml, hql, hql', hmq])
 |(refine Split.by2 (fun h=>?_) (fun h=>?_)<;>(simp [h, vl, AutoD.cells, EdgeD.cells, hpp, hqq, hlen, g0, g1, gr, hml, hql, hql', hmq]))
 |(apply hK;clear hK K)|refine AWh (by assumption) ?_)
      refine AW_loopL [0, 7, 8, 14, 15, 16, 36, 37] (fun s : SS => [(5, .bool s.more), (38, .int .i64 s.k)]) (fun s => s.hc ++ [B.var a.cells, B.var e.cells, B.map (imap sm)]) (fun s => s.k ≤ N ∧ MPass a gs N m0 k s.k s.more s.m ∧ MR 144 4 bvs h mr gm fl ids N s.m s.hc) (fun s => N - s.k) ⟨0, more, m, hc⟩ ⟨Nat.zero_le _, hp, hm⟩
        (Weak.sym (x := []) (by simp [AutoD.cells, EdgeD.cells, vl, hpp, hqq]) (hl3 hm _) (by simp [vl, AutoD.cells, EdgeD.cells, hlen]; omega)) (fun s hs => by simp [hs.2.2.len, hlen]) ?_
      clear hp hm hlen g0 g1 s1 gr
      rintro ⟨j, more, m, hc⟩ ⟨hj, hp, hm⟩
      simp only at hj hp hm
      have hlen := hm.len
      have g0 := fun x : List B => ga0 (x := x) hlen
      have g1 := fun (x : List B) (k : Nat) => ga1 (x := x) (k := k) hlen
      have gr : ∀ x : List B, (hc ++ x)[mr]? = some (.row 144 gm 0 fl (mrefs ids N)) := fun x => by rw [get_app (by omega)]; exact hm.mr
      by_cases hjt : j < N
      · obtain ⟨rt, hrt, hrtl, ht⟩ := hm.rows q xt hxt
        obtain ⟨rf, hrf, hrfl, hf⟩ := hm.rows p xf hxf
        have htl := (List.getElem?_eq_some_iff.1 ht).1
        have hfl := (List.getElem?_eq_some_iff.1 hf).1
        have gt : ∀ x : List B, (hc ++ x)[xt.1]? = some (.row 4 xt.2 0 true (bvs rt)) := fun x => by rw [get_app htl]; exact ht
        have gf : ∀ x : List B, (hc ++ x)[xf.1]? = some (.row 4 xf.2 0 true (bvs rf)) := fun x => by rw [get_app hfl]; exact hf
        have sf : ∀ (x : List B) (y : B), (hc ++ x).set xf.1 y = hc.set xf.1 y ++ x := fun x y => set_app hfl
        have hjt' : (j : Int) < N := by omega
        have w2 : IntKind.i64.wrap ((j : Int) + 1) = j + 1 := wrap_i64 (by omega) (by omega)
        obtain ⟨bf, hbf⟩ : ∃ bf, rf[j]? = some bf := ⟨_, List.getElem?_eq_getElem (by omega)⟩
        obtain ⟨bt, hbt⟩ : ∃ bt, rt[j]? = some bt := ⟨_, List.getElem?_eq_getElem (by omega)⟩
        have hcl : (bvs rt).length = N := by simp [bvs, hrtl]
        have hcl2 : (bvs rf).length = N := by simp [bvs, hrfl]
        have hct : (bvs rt)[j]'(by omega) = [V.bool bt] := by rw [List.getElem_eq_iff]; simp [bvs, hbt]
        have hcf : (bvs rf)[j]'(by omega) = [V.bool bf] := by rw [List.getElem_eq_iff]; simp [bvs, hbf]
        have hbs : (bvs rf).set j [V.bool true] = bvs (rf.set j true) := by simp [bvs, List.map_set]
        have hget := hsg ((j : Int) + 1)
        have mt : mget m e.to.toNat j = some bt := mget_of (r := rt) (by rw [show e.to.toNat = q by omega]; exact hrt) hbt
        have mf : mget m e.frm.toNat j = some bf := mget_of (r := rf) (by rw [show e.frm.toNat = p by omega]; exact hrf) hbf
        have hk1 := hp.keep he'
        have hk2 := hp.step he' (r := rf) (by rw [show e.frm.toNat = p by omega]; exact hrf) hjt
        rw [show e.frm.toNat = p by omega, mset_row hrf] at hk2
        rw [mt, mf] at hk1
        rw [mt] at hk2
        rw [show e.frm.toNat = p by omega] at mf
        rw [mf] at hk2
        generalize setsB ((j : Int) + 1) e.sets = sb at *
        by_cases hall : bt = true ∧ bf = false ∧ sb = false
        · obtain ⟨rfl, rfl, rfl⟩ := hall
          have hm' := hm.upd hxf (r := rf.set j true) (by simp [hrfl])
          have hlen' : (hc.set xf.1 (B.row 4 xf.2 0 true (bvs (rf.set j true)))).length = h.length := hm'.len
          repeat' (first
 |refine AW_seq_k fun K hK=>?_|refine Step.by1 ?_|refine SBlock_exit_ne (by decide) ?_|refine cz rfl ?_|refine Fork.by2 (fun h=>?_) fun h=>?_
 |(refine AW_region_AO ?_;simp [vl, AutoD.cells, EdgeD.cells, hpp, hqq, hlen, g0, g1, gr, gt, gf, sf, hml, hpl, hpl', hmp, hjt, hjt', w2, hcl, hcl2, hct, hcf, hbs])
 |(refine Split.by2 (fun h=>?_) (fun h=>?_)<;>(simp [h, vl, AutoD.cells, EdgeD.cells, hpp, hqq, hlen, g0, g1, gr, gt, gf, sf, hml, hpl, hpl', hmp, hjt, hjt', w2, hcl, hcl2, hct, hcf, hbs]))
 |(refine AS_op1 rfl (S_lookupI (l := sm) Tryz.underlying225 Tryz.underlying3 zb4 rfl (by simp [g1, hlen]) rfl hsn) ?_; simp [hget, vl, AutoD.cells, EdgeD.cells, hpp, hqq, hlen, g0, g1, gr, gt, gf, sf, hml, hpl, hpl', hmp, hjt, hjt', w2, hcl, hcl2, hct, hcf, hbs])
 |(apply hK;clear hK K)|refine AWh (by assumption) ?_)
          refine ⟨⟨j + 1, true, m.set p (rf.set j true), hc.set xf.1 (.row 4 xf.2 0 true (bvs (rf.set j true)))⟩, ⟨by show j + 1 ≤ _; omega, hk2 rfl rfl rfl, hm'⟩, by show _ - (j + 1) < _ - j; omega, Weak.sym (x := []) (by simp [vl, AutoD.cells, EdgeD.cells]) (hm'.hl.app (by simp [AutoD.cells, EdgeD.cells, vl])) (by simp [vl, AutoD.cells, EdgeD.cells, hlen']; omega)⟩
        · have hkk := hk1 (fun h1 h2 => by
            cases bf
            · exact absurd ⟨by cases h1; rfl, rfl, h2⟩ hall
            · rfl)
          cases bt <;> cases bf <;> cases sb <;> simp only [not_true_eq_false, and_self, and_false, false_and, and_true, true_and, Bool.false_eq_true, reduceCtorEq] at hall
          all_goals
            repeat' (first
 |refine AW_seq_k fun K hK=>?_|refine Step.by1 ?_|refine SBlock_exit_ne (by decide) ?_|refine cz rfl ?_|refine Fork.by2 (fun h=>?_) fun h=>?_
 |(refine AW_region_AO ?_;simp [vl, AutoD.cells, EdgeD.cells, hpp, hqq, hlen, g0, g1, gr, gt, gf, hml, hpl, hpl', hmp, hjt, hjt', w2, hcl, hcl2, hct, hcf])
 |(refine Split.by2 (fun h=>?_) (fun h=>?_)<;>(simp [h, vl, AutoD.cells, EdgeD.cells, hpp, hqq, hlen, g0, g1, gr, gt, gf, hml, hpl, hpl', hmp, hjt, hjt', w2, hcl, hcl2, hct, hcf]))
 |(refine AS_op1 rfl (S_lookupI (l := sm) Tryz.underlying225 Tryz.underlying3 zb4 rfl (by simp [g1, hlen]) rfl hsn) ?_; simp [hget, vl, AutoD.cells, EdgeD.cells, hpp, hqq, hlen, g0, g1, gr, gt, gf, hml, hpl, hpl', hmp, hjt, hjt', w2, hcl, hcl2, hct, hcf])
 |(apply hK;clear hK K)|refine AWh (by assumption) ?_)
            refine ⟨⟨j + 1, more, m, hc⟩, ⟨by show j + 1 ≤ _; omega, hkk, hm⟩, by show _ - (j + 1) < _ - j; omega, Weak.sym (x := []) (by simp [vl, AutoD.cells, EdgeD.cells]) (hm.hl.app (by simp [AutoD.cells, EdgeD.cells, vl])) (by simp [vl, AutoD.cells, EdgeD.cells, hlen]; omega)⟩
      · obtain rfl : j = N := by omega
        repeat' (first
 |refine AW_seq_k fun K hK=>?_|refine Step.by1 ?_|refine SBlock_exit_ne (by decide) ?_|refine cz rfl ?_|refine Fork.by2 (fun h=>?_) fun h=>?_
 |(refine AW_region_AO ?_;simp [vl, AutoD.cells, EdgeD.cells, w1])
 |(refine Split.by2 (fun h=>?_) (fun h=>?_)<;>(simp [h, vl, AutoD.cells, EdgeD.cells, w1]))
 |(apply hK;clear hK K)|refine AWh (by assumption) ?_)
        refine ⟨⟨k + 1, more, m, hc⟩, ⟨by show k + 1 ≤ _; omega, hp.next, hm⟩, by show _ - (k + 1) < _ - k; omega, Weak.sym (x := [B.var e.cells, B.map (imap sm)]) (by simp [vl, AutoD.cells, EdgeD.cells]) (hm.hl.app (by simp [AutoD.cells, vl])) (by simp [vl, AutoD.cells, EdgeD.cells, hlen]; omega)⟩
  · obtain rfl : k = a.edges.length := by omega
    repeat' (first
 |refine AW_seq_k fun K hK=>?_|refine Step.by1 ?_|refine SBlock_exit_ne (by decide) ?_|refine cz rfl ?_|refine Fork.by2 (fun h=>?_) fun h=>?_
 |(refine AW_region_AO ?_;simp [vl, AutoD.cells])
 |(refine Split.by2 (fun h=>?_) (fun h=>?_)<;>(simp [h, vl, AutoD.cells]))
 |(apply hK;clear hK K)|refine AWh (by assumption) ?_)
    exact retg1 ⟨more, m, rfl, hp, hm⟩ rfl (Leaves.symx (by omega) hm.hl)
end Go.Proofs.YtgmlimipejcpgaaGreatDoor
end

section
set_option linter.unusedVariables false
set_option linter.unusedSimpArgs false
namespace Go.Proofs.YtgmlimipejcpgaaGreatDoor
open Go Go.AM Fx
noncomputable def markV (a : AutoD) (gs : List (List PartD)) (N : Nat) : List (List V) := (List.range a.locs.length).map fun i => [V.vec (bvs (actR a gs N i)) N]
theorem look_ok {n : NetD} {gs : List (List PartD)} (h : lookE n gs = 0) : netE n = 0 ∧ ∀ g ∈ gs, goalE n g = 0 := by
  unfold lookE at h
  by_cases hz : netE n = 0
  · rw [if_neg (by simp [hz])] at h
    refine ⟨hz, ?_⟩
    clear hz
    induction gs with
    | nil => intro g hg; cases hg
    | cons x r ih =>
      rw [lookF_cons] at h
      by_cases hx : goalE n x = 0
      · rw [if_neg (by simp [hx])] at h
        intro g hg
        rcases List.mem_cons.1 hg with rfl | hg
        · exact hx
        · exact ih h g hg
      · rw [if_pos hx] at h; exact absurd h hx
  · rw [if_pos hz] at h; exact absurd h hz
theorem MR.base {h hc : List B} {mr gm N : Nat} {fl : Bool} {ids : List (Nat × Nat)} {m : Marks} (p : MR 144 4 bvs h mr gm fl ids N m hc) : MR 144 4 bvs hc mr gm fl ids N m hc := ⟨p.ne, rfl, p.hl, p.mr, p.ml, p.rows, p.inj, fun _ _ => rfl⟩
theorem MR.over {h hc h' : List B} {mr gm N : Nat} {fl : Bool} {ids : List (Nat × Nat)} {m m' : Marks} (p : MR 144 4 bvs h mr gm fl ids N m hc) (q : MR 144 4 bvs hc mr gm fl ids N m' h') : MR 144 4 bvs h mr gm fl ids N m' h' :=
  ⟨q.ne, q.len.trans p.len, q.hl, q.mr, q.ml, q.rows, q.inj, fun b hb => (q.rest b hb).trans (p.rest b hb)⟩
/-- The marks as a value that nobody writes any more. -/
theorem MR.conv {h hc : List B} {mr gm N : Nat} {fl : Bool} {ids : List (Nat × Nat)} {m : Marks} {vs : List (List V)} (p : MR 144 4 bvs h mr gm fl ids N m hc) (hfl : fl = true → ids = []) (hv : vs.length = ids.length) (hm : ∀ (i : Nat) (r : List Bool), m[i]? = some r → vs[i]? = some [V.vec (bvs r) N]) :
    Conv hc (.ref mr gm 0 ids.length) (.vec vs ids.length) := by
  refine .inl ⟨2, ?_, rfl⟩
  have e : vs = if fl = true then (mrefs ids N).drop 0 else ((mrefs ids N).drop 0).map fun x => x.map (frz hc 1) := by
    by_cases hf : fl = true
    · rw [if_pos hf, hfl hf]
      rw [hfl hf] at hv
      simpa [mrefs] using hv
    · rw [if_neg hf]
      apply List.ext_getElem?
      intro i
      rcases Nat.lt_or_ge i ids.length with hi | hi
      · obtain ⟨r, h1, h2, h3⟩ := p.rows i _ (List.getElem?_eq_getElem hi)
        rw [hm i r h1]
        simp [mrefs, hi, frz, h3, bvs, h2]
      · rw [List.getElem?_eq_none (by omega), List.getElem?_eq_none (by simp [mrefs, hi])]
  rw [e]
  simp [frz, p.mr, mrefs]
structure OE where
  k : Nat
  m : Marks
  hc : List B
set_option maxRecDepth 20000 in
set_option maxHeartbeats 16000000 in
theorem c_ofA (n : NetD) (hn : n.ok) (a : AutoD) (ham : a ∈ n.autos) (gs : List (List PartD)) (hgl : gs.length ≤ 1048576) (hgs : ∀ g ∈ gs, okGoal g) (he : lookE n gs = 0) :
    PC 99 [.agg n.cells, .agg a.cells, gsV gs] (.vec (markV a gs n.clocks.length) a.locs.length) := by
  obtain ⟨h0, hgg⟩ := look_ok he
  have hw := netE_whole h0
  have hE := edges_ok hw a ham
  have ha := hn.2.2.2.2 a ham
  have hal := ha.2.1
  have hae := ha.2.2
  have hN := hn.1.1
  have hgA : ∀ x ∈ guardsA a, okG n.clocks.length x := fun x hx => whole_guards hw x (List.mem_flatMap.2 ⟨a, ham, hx⟩)
  have hgI : ∀ l ∈ a.locs, ∀ x ∈ l.inv, okG n.clocks.length x := fun l hl x hx => hgA x (List.mem_append.2 (.inl (List.mem_flatMap.2 ⟨l, hl, hx⟩)))
  have hgE : ∀ e ∈ a.edges, ∀ x ∈ e.guards, okG n.clocks.length x := fun e he x hx => hgA x (List.mem_append.2 (.inr (List.mem_flatMap.2 ⟨e, he, hx⟩)))
  have hgG : ∀ g ∈ gs, ∀ p ∈ g, ∀ x ∈ p.guards, okG n.clocks.length x := fun g hg => goal_guards (hgg g hg)
  refine PCall_body Tryz.func99 rfl (by decide) Tryz.ntmps99 (by simp) Tryz.results99 ?_
  repeat' (first
 |refine AW_seq_k fun K hK=>?_|refine Step.by1 ?_|refine SBlock_exit_ne (by decide) ?_|refine cz rfl ?_|refine Fork.by2 (fun h=>?_) fun h=>?_
 |(refine AW_region_AO ?_;simp [gsV, vl, NetD.cells, AutoD.cells])
 |(refine Split.by2 (fun h=>?_) (fun h=>?_)<;>(simp [h, gsV, vl, NetD.cells, AutoD.cells]))
 |(apply hK;clear hK K)|refine AWh (by assumption) ?_)
  refine AW_nilrow 7 144 rfl (by simp) ?_
  refine AW_loopGL [2, 3, 4, 18, 19] (fun i : Nat => [(7, .ref 2 i 0 i), (20, .int .i64 i)]) (fun i => ofH n a gs i) (fun i => i ≤ a.locs.length) (fun i => a.locs.length - i) 0 (Nat.zero_le _)
    (Weak.sym (x := []) (by simp [ofH, refsO, tailB, NetD.cells, AutoD.cells, vl]) (ofH_hl (Nat.zero_le _)) (by simp [vl, AutoD.cells, gsV, ofH])) (fun i hi => by rw [ofH_len hi]; simp) ?_
  intro i hi
  have hH := ofH_len (n := n) (a := a) (gs := gs) hi
  have hHl := ofH_hl (n := n) (a := a) (gs := gs) hi
  by_cases hlt : i < a.locs.length
  · have hnl := ofH_hl (n := n) (a := a) (gs := gs) (i := i + 1) hlt
    have hT := tailB_len (a := a) (gs := gs) (N := n.clocks.length) hi
    have hts := tailB_succ (gs := gs) (N := n.clocks.length) hlt
    have hrl := refsO_len (N := n.clocks.length) (i := i)
    have hrs := refsO_succ (N := n.clocks.length) (i := i)
    obtain ⟨l, hl⟩ : ∃ l, a.locs[i] = l := ⟨_, rfl⟩
    have hlm : l ∈ a.locs := hl ▸ List.getElem_mem hlt
    have hli := (hal.2 l hlm).2.2
    have hlt' : (i : Int) < a.locs.length := by omega
    have w1 : IntKind.i64.wrap ((i : Int) + 1) = i + 1 := wrap_i64 (by omega) (by omega)
    have hNb : (n.clocks.length : Int) ≤ 281474976710656 := by omega
    have hby : (i + 1) * 24 ≤ 140737488355328 := by omega
    have hLl : ∀ (x : List B) (c : List Bool), (∀ y ∈ x, y.lt 0) → HL (ofH n a gs i ++ .var l.cells :: .row 4 0 0 true (bvs c) :: x) := fun x c hx => hHl.app fun y hy => by
      simp only [List.mem_cons] at hy
      rcases hy with rfl | rfl | hy
      · simp [LocD.cells, vl]
      · exact rowF_lt
      · exact B.lt_mono (Nat.zero_le _) (hx y hy)
    obtain ⟨rr, hrr⟩ : ∃ rr, row0 n.clocks.length l gs = rr := ⟨_, rfl⟩
    rw [hl, hrr] at hts
    unfold row0 at hrr
    simp only [ofH, List.cons_append, List.nil_append] at hLl hH ⊢
    generalize tailB a gs n.clocks.length i = T at *
    generalize refsO n.clocks.length i = rs at *
    generalize hnb : 2 * i = nb at *
    have g0 := fun x : List B => ga0 (x := x) hT
    have g1 := fun (x : List B) (k : Nat) => ga1 (x := x) (k := k) hT
    have s1 := fun (x : List B) (k : Nat) (y : B) => sa1 (x := x) (k := k) (y := y) hT
    have s0 := fun (x : List B) (y : B) => sa0 (x := x) (y := y) hT
    have hwk : ∀ (x : List B) (c : List Bool), (∀ y ∈ x, y.lt 0) → HL (B.var n.cells :: .var a.cells :: .row 144 i 0 (decide (i = 0)) rs :: (T ++ .var l.cells :: .row 4 0 0 true (bvs c) :: x)) := hLl
    repeat' (first
 |refine AW_seq_k fun K hK=>?_|refine Step.by1 ?_|refine SBlock_exit_ne (by decide) ?_|refine cz rfl ?_|refine Fork.by2 (fun h=>?_) fun h=>?_
 |(refine AW_region_AO ?_;simp [gsV, vl, NetD.cells, LocD.cells, hlt, hlt', hl, hT, hNb, g0, g1, s1, bvs_rep])
 |(refine Split.by2 (fun h=>?_) (fun h=>?_)<;>(simp [h, gsV, vl, NetD.cells, LocD.cells, hlt, hlt', hl, hT, hNb, g0, g1, s1, bvs_rep]))
 |(refine AS_callG (f := 162) rfl rfl (c_useH (H := .var n.cells :: .var a.cells :: .row 144 i 0 (decide (i = 0)) rs :: T) (x := []) hH (fun c => hLl [] c (by simp)) (by simp) l.inv hli.1 hN (hgI l hlm)) rfl (fun v h' hq => ?_); obtain ⟨rfl, rfl⟩ := hq; simp)
 |(apply hK;clear hK K)|refine AWh (by assumption) ?_)
    refine AW_range (r := rr) gs 34 [2, 3, 4, 7, 10, 18, 19, 20, 32, 33] (fun _ : List Bool => []) (fun c => B.var n.cells :: .var a.cells :: .row 144 i 0 (decide (i = 0)) rs :: (T ++ [B.var l.cells, B.row 4 0 0 true (bvs c)])) (fun _ c => c.length = n.clocks.length) useGs (useL l.inv (List.replicate n.clocks.length false)) hrr (by rw [useL_len]; simp)
      (Weak.sym (x := []) (by simp [NetD.cells, LocD.cells, vl]) (hwk [] _ (by simp)) (by simp [vl, gsV, hT])) (fun _ c _ => by simp) ?_ ?_
    · intro k c g hgk hk hge hJ hF
      rw [useGs_cons] at hF
      obtain ⟨c2, hc2⟩ : ∃ c2, usePs g c = c2 := ⟨_, rfl⟩
      rw [hc2] at hF
      have hgm : g ∈ gs := List.mem_of_getElem? hgk
      have hgo := hgs g hgm
      have hgG2 := hgG g hgm
      have hk' : (k : Int) < gs.length := by omega
      have w2 : IntKind.i64.wrap ((k : Int) + 1) = k + 1 := wrap_i64 (by omega) (by omega)
      clear hgk hgm
      repeat' (first
 |refine AW_seq_k fun K hK=>?_|refine Step.by1 ?_|refine SBlock_exit_ne (by decide) ?_|refine cz rfl ?_|refine Fork.by2 (fun h=>?_) fun h=>?_
 |(refine AW_region_AO ?_;simp [gsV, vl, hk, hk', hge])
 |(refine Split.by2 (fun h=>?_) (fun h=>?_)<;>(simp [h, gsV, vl, hk, hk', hge]))
 |(apply hK;clear hK K)|refine AWh (by assumption) ?_)
      refine AW_range (r := c2) g 40 [2, 3, 4, 7, 10, 18, 19, 20, 32, 33, 34, 38, 39] (fun _ : List Bool => []) (fun c => B.var n.cells :: .var a.cells :: .row 144 i 0 (decide (i = 0)) rs :: (T ++ [B.var l.cells, B.row 4 0 0 true (bvs c)])) (fun _ c => c.length = n.clocks.length) usePs c hc2 hJ
        (Weak.sym (x := []) (by simp [NetD.cells, LocD.cells, vl]) (hwk [] _ (by simp)) (by simp [vl, gsV, hT])) (fun _ c _ => by simp) ?_ ?_
      · intro j c p hpj hj hpe hJ hF2
        rw [usePs_cons] at hF2
        have hpm : p ∈ g := List.mem_of_getElem? hpj
        have hpg := (hgo.2 p hpm).2.1
        have hgG3 := hgG2 p hpm
        have hj' : (j : Int) < g.length := by omega
        have w3 : IntKind.i64.wrap ((j : Int) + 1) = j + 1 := wrap_i64 (by have := hgo.1; omega) (by have := hgo.1; omega)
        clear hpj hpm
        repeat' (first
 |refine AW_seq_k fun K hK=>?_|refine Step.by1 ?_|refine SBlock_exit_ne (by decide) ?_|refine cz rfl ?_|refine Fork.by2 (fun h=>?_) fun h=>?_
 |(refine AW_region_AO ?_;simp [gsV, vl, PartD.cells, hj, hj', hpe, w3, hT, g0, g1, s1])
 |(refine Split.by2 (fun h=>?_) (fun h=>?_)<;>(simp [h, gsV, vl, PartD.cells, hj, hj', hpe, w3, hT, g0, g1, s1]))
 |(refine AS_callG (f := 162) rfl rfl (c_useH (H := .var n.cells :: .var a.cells :: .row 144 i 0 (decide (i = 0)) rs :: T) (x := [B.var p.cells]) hH (fun c => hLl [B.var p.cells] c (by simp [PartD.cells, vl])) hJ p.guards hpg.1 hN hgG3) rfl (fun v h' hq => ?_); obtain ⟨rfl, rfl⟩ := hq; simp)
 |(apply hK;clear hK K)|refine AWh (by assumption) ?_)
        refine ⟨_, hF2, by rw [useL_len]; exact hJ, Weak.sym (x := [B.var p.cells]) (by simp [PartD.cells, vl]) (hwk [] _ (by simp)) (by simp [vl, gsV, hT])⟩
      · intro c hJ hF2
        rw [usePs_nil] at hF2
        subst c
        repeat' (first
 |refine AW_seq_k fun K hK=>?_|refine Step.by1 ?_|refine SBlock_exit_ne (by decide) ?_|refine cz rfl ?_|refine Fork.by2 (fun h=>?_) fun h=>?_
 |(refine AW_region_AO ?_;simp [gsV, vl, w2])
 |(refine Split.by2 (fun h=>?_) (fun h=>?_)<;>(simp [h, gsV, vl, w2]))
 |(apply hK;clear hK K)|refine AWh (by assumption) ?_)
        refine ⟨c2, hF, hJ, Weak.sym (x := []) (by simp) (hwk [] _ (by simp)) (by simp [vl, gsV, hT])⟩
    · intro c hJ hF
      rw [useGs_nil] at hF
      subst c
      repeat' (first
 |refine AW_seq_k fun K hK=>?_|refine Step.by1 ?_|refine SBlock_exit_ne (by decide) ?_|refine cz rfl ?_|refine Fork.by2 (fun h=>?_) fun h=>?_
 |(refine AW_region_AO ?_;simp [gsV, vl, NetD.cells, LocD.cells, hT, g0, g1, s1, hrl, hby, w1])
 |(refine Split.by2 (fun h=>?_) (fun h=>?_)<;>(simp [h, gsV, vl, NetD.cells, LocD.cells, hT, g0, g1, s1, hrl, hby, w1]))
 |(apply hK;clear hK K)|refine AWh (by assumption) ?_)
      subst hnb
      exact ⟨i + 1, by omega, by omega, Weak.sym (x := [B.row 144 0 0 false [[V.ref (2 * i + 1 + 1 + 1 + 1) 0 0 n.clocks.length]]]) (by simp [hts, hrs, NetD.cells, LocD.cells, vl]) hnl (by simp [vl, gsV])⟩
  · obtain rfl : i = a.locs.length := by omega
    repeat' (first
 |refine AW_seq_k fun K hK=>?_|refine Step.by1 ?_|refine SBlock_exit_ne (by decide) ?_|refine cz rfl ?_|refine Fork.by2 (fun h=>?_) fun h=>?_
 |(refine AW_region_AO ?_;simp [gsV, vl, NetD.cells, AutoD.cells, ofH])
 |(refine Split.by2 (fun h=>?_) (fun h=>?_)<;>(simp [h, gsV, vl, NetD.cells, AutoD.cells, ofH]))
 |(apply hK;clear hK K)|refine AWh (by assumption) ?_)
    have hm0 := ofH_mr (n := n) (a := a) (gs := gs)
    have hM0 : MU a gs n.clocks.length 0 (a.locs.map fun l => row0 n.clocks.length l gs) := .init hgI hgG
    have hb1 : (ofH n a gs a.locs.length)[1]? = some (.var a.cells) := by simp [ofH]
    have hu0 : ofH n a gs a.locs.length = B.var n.cells :: .var a.cells :: .row 144 a.locs.length 0 (decide (a.locs.length = 0)) (refsO n.clocks.length a.locs.length) :: tailB a gs n.clocks.length a.locs.length := rfl
    obtain ⟨ids, hids⟩ : ∃ ids, ((List.range a.locs.length).map fun j => (2 * j + 4, 0)) = ids := ⟨_, rfl⟩
    have hil : ids.length = a.locs.length := by rw [← hids]; simp
    have hi1 : ∀ x ∈ ids, x.1 ≠ 1 := by rw [← hids]; intro x hx; obtain ⟨j, _, rfl⟩ := List.mem_map.1 hx; simp
    have hfl : decide (a.locs.length = 0) = true → ids = [] := fun h => List.eq_nil_of_length_eq_zero (by rw [hil]; simpa using h)
    rw [hids] at hm0
    obtain ⟨fl, hf⟩ : ∃ fl, decide (a.locs.length = 0) = fl := ⟨_, rfl⟩
    rw [hf] at hm0 hfl
    generalize ofH n a gs a.locs.length = H0 at *
    have hml : (mrefs ids n.clocks.length).length = a.locs.length := by simp [mrefs, hil]
    refine AW_loopL [4, 7, 56, 57] (fun s : OE => [(58, .int .i64 s.k)]) (fun s => s.hc) (fun s => s.k ≤ a.edges.length ∧ MU a gs n.clocks.length s.k s.m ∧ MR 144 4 bvs H0 2 a.locs.length fl ids n.clocks.length s.m s.hc) (fun s => a.edges.length - s.k) ⟨0, _, H0⟩ ⟨Nat.zero_le _, hM0, hm0⟩
      (Weak.sym (x := []) (by simp [hu0, NetD.cells, AutoD.cells, vl]) hm0.hl (by simp [vl, AutoD.cells, hH])) (fun s hs => by rw [hs.2.2.len, hH]; simp [tailB_len]) ?_
    rintro ⟨k, m, hc⟩ ⟨hk, hp, hm⟩
    simp only at hk hp hm
    have hlen := hm.len
    by_cases hkt : k < a.edges.length
    · obtain ⟨e, he⟩ : ∃ e, a.edges[k] = e := ⟨_, rfl⟩
      have he' : a.edges[k]? = some e := by rw [List.getElem?_eq_getElem hkt, he]
      have hem := List.mem_of_getElem? he'
      obtain ⟨⟨f1, f2⟩, t1, t2⟩ := hE e hem
      obtain ⟨p, hpp⟩ := Int.eq_ofNat_of_zero_le f1
      have hpt : e.frm.toNat = p := by omega
      have hkt' : (k : Int) < a.edges.length := by omega
      have w1 : IntKind.i64.wrap ((k : Int) + 1) = k + 1 := wrap_i64 (by omega) (by omega)
      have hpl : p < a.locs.length := by omega
      have hpl' : (p : Int) < a.locs.length := by omega
      obtain ⟨x, hx, hmp⟩ := hm.at (i := p) (by omega)
      obtain ⟨r, hr, hrl, hrow⟩ := hm.rows p x hx
      have hxl := (List.getElem?_eq_some_iff.1 hrow).1
      have hst := hp.step he' (r := r) f1 (by rw [hpt]; exact hr) (hgE e hem)
      have hup := hm.upd hx (r := useL e.guards r) (by rw [useL_len]; exact hrl)
      have hu := c_use (h := hc ++ [B.var e.cells]) (b := x.1) (g := x.2) (m := r) (hm.hl.app (by simp [EdgeD.cells, vl])) (by rw [get_app hxl]; exact hrow) e.guards (hae.2 e hem).2.2.1.1 (by omega) (by rw [hrl]; exact hgE e hem)
      rw [hrl, set_app hxl] at hu
      simp only [EdgeD.cells, vl, hpp] at hu
      rw [hpt] at hst
      have gr : ∀ y : List B, (hc ++ y)[2]? = some (.row 144 a.locs.length 0 fl (mrefs ids n.clocks.length)) := fun y => by rw [get_app (by omega)]; exact hm.mr
      have g0 := fun x : List B => ga0 (x := x) hlen
      repeat' (first
 |refine AW_seq_k fun K hK=>?_|refine Step.by1 ?_|refine SBlock_exit_ne (by decide) ?_|refine cz rfl ?_|refine Fork.by2 (fun h=>?_) fun h=>?_
 |((first|refine AW_region_AO ?_|refine AW_region_APx (id:=21) 7 mixed (by decide) ?_);simp [vl, EdgeD.cells, hkt, hkt', he, hpp, hpl, hpl', hml, hmp, gr, g0, hlen, w1])
 |(refine Split.by2 (fun h=>?_) (fun h=>?_)<;>(simp [h, vl, EdgeD.cells, hkt, hkt', he, hpp, hpl, hpl', hml, hmp, gr, g0, hlen, w1]))
 |(refine AS_callG (f := 162) rfl rfl hu rfl (fun v h' hq => ?_); obtain ⟨rfl, rfl⟩ := hq; simp)
 |(apply hK;clear hK K)|refine AWh (by assumption) ?_)
      exact ⟨⟨k + 1, _, _⟩, ⟨by show k + 1 ≤ _; omega, hst, hup⟩, by show _ - (k + 1) < _ - k; omega, Weak.sym (x := [B.var e.cells]) (by simp [EdgeD.cells, vl, hpp]) hup.hl (by simp [vl, AutoD.cells, hlen, hH])⟩
    · obtain rfl : k = a.edges.length := by omega
      repeat' (first
 |refine AW_seq_k fun K hK=>?_|refine Step.by1 ?_|refine SBlock_exit_ne (by decide) ?_|refine cz rfl ?_|refine Fork.by2 (fun h=>?_) fun h=>?_
 |(refine AW_region_AO ?_;simp [vl])
 |(refine Split.by2 (fun h=>?_) (fun h=>?_)<;>(simp [h, vl]))
 |(apply hK;clear hK K)|refine AWh (by assumption) ?_)
      refine AW_loopL [4, 7] (fun s : OE => []) (fun s => s.hc) (fun s => MS a gs n.clocks.length s.m ∧ MR 144 4 bvs H0 2 a.locs.length fl ids n.clocks.length s.m s.hc) (fun s => fM s.m) ⟨0, m, hc⟩ ⟨hp.ms, hm⟩
        (Weak.sym (x := []) (by simp) hm.hl (by simp [hlen, hH])) (fun s hs => by rw [hs.2.len, hlen]) ?_
      clear hp hm hlen
      rintro ⟨_, m, hc⟩ ⟨hs, hm⟩
      simp only at hs hm
      have hsp := c_spread hm.base a ha hE gs hs hN
      have h1 : hc[1]? = some (.var a.cells) := by rw [hm.rest 1 hi1]; exact hb1
      rw [hil] at hsp
      simp only [AutoD.cells, vl] at hsp h1
      repeat' (first
 |refine AW_seq_k fun K hK=>?_|refine Step.by1 ?_|refine SBlock_exit_ne (by decide) ?_|refine cz rfl ?_|refine Fork.by2 (fun h=>?_) fun h=>?_
 |(refine AW_region_AO ?_;simp [h1])
 |(refine Split.by2 (fun h=>?_) (fun h=>?_)<;>(simp [h, h1]))
 |(refine AS_callG (f := 163) rfl rfl hsp rfl (fun v h' hq => ?_); obtain ⟨mo, m2, rfl, hp2, hm2⟩ := hq; cases mo <;> simp)
 |(apply hK;clear hK K)|refine AWh (by assumption) ?_)
      · have e2 := (hp2.eq rfl).1
        have hd := hp2.done
        subst m2
        have hcv := hm2.conv (vs := markV a gs n.clocks.length) hfl (by simp [markV, hil]) fun i r hr => by
          have hi : i < a.locs.length := by rw [← hs.len]; exact (List.getElem?_eq_some_iff.1 hr).1
          rw [hs.rows hE hd hr]; simp [markV, hi]
        rw [hil] at hcv
        exact retq1 hcv
      · have hm3 := hm.over hm2
        exact ⟨⟨0, m2, h'⟩, ⟨hp2.s, hm3⟩, hp2.lt rfl, Weak.sym (x := []) (by simp) hm3.hl (by simp [hm3.len, hH])⟩
end Go.Proofs.YtgmlimipejcpgaaGreatDoor
end

section
set_option linter.unusedVariables false
set_option linter.unusedSimpArgs false
namespace Go.Proofs.YtgmlimipejcpgaaGreatDoor
open Go Go.AM Fx
end Go.Proofs.YtgmlimipejcpgaaGreatDoor
end

section
set_option linter.unusedVariables false
set_option linter.unusedSimpArgs false
namespace Go.Proofs.YtgmlimipejcpgaaGreatDoor
open Go Go.AM Fx
/-- A row of rows of ints. -/
structure N2 (o : Nat) (h : List B) (b g : Nat) (fl : Bool) (ids : List (Nat × Nat × Nat)) (P : List (List Int)) : Prop where
  at0 : h[b]? = some (.row 47 g 0 fl (ids.map fun x => [rv x]))
  flat : fl = true → ids = []
  len : P.length = ids.length
  rows : ∀ (j : Nat) (x : Nat × Nat × Nat), ids[j]? = some x → ∃ ns, P[j]? = some ns ∧ ns.length = x.2.2 ∧ h[x.1]? = some (.row 3 x.2.1 0 true (ivs ns))
  low : o ≤ b ∧ ∀ x ∈ ids, o ≤ x.1
  nodup : (ids.map (·.1)).Nodup
structure N3 (o : Nat) (h : List B) (b g : Nat) (fl : Bool) (T : List (Nat × Nat × Bool × List (Nat × Nat × Nat))) (P : List (List (List Int))) : Prop where
  at0 : h[b]? = some (.row 54 g 0 fl (T.map fun y => [V.ref y.1 y.2.1 0 y.2.2.2.length]))
  flat : fl = true → T = []
  len : P.length = T.length
  rows : ∀ (i : Nat) (y : Nat × Nat × Bool × List (Nat × Nat × Nat)), T[i]? = some y → ∃ Q, P[i]? = some Q ∧ N2 o h y.1 y.2.1 y.2.2.1 y.2.2.2 Q
  low : o ≤ b
  nodup : ((T.flatMap (·.2.2.2)).map (·.1)).Nodup
section
variable {o b g : Nat} {h h' : List B} {fl : Bool} {ids : List (Nat × Nat × Nat)} {P : List (List Int)} {T : List (Nat × Nat × Bool × List (Nat × Nat × Nat))} {PP : List (List (List Int))}
theorem N2.ids_lt (p : N2 o h b g fl ids P) : ∀ x ∈ ids, x.1 < h.length := fun x hx => by
  obtain ⟨j, hj⟩ := List.getElem?_of_mem hx
  obtain ⟨_, _, _, h3⟩ := p.rows j x hj
  exact (List.getElem?_eq_some_iff.1 h3).1
theorem N2.b_lt (p : N2 o h b g fl ids P) : b < h.length := (List.getElem?_eq_some_iff.1 p.at0).1
theorem N2.mono (p : N2 o h b g fl ids P) (hh : ∀ k, k < h.length → h'[k]? = h[k]?) : N2 o h' b g fl ids P :=
  ⟨by rw [hh _ p.b_lt]; exact p.at0, p.flat, p.len, fun j x hx => by
    obtain ⟨ns, h1, h2, h3⟩ := p.rows j x hx
    exact ⟨ns, h1, h2, by rw [hh _ (List.getElem?_eq_some_iff.1 h3).1]; exact h3⟩, p.low, p.nodup⟩
theorem N3.b_lt (p : N3 o h b g fl T PP) : b < h.length := (List.getElem?_eq_some_iff.1 p.at0).1
theorem N3.mono (p : N3 o h b g fl T PP) (hh : ∀ k, k < h.length → h'[k]? = h[k]?) : N3 o h' b g fl T PP :=
  ⟨by rw [hh _ p.b_lt]; exact p.at0, p.flat, p.len, fun i y hy => by
    obtain ⟨Q, h1, h2⟩ := p.rows i y hy
    exact ⟨Q, h1, h2.mono hh⟩, p.low, p.nodup⟩
/-- A row more. -/
theorem N2.snoc (p : N2 o h b g fl ids P) {ns : List Int} (ho : o ≤ h.length) : N2 o (h.set b (.row 47 (g + 1) 0 false (ids.map (fun x => [rv x]) ++ [[rv (h.length, 0, ns.length)]])) ++ [B.row 3 0 0 true (ivs ns)]) b (g + 1) false (ids ++ [(h.length, 0, ns.length)]) (P ++ [ns]) := by
  have hb := p.b_lt
  refine ⟨?_, fun h => (by cases h), by simp [p.len], fun j x hx => ?_, ⟨p.low.1, fun x hx => ?_⟩, ?_⟩
  · rw [get_app (by simpa using hb), List.getElem?_set, if_pos rfl, if_pos hb]; simp
  · by_cases hj : j < ids.length
    · rw [List.getElem?_append_left hj] at hx
      obtain ⟨ms, h1, h2, h3⟩ := p.rows j x hx
      have hx1 := (List.getElem?_eq_some_iff.1 h3).1
      have hne : b ≠ x.1 := fun e => by
        have := p.at0
        rw [e, h3] at this
        simp at this
      exact ⟨ms, by rw [List.getElem?_append_left (by rw [p.len]; exact hj)]; exact h1, h2, by rw [get_app (by simpa using hx1), get_set_ne hne]; exact h3⟩
    · have hj2 : j = ids.length := by have := (List.getElem?_eq_some_iff.1 hx).1; simp at this; omega
      subst hj2
      simp at hx; subst hx
      refine ⟨ns, by rw [← p.len]; simp, rfl, ?_⟩
      rw [ga0 (by simp)]; rfl
  · rcases List.mem_append.1 hx with hx | hx
    · exact p.low.2 x hx
    · simp at hx; subst hx; exact ho
  · rw [List.map_append]
    refine List.nodup_append.2 ⟨p.nodup, by simp, fun u hu w hw e => ?_⟩
    obtain ⟨x, hx, rfl⟩ := List.mem_map.1 hu
    simp at hw
    have := p.ids_lt x hx
    omega
/-- Rows of rows more, all of them behind what there was. -/
theorem N3.snoc {hc : List B} (p : N3 o h b g fl T PP) (ho : o ≤ h.length) (hh : ∀ k, k < h.length → hc[k]? = h[k]?) {b2 g2 : Nat} {fl2 : Bool} {ids : List (Nat × Nat × Nat)} {Q : List (List Int)} (q : N2 h.length hc b2 g2 fl2 ids Q) :
    N3 o (hc.set b (.row 54 (g + 1) 0 false (T.map (fun y => [V.ref y.1 y.2.1 0 y.2.2.2.length]) ++ [[V.ref b2 g2 0 ids.length]]))) b (g + 1) false (T ++ [(b2, g2, fl2, ids)]) (PP ++ [Q]) := by
  have p2 := p.mono hh
  have hb := p2.b_lt
  have hb0 := p.b_lt
  have key : ∀ {y1 y2 : Nat} {f : Bool} {l : List (Nat × Nat × Nat)} {R : List (List Int)} {o' : Nat}, N2 o' hc y1 y2 f l R → o ≤ o' → N2 o (hc.set b (.row 54 (g + 1) 0 false (T.map (fun y => [V.ref y.1 y.2.1 0 y.2.2.2.length]) ++ [[V.ref b2 g2 0 ids.length]]))) y1 y2 f l R := fun {y1 y2 f l R o'} r hoo => by
    have hat := p2.at0
    refine ⟨?_, r.flat, r.len, fun j x hx => ?_, ⟨Nat.le_trans hoo r.low.1, fun x hx => Nat.le_trans hoo (r.low.2 x hx)⟩, r.nodup⟩
    · rw [get_set_ne (fun e => by have := r.at0; rw [← e, hat] at this; simp at this)]; exact r.at0
    · obtain ⟨ns, h1, h2, h3⟩ := r.rows j x hx
      exact ⟨ns, h1, h2, by rw [get_set_ne (fun e => by rw [← e, hat] at h3; simp at h3)]; exact h3⟩
  refine ⟨?_, fun h => (by cases h), by simp [p.len], fun i y hy => ?_, p.low, ?_⟩
  · rw [List.getElem?_set, if_pos rfl, if_pos hb]; simp
  · by_cases hi : i < T.length
    · rw [List.getElem?_append_left hi] at hy
      obtain ⟨R, h1, h2⟩ := p2.rows i y hy
      exact ⟨R, by rw [List.getElem?_append_left (by rw [p.len]; exact hi)]; exact h1, key h2 (Nat.le_refl _)⟩
    · have hi2 : i = T.length := by have := (List.getElem?_eq_some_iff.1 hy).1; simp at this; omega
      subst hi2
      simp at hy; subst hy
      exact ⟨Q, by rw [← p.len]; simp, key q ho⟩
  · rw [List.flatMap_append, List.map_append]
    refine List.nodup_append.2 ⟨p.nodup, by simpa using q.nodup, fun u hu w hw e => ?_⟩
    obtain ⟨x, hx, rfl⟩ := List.mem_map.1 hu
    obtain ⟨y, hy, hxy⟩ := List.mem_flatMap.1 hx
    obtain ⟨i, hi⟩ := List.getElem?_of_mem hy
    obtain ⟨R, _, h2⟩ := p.rows i y hi
    have h3 := h2.ids_lt x hxy
    obtain ⟨z, hz, rfl⟩ := List.mem_map.1 hw
    have h4 := q.low.2 z (by simpa using hz)
    omega
def rows2V (P : List (List Int)) : List (List V) := P.map fun r => [V.vec (ivs r) r.length]
def rows3V (P : List (List (List Int))) : List (List V) := P.map fun Q => [V.vec (rows2V Q) Q.length]
theorem N2.frz (p : N2 o h b g fl ids P) : Go.AM.frz h 2 (.ref b g 0 ids.length) = .vec (rows2V P) P.length := by
  have e : (if fl = true then ids.map fun x => [rv x] else (ids.map fun x => [rv x]).map fun x => x.map (Go.AM.frz h 1)) = rows2V P := by
    by_cases hf : fl = true
    · rw [if_pos hf, p.flat hf]
      have := p.len
      rw [p.flat hf] at this
      rw [List.eq_nil_of_length_eq_zero this]; rfl
    · rw [if_neg hf]
      apply List.ext_getElem?
      intro j
      rcases Nat.lt_or_ge j ids.length with hj | hj
      · obtain ⟨ns, h1, h2, h3⟩ := p.rows j _ (List.getElem?_eq_getElem hj)
        simp [rows2V, h1, hj, rv, Go.AM.frz, h3, ← h2, ivs]
      · rw [List.getElem?_eq_none (by simpa using hj), List.getElem?_eq_none (by simp [rows2V, p.len]; exact hj)]
  rw [Go.AM.frz]
  simp only [p.at0]
  rw [if_pos ⟨trivial, by simp⟩]
  simp only [List.drop_zero, e, p.len]
theorem N3.frz (p : N3 o h b g fl T PP) : Go.AM.frz h 3 (.ref b g 0 T.length) = .vec (rows3V PP) PP.length := by
  have e : (if fl = true then T.map fun y => [V.ref y.1 y.2.1 0 y.2.2.2.length] else (T.map fun y => [V.ref y.1 y.2.1 0 y.2.2.2.length]).map fun x => x.map (Go.AM.frz h 2)) = rows3V PP := by
    by_cases hf : fl = true
    · rw [if_pos hf, p.flat hf]
      have := p.len
      rw [p.flat hf] at this
      rw [List.eq_nil_of_length_eq_zero this]; rfl
    · rw [if_neg hf]
      apply List.ext_getElem?
      intro j
      rcases Nat.lt_or_ge j T.length with hj | hj
      · obtain ⟨Q, h1, h2⟩ := p.rows j _ (List.getElem?_eq_getElem hj)
        have h3 := h2.frz
        simp only [rows3V, List.getElem?_map, h1, List.getElem?_eq_getElem hj, Option.map_some, List.map_cons, List.map_nil, h3]
      · rw [List.getElem?_eq_none (by simpa using hj), List.getElem?_eq_none (by simp [rows3V, p.len]; exact hj)]
  rw [Go.AM.frz]
  simp only [p.at0]
  rw [if_pos ⟨trivial, by simp⟩]
  simp only [List.drop_zero, e, p.len]
end
/-- What a plan says: where a clock is active its number, elsewhere none. -/
noncomputable def planRow (a : AutoD) (gs : List (List PartD)) (M : List Int) (i : Nat) : List Int := (List.range M.length).map fun c : Nat => if actB a gs ((c : Int) + 1) i = true then M.getD c 0 else -1
noncomputable def planA (gs : List (List PartD)) (M : List Int) (a : AutoD) : List (List Int) := (List.range a.locs.length).map (planRow a gs M)
noncomputable def planP (n : NetD) (gs : List (List PartD)) (M : List Int) : List (List (List Int)) := n.autos.map (planA gs M)
end Go.Proofs.YtgmlimipejcpgaaGreatDoor
end
