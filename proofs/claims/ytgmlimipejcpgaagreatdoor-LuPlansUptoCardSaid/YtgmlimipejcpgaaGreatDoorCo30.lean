/-
  YtgmlimipejcpgaaGreatDoorCo30: steps of the proof of a law of the program: what these texts prove holds under the hypotheses that their theorems name, and no others.
-/
import Derived.Test.YtgmlimipejcpgaaGreatDoorCo29
import Derived.Laws.IdiomCopy
section
set_option linter.unusedVariables false
set_option linter.unusedSimpArgs false
namespace Go.Proofs.YtgmlimipejcpgaaGreatDoor
open Go Go.AM Fx
/-- A heap that leaves another one as it was, with more behind it. -/
structure Old (h hc : List B) : Prop where
  hl : HL hc
  len : h.length ≤ hc.length
  old : ∀ k, k < h.length → hc[k]? = h[k]?
section
variable {h hc hd : List B}
theorem Old.rfl (hl : HL h) : Old h h := ⟨hl, Nat.le_refl _, fun _ _ => Eq.refl _⟩
theorem Old.trans (p : Old h hc) (q : Old hc hd) : Old h hd := ⟨q.hl, Nat.le_trans p.len q.len, fun k hk => (q.old k (Nat.lt_of_lt_of_le hk p.len)).trans (p.old k hk)⟩
theorem Old.app (p : Old h hc) {x : List B} (hx : HL (hc ++ x)) : Old h (hc ++ x) := ⟨hx, by have := p.len; simp; omega, fun k hk => by rw [get_app (Nat.lt_of_lt_of_le hk p.len)]; exact p.old k hk⟩
theorem Old.set (p : Old h hc) {b : Nat} {y : B} (hb : h.length ≤ b) (hx : HL (hc.set b y)) : Old h (hc.set b y) := ⟨hx, by rw [List.length_set]; exact p.len, fun k hk => by rw [gN (by omega)]; exact p.old k hk⟩
theorem HL.setapp {x : List B} {b : Nat} {y : B} (hl : HL h) (hy : y.lt (h.length + x.length)) (hx : ∀ z ∈ x, z.lt (h.length + x.length)) : HL (h.set b y ++ x) := fun z hz => by
  rw [List.length_append, List.length_set]
  rcases List.mem_append.1 hz with hz | hz
  · rcases List.mem_or_eq_of_mem_set hz with hz | hz
    · exact B.lt_mono (by omega) (hl z hz)
    · subst hz; exact hy
  · exact hx z hz
theorem Old.setapp (p : Old h hc) {x : List B} {b : Nat} {y : B} (hb : h.length ≤ b) (hx : HL (hc.set b y ++ x)) : Old h (hc.set b y ++ x) :=
  ⟨hx, by have := p.len; simp; omega, fun k hk => by rw [get_app (by rw [List.length_set]; exact Nat.lt_of_lt_of_le hk p.len), gN (by omega)]; exact p.old k hk⟩
theorem Old.get (p : Old h hc) {k : Nat} {y : B} (hy : h[k]? = some y) : hc[k]? = some y := by rw [p.old k (List.getElem?_eq_some_iff.1 hy).1]; exact hy
end
theorem refs_lt {ids : List (Nat × Nat × Nat)} {n : Nat} (h : ∀ x ∈ ids, x.1 < n) : ∀ y ∈ ids.map (fun x => [rv x]), V.lts n y = true := fun y hy => by
  obtain ⟨x, hx, rfl⟩ := List.mem_map.1 hy
  simp [rv, h x hx]
end Go.Proofs.YtgmlimipejcpgaaGreatDoor
end
section
set_option linter.unusedSimpArgs false
set_option linter.unusedVariables false
namespace Go.Proofs.YtgmlimipejcpgaaGreatDoor
open Go Go.AM Fx
def gsG (gs : List (List PartD)) : List GuardD := gs.flatMap fun g => g.flatMap (·.guards)
end Go.Proofs.YtgmlimipejcpgaaGreatDoor
end
section
set_option linter.unusedVariables false
set_option linter.unusedSimpArgs false
namespace Go.AM
section
variable {P : Program} {ge : GEnv}
theorem RO_fin {G G' : Gh} {w w' : World} {h : List B} {v r : V} {c : Value} (rh : RH P ge G' h w') (hvc : R G' w' false v c) (grow : WGrow w w') (hsz : w.heap.size ≤ w'.heap.size) (hfzold : ∀ k, k < w.heap.size → G'.fz k = G.fz k)
    (hbase : ∀ (b : Nat) (x : B) (k : Nat), h[b]? = some x → G'.at b x = some k → w.heap.size ≤ k) (hconv : Conv h v r) : ∃ c1 G2, Ending.returned c = .returned c1 ∧ Kept G w G2 w' ∧ RO P G2 w' w.heap.size r c1 := by
  rcases hconv with ⟨n, hrr, hp⟩ | h1 | ⟨vs, rs, rfl, rfl, hl, hall, hdis⟩
  · let fz2 : Nat → Nat := fun k => if k < w.heap.size then G'.fz k else match w'.heap[k]? with
      | some (.cells arr _ _) => max (G'.fz k) arr.size
      | _ => G'.fz k
    have hle : ∀ k, G'.fz k ≤ fz2 k := fun k => by
      show G'.fz k ≤ if k < w.heap.size then G'.fz k else match w'.heap[k]? with | some (.cells arr _ _) => max (G'.fz k) arr.size | _ => G'.fz k
      split
      · exact Nat.le_refl _
      · split
        · exact Nat.le_max_left _ _
        · exact Nat.le_refl _
    have hfr := frz_spec rh (fz2 := fz2) hle (fun b x k arr T fr hx hk hh => by
      have hb := hbase b x k hx hk
      show arr.size ≤ if k < w.heap.size then G'.fz k else match w'.heap[k]? with | some (.cells arr _ _) => max (G'.fz k) arr.size | _ => G'.fz k
      rw [if_neg (by omega), hh]
      exact Nat.le_max_right _ _) n hvc
    refine ⟨c, G'.withFz fz2, rfl, ⟨grow, fun k hk => ?_, fun k hk => ?_⟩, ?_⟩
    · show (if k < w.heap.size then G'.fz k else _) = G.fz k
      rw [if_pos hk]; exact hfzold k hk
    · have hk2 : ¬ k < w.heap.size := by have := hsz; omega
      show (if k < w.heap.size then G'.fz k else match w'.heap[k]? with | some (.cells arr _ _) => max (G'.fz k) arr.size | _ => G'.fz k) = 0
      rw [if_neg hk2, Array.getElem?_eq_none hk]
      exact rh.fzlt k hk
    · rw [← hrr] at hfr
      refine RO_of_one ?_
      cases r <;> first | exact hfr | (simp [V.plain] at hp)
  · exact ⟨c, G', rfl, ⟨grow, hfzold, rh.fzlt⟩, RO_of_one (RO1_of_conv rh hbase hvc h1)⟩
  · refine ⟨c, G', rfl, ⟨grow, hfzold, rh.fzlt⟩, ?_⟩
    cases hvc with
    | @tup _ _ arr hs hr' =>
      refine ⟨arr, rfl, by rw [hs]; exact hl, fun i v hv => ?_, fun i j u v k hu hv ou ov b1 b2 => ?_⟩
      · have hi : i < vs.length := by rw [hl]; exact (List.getElem?_eq_some_iff.1 hv).1
        exact RO1_of_conv rh hbase (hr' i _ (List.getElem?_eq_getElem hi)) (hall i _ v (List.getElem?_eq_getElem hi) hv)
      · have hi : i < vs.length := by rw [hl]; exact (List.getElem?_eq_some_iff.1 hu).1
        have hj : j < vs.length := by rw [hl]; exact (List.getElem?_eq_some_iff.1 hv).1
        have key : ∀ (i : Nat) (hi : i < vs.length) (u : V), rs[i]? = some u → u.isOwn = true → blkOf (arr.getD i undef) = some k → ∃ b x, vs[i].refBlk = some b ∧ h[b]? = some x ∧ G'.at b x = some k := by
          intro i hi u hu ou hb1
          have hR := hr' i _ (List.getElem?_eq_getElem hi)
          rcases hall i _ u (List.getElem?_eq_getElem hi) hu with ⟨hf, rfl⟩ | ⟨b, g, T, xs, hvi, hbx, rfl⟩
          · generalize hvv : vs[i] = vv at *
            cases vv <;> simp [V.isOwn] at ou
            simp [V.isF] at hf
          · rw [hvi] at hR
            refine ⟨b, _, by rw [hvi]; rfl, hbx, ?_⟩
            generalize arr.getD i undef = cc at *
            generalize hnl : xs.length = nl at hR
            cases hR with
            | ref hb' hg' hm' hle' => simp only [blkOf, Option.some.injEq] at hb1; subst hb1; exact hm'
            | refn => simp [blkOf] at hb1
        obtain ⟨bi, xi, e1, e2, e3⟩ := key i hi u hu ou b1
        obtain ⟨bj, xj, f1, f2, f3⟩ := key j hj v hv ov b2
        have hbb := rh.inj bi bj xi xj k e2 f2 e3 f3
        subst hbb
        exact hdis i j _ _ bi (List.getElem?_eq_getElem hi) (List.getElem?_eq_getElem hj) e1 f1
/-- A contract on the empty heap whose results may be told as frozen values or rows of one's own. -/
theorem PCall_of_GCall {f : Nat} {args : List V} {r : V} {Q : V → List B → Prop} (hc : GCall P ge f args [] Q) (hq : ∀ v h', Q v h' → Conv h' v r) : PCall P ge f args r := by
  refine ⟨hc.1, fun G w cargs ha gee => ?_⟩
  let G0 : Gh := { fz := G.fz, n := 0, gm := fun _ => 0, m := fun _ _ => none, sz := fun _ => 0, cap := fun _ _ => 0 }
  have ha0 : ArgsR G0 w false args cargs := ⟨ha.1, fun i v hv => ((ha.2 i v hv).monoT (G' := G0) (fun k => Nat.le_refl (G.fz k)) (fun _ _ _ => rfl) rfl).weak rfl⟩
  have rh0 : RH P ge G0 [] w := ⟨rfl, fun b x hx => by simp at hx, fun b b' x x' k hx => by simp at hx, gee.fzlt, fun g cs hg => (gee.ge g cs hg).monoT (G' := G0) (fun k => Nat.le_refl (G.fz k)) (fun _ _ _ => rfl) rfl⟩
  refine (hc.2 G0 w cargs ha0 rh0).mono fun e w' ⟨c, G', v, h', he, hQ, rh, hv, ext⟩ => ?_
  obtain ⟨c1, G2, e1, k1, k2⟩ := RO_fin (G := G) rh hv ⟨ext.size, fun k hk => (ext.frame k hk fun b x hx => by simp at hx).1, ext.os, ext.out⟩ ext.size (fun k hk => (ext.frame k hk fun b x hx => by simp at hx).2) (fun b x k hx hk => by
    rcases ext.fresh b x k hx hk with h | ⟨b0, x0, h, _⟩
    · exact h
    · simp at h) (hq v h' hQ)
  exact ⟨c1, G2, by rw [he]; exact e1, k1, k2⟩
end
end Go.AM
end
section
set_option linter.unusedSimpArgs false
set_option linter.unusedVariables false
namespace Go.Proofs.YtgmlimipejcpgaaGreatDoor
open Go Go.AM Fx
theorem N2.setne {o b g : Nat} {h : List B} {fl : Bool} {ids : List (Nat × Nat × Nat)} {P : List (List Int)} (p : N2 o h b g fl ids P) {k : Nat} {cs : List V} {y : B} (hk : h[k]? = some (.var cs)) : N2 o (h.set k y) b g fl ids P :=
  ⟨by rw [gN (fun e => by have := p.at0; rw [← e, hk] at this; cases this)]; exact p.at0, p.flat, p.len, fun j x hx => by
    obtain ⟨ns, h1, h2, h3⟩ := p.rows j x hx
    exact ⟨ns, h1, h2, by rw [gN (fun e => by rw [← e, hk] at h3; cases h3)]; exact h3⟩, p.low, p.nodup⟩
theorem N3.setne {o b g : Nat} {h : List B} {fl : Bool} {T : List (Nat × Nat × Bool × List (Nat × Nat × Nat))} {P : List (List (List Int))} (p : N3 o h b g fl T P) {k : Nat} {cs : List V} {y : B} (hk : h[k]? = some (.var cs)) : N3 o (h.set k y) b g fl T P :=
  ⟨by rw [gN (fun e => by have := p.at0; rw [← e, hk] at this; cases this)]; exact p.at0, p.flat, p.len, fun i x hx => by
    obtain ⟨Q, h1, h2⟩ := p.rows i x hx
    exact ⟨Q, h1, h2.setne hk⟩, p.low, p.nodup⟩
theorem N3.ids_lt {o b g : Nat} {h : List B} {fl : Bool} {T : List (Nat × Nat × Bool × List (Nat × Nat × Nat))} {P : List (List (List Int))} (p : N3 o h b g fl T P) : ∀ y ∈ T, ∀ x ∈ y.2.2.2, x.1 < h.length := fun y hy x hx => by
  obtain ⟨i, hi⟩ := List.getElem?_of_mem hy
  obtain ⟨Q, _, h2⟩ := p.rows i y hi
  exact h2.ids_lt x hx
def halfV (P : List (List (List Int))) : V := .vec (rows3V P) P.length
abbrev Rows3 := List (Nat × Nat × Bool × List (Nat × Nat × Nat))
def idsR (T : Rows3) : List Nat := (T.flatMap (·.2.2.2)).map (·.1)
theorem getke {l : List B} {k : Nat} {y : B} (h : l[k]? = some y) (hx : k < l.length) : l[k]'hx = y := by
  rw [List.getElem?_eq_getElem hx] at h; exact Option.some.inj h
@[simp] theorem rows3V_len {P : List (List (List Int))} : (rows3V P).length = P.length := by simp [rows3V]
@[simp] theorem rows2V_len {P : List (List Int)} : (rows2V P).length = P.length := by simp [rows2V]
theorem rows3V_get {P : List (List (List Int))} {i : Nat} {Q : List (List Int)} (h : P[i]? = some Q) : (rows3V P)[i]? = some [V.vec (rows2V Q) Q.length] := by simp [rows3V, h]
theorem rows2V_get {P : List (List Int)} {i : Nat} {r : List Int} (h : P[i]? = some r) : (rows2V P)[i]? = some [V.vec (ivs r) r.length] := by simp [rows2V, h]
def eqF {α β : Type} (p : α → β → Bool) : List α → List β → Bool
  | [], [] => true
  | x :: r, y :: s => p x y && eqF p r s
  | _, _ => false
theorem eqF_ne {α β : Type} {p : α → β → Bool} : ∀ {l : List α} {m : List β}, ¬ l.length = m.length → eqF p l m = false
  | [], [], h => absurd rfl h
  | [], _ :: _, _ => rfl
  | _ :: _, [], _ => rfl
  | x :: r, y :: s, h => by rw [eqF, eqF_ne (fun e => h (by simp [e])), Bool.and_false]
/-- A plan as it is read. -/
def planOk (P : List (List (List Int))) : Prop := P.length ≤ 1048576 ∧ ∀ Q ∈ P, Q.length ≤ 1048576 ∧ ∀ r ∈ Q, r.length ≤ 1048576
theorem c_netRight (n : NetD) (hn : n.ok) : PC 120 [.agg n.cells] (.bool (decide (wholeE n = 0))) := by
  have hc := c_Whole n hn
  generalize wholeE n = e at *
  simp only [NetD.cells, vl] at hc
  refine pB Tryz.func120 rfl (by decide) Tryz.ntmps120 (by simp) Tryz.results120 ?_
  repeat' (first
 |refine aK fun K hK=>?_|refine Step.by1 ?_|refine sE (by decide) ?_|refine cz rfl ?_|refine Fork.by2 (fun h=>?_) fun h=>?_
 |((first|refine aR ?_|refine aC (f:=58) rfl rfl (hc) rfl rfl rfl ?_);simp [NetD.cells, vl])
 |(refine Split.by2 (fun h=>?_) (fun h=>?_)<;>(simp [h, NetD.cells, vl]))
 |(apply hK;clear hK K)|refine AWh ‹_› ?_)
  exact r1q (cE rfl rfl)
end Go.Proofs.YtgmlimipejcpgaaGreatDoor
end
