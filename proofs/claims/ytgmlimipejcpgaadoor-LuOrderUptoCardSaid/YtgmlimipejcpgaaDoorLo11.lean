/-
  YtgmlimipejcpgaaDoorLo11: steps of the proof of a law of the program: what these texts prove holds under the hypotheses that their theorems name, and no others.
-/
import Derived.Test.YtgmlimipejcpgaaDoorLo10
section
set_option linter.unusedSimpArgs false
set_option linter.unusedVariables false
namespace Go.Proofs.YtgmlimipejcpgaaDoor
open Go Go.AM Fx
def alikeE (A1 A2 C1 C2 : List (List (List Int))) : Bool := alikeP A1 C1 && alikeP A2 C2
def widE (A1 A2 C1 C2 : List (List (List Int))) : Bool := alikeP A1 C1 && alikeP A2 C2 && widerP A1 C1 && widerP A2 C2
theorem c_Wider (A1 A2 C1 C2 : List (List (List Int))) (h1 : planOk A1) (h2 : planOk A2) : PC 20 [.agg [halfV A1, halfV A2], .agg [halfV C1, halfV C2]] (.bool (widE A1 A2 C1 C2)) := by
  have c1 := c_alikeP A1 C1 h1
  have c2 := c_alikeP A2 C2 h2
  have d1 := fun hs => c_widerP A1 C1 h1 hs
  have d2 := fun hs => c_widerP A2 C2 h2 hs
  unfold widE
  have k1 := alikeP_iff (A := A1) (C := C1)
  have k2 := alikeP_iff (A := A2) (C := C2)
  generalize alikeP A1 C1 = b1 at *
  generalize alikeP A2 C2 = b2 at *
  cases b1
  · simp only [halfV] at c1 ⊢
    refine pB Tryd.func20 rfl (by decide) Tryd.ntmps20 (by simp) Tryd.results20 ?_
    repeat' (first
 |refine aK fun K hK=>?_|refine Step.by1 ?_|refine sE (by decide) ?_|refine cz rfl ?_|refine Fork.by2 (fun h=>?_) fun h=>?_
 |((first|refine aR ?_|refine aC (f:=54) rfl rfl (c1) rfl rfl rfl ?_);simp)
 |(refine Split.by2 (fun h=>?_) (fun h=>?_)<;>(simp [h]))
 |(apply hK;clear hK K)|refine AWh ‹_› ?_)
    exact r1q (cE rfl rfl)
  · cases b2
    · simp only [halfV] at c1 c2 ⊢
      refine pB Tryd.func20 rfl (by decide) Tryd.ntmps20 (by simp) Tryd.results20 ?_
      repeat' (first
 |refine aK fun K hK=>?_|refine Step.by1 ?_|refine sE (by decide) ?_|refine cz rfl ?_|refine Fork.by2 (fun h=>?_) fun h=>?_
 |((first|refine aR ?_|refine aC (f:=54) rfl rfl (c1) rfl rfl rfl ?_|refine aC (f:=54) rfl rfl (c2) rfl rfl rfl ?_);simp)
 |(refine Split.by2 (fun h=>?_) (fun h=>?_)<;>(simp [h]))
 |(apply hK;clear hK K)|refine AWh ‹_› ?_)
      exact r1q (cE rfl rfl)
    · have e1 := d1 (k1.1 rfl)
      have e2 := d2 (k2.1 rfl)
      generalize widerP A1 C1 = b3 at *
      generalize widerP A2 C2 = b4 at *
      simp only [halfV] at c1 c2 e1 e2 ⊢
      refine pB Tryd.func20 rfl (by decide) Tryd.ntmps20 (by simp) Tryd.results20 ?_
      cases b3
      · repeat' (first
 |refine aK fun K hK=>?_|refine Step.by1 ?_|refine sE (by decide) ?_|refine cz rfl ?_|refine Fork.by2 (fun h=>?_) fun h=>?_
 |((first|refine aR ?_|refine aC (f:=54) rfl rfl (c1) rfl rfl rfl ?_|refine aC (f:=54) rfl rfl (c2) rfl rfl rfl ?_|refine aC (f:=60) rfl rfl (e1) rfl rfl rfl ?_);simp)
 |(refine Split.by2 (fun h=>?_) (fun h=>?_)<;>(simp [h]))
 |(apply hK;clear hK K)|refine AWh ‹_› ?_)
        exact r1q (cE rfl rfl)
      · repeat' (first
 |refine aK fun K hK=>?_|refine Step.by1 ?_|refine sE (by decide) ?_|refine cz rfl ?_|refine Fork.by2 (fun h=>?_) fun h=>?_
 |((first|refine aR ?_|refine aC (f:=54) rfl rfl (c1) rfl rfl rfl ?_|refine aC (f:=54) rfl rfl (c2) rfl rfl rfl ?_|refine aC (f:=60) rfl rfl (e1) rfl rfl rfl ?_|refine aC (f:=60) rfl rfl (e2) rfl rfl rfl ?_);simp)
 |(refine Split.by2 (fun h=>?_) (fun h=>?_)<;>(simp [h]))
 |(apply hK;clear hK K)|refine AWh ‹_› ?_)
        exact r1q (cE rfl rfl)
structure PlanD where
  lo : List (List (List Int))
  up : List (List (List Int))
def PlanD.ok (p : PlanD) : Prop := planOk p.lo ∧ planOk p.up
def PlanD.cells (p : PlanD) : List V := [halfV p.lo, halfV p.up]
@[simp] theorem PlanD.cells_len (x : PlanD) : x.cells.length = 2 := rfl
def okPlans (l : List PlanD) : Prop := l.length ≤ 1048576 ∧ ∀ p ∈ l, p.ok
theorem shp_mx {A C D : List (List (List Int))} (h1 : Shp A C) (h2 : Shp A D) : Shp (mxP A C) D := by
  have hl := h1.len
  refine ⟨by simp [mxP]; have := h2.len; omega, fun i Q R hQ hR => ?_⟩
  have hi : i < D.length := (List.getElem?_eq_some_iff.1 hR).1
  have hA? := List.getElem?_eq_getElem (l := A) (i := i) (by have := h2.len; omega)
  have hC? := List.getElem?_eq_getElem (l := C) (i := i) (by have := h2.len; omega)
  have hz := zip_at (f := mxQ) hA? hC?
  unfold mxP at hQ
  rw [hz] at hQ; cases hQ
  obtain ⟨a1, a2⟩ := h1.rows i _ _ hA? hC?
  obtain ⟨b1, b2⟩ := h2.rows i _ _ hA? hR
  generalize A[i]'(by have := h2.len; omega) = QA at *
  generalize C[i]'(by have := h2.len; omega) = QC at *
  refine ⟨by simp [mxQ]; omega, fun k x y hx hy => ?_⟩
  have hk : k < R.length := (List.getElem?_eq_some_iff.1 hy).1
  have ha? := List.getElem?_eq_getElem (l := QA) (i := k) (by omega)
  have hc? := List.getElem?_eq_getElem (l := QC) (i := k) (by omega)
  have hz2 := zip_at (f := mxR) ha? hc?
  unfold mxQ at hx
  rw [hz2] at hx; cases hx
  have e1 := a2 k _ _ ha? hc?
  have e2 := b2 k _ _ ha? hy
  simp [mxR]; omega
theorem shp_self {A : List (List (List Int))} : Shp A A := ⟨rfl, fun i Q R hQ hR => by rw [hQ] at hR; cases hR; exact ⟨rfl, fun k x y hx hy => by rw [hx] at hy; cases hy; rfl⟩⟩
theorem ok_mx {A C : List (List (List Int))} (hA : planOk A) : planOk (mxP A C) := by
  refine ⟨by simp [mxP]; have := hA.1; omega, fun Q hQ => ?_⟩
  obtain ⟨i, hi⟩ := List.getElem?_of_mem hQ
  unfold mxP at hi
  rw [List.getElem?_zipWith] at hi
  cases ha : A[i]? with
  | none => rw [ha] at hi; simp at hi
  | some QA =>
    cases hc : C[i]? with
    | none => rw [ha, hc] at hi; simp at hi
    | some QC =>
      rw [ha, hc] at hi
      simp at hi; subst hi
      obtain ⟨h1, h2⟩ := hA.2 QA (List.mem_of_getElem? ha)
      refine ⟨by simp [mxQ]; omega, fun r hr => ?_⟩
      obtain ⟨k, hk⟩ := List.getElem?_of_mem hr
      unfold mxQ at hk
      rw [List.getElem?_zipWith] at hk
      cases hx : QA[k]? with
      | none => rw [hx] at hk; simp at hk
      | some x =>
        cases hy : QC[k]? with
        | none => rw [hx, hy] at hk; simp at hk
        | some y =>
          rw [hx, hy] at hk
          simp at hk; subst hk
          have := h2 x (List.mem_of_getElem? hx)
          simp [mxR]; omega
/-- One half of plans that are joined. -/
def joinH (A : List (List (List Int))) (l : List (List (List (List Int)))) : List (List (List Int)) := l.foldl mxP (mxP A A)
theorem joinH_snoc {A C : List (List (List Int))} {l : List (List (List (List Int)))} : joinH A (l ++ [C]) = mxP (joinH A l) C := by simp [joinH]
theorem joinH_shp {A D : List (List (List Int))} (hD : Shp A D) : ∀ {l : List (List (List (List Int)))}, (∀ C ∈ l, Shp A C) → Shp (joinH A l) D := by
  have key : ∀ (l : List (List (List (List Int)))) (X : List (List (List Int))), (∀ E, Shp A E → Shp X E) → (∀ C ∈ l, Shp A C) → ∀ E, Shp A E → Shp (l.foldl mxP X) E := by
    intro l
    induction l with
    | nil => intro X hX _ E hE; exact hX E hE
    | cons C l ih =>
      intro X hX hl E hE
      exact ih (mxP X C) (fun F hF => shp_mx (hX C (hl C (by simp))) (hX F hF)) (fun F hF => hl F (by simp [hF])) E hE
  exact fun {l} hl => key l _ (fun E hE => shp_mx shp_self hE) hl D hD
theorem joinH_ok {A : List (List (List Int))} (hA : planOk A) {l : List (List (List (List Int)))} : planOk (joinH A l) := by
  have key : ∀ (l : List (List (List (List Int)))) (X : List (List (List Int))), planOk X → planOk (l.foldl mxP X) := by
    intro l
    induction l with
    | nil => intro X hX; exact hX
    | cons C l ih => intro X hX; exact ih _ (ok_mx hX)
  exact key l _ (ok_mx hA)
def unlike (a b : PlanD) : Bool := !alikeE a.lo a.up b.lo b.up
theorem unlike_no {a b : PlanD} (h : unlike a b = false) : Shp a.lo b.lo ∧ Shp a.up b.up := by
  unfold unlike alikeE at h
  simp only [Bool.not_eq_false', Bool.and_eq_true] at h
  exact ⟨alikeP_iff.1 h.1, alikeP_iff.1 h.2⟩
theorem take_map_snoc {α β : Type} {f : α → β} {l : List α} {i : Nat} {x : α} (h : l[i]? = some x) : (l.take (i + 1)).map f = (l.take i).map f ++ [f x] := by rw [List.take_add_one, h, List.map_append]; rfl
def hHalf (P : List (List (List Int))) : List (List V) := P.map fun Q => [hQ Q]
def hP (P : List (List (List Int))) : V := .vec (hHalf P) P.length
def PlanD.hcells (p : PlanD) : List V := [hP p.lo, hP p.up]
end Go.Proofs.YtgmlimipejcpgaaDoor
end
section
set_option linter.unusedVariables false
set_option linter.unusedSimpArgs false
namespace Go.Proofs.YtgmlimipejcpgaaDoor
open Go Go.AM Fx
theorem rv_inj {ids ids' : List (Nat × Nat × Nat)} (h : (ids.map fun x => [rv x]) = ids'.map fun x => [rv x]) : ids = ids' := by
  induction ids generalizing ids' with
  | nil => cases ids' with
    | nil => rfl
    | cons _ _ => simp at h
  | cons x l ih => cases ids' with
    | nil => simp at h
    | cons y l' =>
      simp only [List.map_cons, List.cons.injEq, rv, V.ref.injEq, true_and, and_true] at h
      obtain ⟨⟨h1, h2, h3⟩, h4⟩ := h
      rw [ih h4]
      congr 1
      exact Prod.ext h1 (Prod.ext h2 h3)
section
variable {st : St} {Q : Exit → St → Prop} {c : Code}
/-- While rows are frozen one by one. -/
structure FZ2 (h0 : List B) (b g : Nat) (ids : List (Nat × Nat × Nat)) (P : List (List Int)) (i : Nat) (hc : List B) : Prop where
  hl : HL hc
  len : hc.length = h0.length
  row : ∃ rows : List (List V), hc[b]? = some (.row 30 g 0 false rows) ∧ rows.length = ids.length ∧ ∀ (j : Nat) (x : Nat × Nat × Nat) (r : List Int), ids[j]? = some x → P[j]? = some r → rows[j]? = some [if j < i then V.vec (ivs r) r.length else rv x]
  idk : ∀ (j : Nat) (x : Nat × Nat × Nat), i ≤ j → ids[j]? = some x → hc[x.1]? = h0[x.1]?
  rest : ∀ k, k ≠ b → (∀ x ∈ ids, x.1 ≠ k) → hc[k]? = h0[k]?
theorem AW_freezeN2 (hl : HL st.h) {o b g : Nat} {fl : Bool} {ids : List (Nat × Nat × Nat)} {P : List (List Int)} (q : N2 o st.h b g fl ids P)
    (h : ∀ h', HL h' → h'.length = st.h.length → h'[b]? = some (.row 30 g 0 true (rows2V P)) → (∀ k, k ≠ b → (∀ x ∈ ids, x.1 ≠ k) → h'[k]? = st.h[k]?) → AW Tryd.prog GV c Q { st with h := h' }) : AW Tryd.prog GV c Q st := by
  cases fl with
  | true =>
    have e := q.flat rfl
    subst e
    have e2 : P = [] := List.eq_nil_of_length_eq_zero (by simpa using q.len)
    subst e2
    exact h st.h hl rfl (by simpa [rows2V] using q.at0) fun _ _ _ => rfl
  | false =>
    have key : ∀ (m i : Nat) (hc : List B), i + m = ids.length → FZ2 st.h b g ids P i hc → AW Tryd.prog GV c Q { st with h := hc } := by
      intro m
      induction m with
      | zero =>
        intro i hc hi p
        obtain ⟨rows, r1, r2, r3⟩ := p.row
        have er : rows = rows2V P := by
          apply List.ext_getElem?
          intro j
          rcases Nat.lt_or_ge j ids.length with hj | hj
          · have hjp : j < P.length := by rw [q.len]; exact hj
            rw [r3 j _ _ (List.getElem?_eq_getElem hj) (List.getElem?_eq_getElem hjp), if_pos (by omega)]
            simp [rows2V, hjp]
          · rw [List.getElem?_eq_none (by omega), List.getElem?_eq_none (by rw [rows2V_len, q.len]; omega)]
        subst er
        refine AW_flat (st := { st with h := hc }) b r1 (fun x hx v hv => ?_) ?_
        · obtain ⟨r, _, rfl⟩ := List.mem_map.1 hx
          simp at hv; subst hv; simp
        · refine h _ (p.hl.set rowF_lt) (by simp [p.len]) (get_set_eq r1) fun k h1 h2 => ?_
          rw [gN (fun e => h1 e.symm)]
          exact p.rest k h1 h2
      | succ m ih =>
        intro i hc hi p
        obtain ⟨rows, r1, r2, r3⟩ := p.row
        have hil : i < ids.length := by omega
        obtain ⟨x, hx⟩ : ∃ x, ids[i]? = some x := ⟨_, List.getElem?_eq_getElem hil⟩
        obtain ⟨r, k1, k2, k3⟩ := q.rows i x hx
        have hrow := p.idk i x (Nat.le_refl _) hx
        rw [k3] at hrow
        have hri := r3 i x r hx k1
        rw [if_neg (by omega)] at hri
        have hne : b ≠ x.1 := fun e => by have := q.at0; rw [e, k3] at this; simp at this
        refine AW_viewrow (st := { st with h := hc }) b i 0 r1 hri rfl hrow (by rw [ivs_len]; omega) ?_
        refine ih (i + 1) _ (by omega) ⟨?_, by simp [p.len], ⟨rows.set i [V.vec (ivs r) r.length], ?_, by simp [r2], fun j y s hy hs => ?_⟩, fun j y hj hy => ?_, fun k h1 h2 => ?_⟩
        · refine (p.hl.set rowF_lt).set (rowR_lt fun z hz => ?_)
          rcases List.mem_or_eq_of_mem_set hz with hz | hz
          · rw [List.length_set]; exact ((p.hl.get r1).resolve_left (by simp)) z hz
          · subst hz; simp [rv]
        · rw [get_set_eq (z := .row 30 g 0 false rows) (by rw [gN (fun e => hne e.symm)]; exact r1)]
          simp [rv, k2]
        · rw [List.getElem?_set]
          by_cases e : i = j
          · subst e
            rw [hx] at hy; cases hy
            rw [k1] at hs; cases hs
            rw [if_pos rfl, if_pos (by omega), if_pos (by omega)]
          · rw [if_neg e, r3 j y s hy hs]
            by_cases e2 : j < i
            · rw [if_pos e2, if_pos (by omega)]
            · rw [if_neg e2, if_neg (by omega)]
        · have hxy : x.1 ≠ y.1 := fun e => by
            have h1 : (ids.map (·.1))[i]? = (ids.map (·.1))[j]? := by rw [List.getElem?_map, List.getElem?_map, hx, hy]; simp [e]
            have := (List.getElem?_inj (by simpa using hil) q.nodup).1 h1
            omega
          have hby : b ≠ y.1 := fun e => by
            obtain ⟨s, _, _, t3⟩ := q.rows j y hy
            have := q.at0; rw [e, t3] at this; simp at this
          rw [gN hby, gN hxy]
          exact p.idk j y (by omega) hy
        · rw [gN (fun e => h1 e.symm), gN (h2 x (List.mem_of_getElem? hx))]
          exact p.rest k h1 h2
    refine key ids.length 0 st.h (by omega) ⟨hl, rfl, ⟨_, q.at0, by simp, fun j x r hx hr => ?_⟩, fun _ _ _ _ => rfl, fun _ _ _ => rfl⟩
    rw [List.getElem?_map, hx, if_neg (by omega)]; rfl
structure FZ3 (h0 : List B) (o b g : Nat) (T : Rows3) (P : List (List (List Int))) (i : Nat) (hc : List B) : Prop where
  hl : HL hc
  len : hc.length = h0.length
  row : ∃ rows : List (List V), hc[b]? = some (.row 57 g 0 false rows) ∧ rows.length = T.length ∧ ∀ (j : Nat) (y : Nat × Nat × Bool × List (Nat × Nat × Nat)) (R : List (List Int)), T[j]? = some y → P[j]? = some R → rows[j]? = some [if j < i then V.vec (rows2V R) R.length else .ref y.1 y.2.1 0 y.2.2.2.length]
  ids : ∀ (j : Nat) (y : Nat × Nat × Bool × List (Nat × Nat × Nat)) (R : List (List Int)), i ≤ j → T[j]? = some y → P[j]? = some R → ∃ fl, N2 o hc y.1 y.2.1 fl y.2.2.2 R
  rest : ∀ k, k ≠ b → (∀ y ∈ T, y.1 ≠ k) → (∀ x ∈ ids3 T, x.1 ≠ k) → hc[k]? = h0[k]?
theorem AW_freezeN3 (hl : HL st.h) {o b g : Nat} {fl : Bool} {T : Rows3} {P : List (List (List Int))} (q : N3 o st.h b g fl T P)
    (h : ∀ h', HL h' → h'.length = st.h.length → h'[b]? = some (.row 57 g 0 true (rows3V P)) → (∀ k, k ≠ b → (∀ y ∈ T, y.1 ≠ k) → (∀ x ∈ ids3 T, x.1 ≠ k) → h'[k]? = st.h[k]?) → AW Tryd.prog GV c Q { st with h := h' }) : AW Tryd.prog GV c Q st := by
  cases fl with
  | true =>
    have e := q.flat rfl
    subst e
    have e2 : P = [] := List.eq_nil_of_length_eq_zero (by simpa using q.len)
    subst e2
    exact h st.h hl rfl (by simpa [rows3V] using q.at0) fun _ _ _ _ => rfl
  | false =>
    have key : ∀ (m i : Nat) (hc : List B), i + m = T.length → FZ3 st.h o b g T P i hc → AW Tryd.prog GV c Q { st with h := hc } := by
      intro m
      induction m with
      | zero =>
        intro i hc hi p
        obtain ⟨rows, r1, r2, r3⟩ := p.row
        have er : rows = rows3V P := by
          apply List.ext_getElem?
          intro j
          rcases Nat.lt_or_ge j T.length with hj | hj
          · have hjp : j < P.length := by rw [q.len]; exact hj
            rw [r3 j _ _ (List.getElem?_eq_getElem hj) (List.getElem?_eq_getElem hjp), if_pos (by omega)]
            simp [rows3V, hjp]
          · rw [List.getElem?_eq_none (by omega), List.getElem?_eq_none (by rw [rows3V_len, q.len]; omega)]
        subst er
        refine AW_flat (st := { st with h := hc }) b r1 (fun x hx v hv => ?_) ?_
        · obtain ⟨r, _, rfl⟩ := List.mem_map.1 hx
          simp at hv; subst hv; simp
        · refine h _ (p.hl.set rowF_lt) (by simp [p.len]) (get_set_eq r1) fun k h1 h2 h3 => ?_
          rw [gN (fun e => h1 e.symm)]
          exact p.rest k h1 h2 h3
      | succ m ih =>
        intro i hc hi p
        obtain ⟨rows, r1, r2, r3⟩ := p.row
        have hil : i < T.length := by omega
        have hip : i < P.length := by rw [q.len]; exact hil
        obtain ⟨y, hy⟩ : ∃ y, T[i]? = some y := ⟨_, List.getElem?_eq_getElem hil⟩
        obtain ⟨R, hR⟩ : ∃ R, P[i]? = some R := ⟨_, List.getElem?_eq_getElem hip⟩
        obtain ⟨fl', hN⟩ := p.ids i y R (Nat.le_refl _) hy hR
        have hbn : b ≠ y.1 := fun e => by have := hN.at0; rw [← e, r1] at this; simp at this
        have hbx : ∀ x ∈ y.2.2.2, x.1 ≠ b := fun x hx e => by
          obtain ⟨j, hj⟩ := List.getElem?_of_mem hx
          obtain ⟨s, _, _, t3⟩ := hN.rows j x hj
          rw [e, r1] at t3; simp at t3
        refine AW_freezeN2 (st := { st with h := hc }) p.hl hN fun hd hdl hdn hd1 hd2 => ?_
        have hb' : hd[b]? = some (.row 57 g 0 false rows) := by rw [hd2 b hbn hbx]; exact r1
        have hri := r3 i y R hy hR
        rw [if_neg (by omega)] at hri
        have hRl : R.length = y.2.2.2.length := hN.len
        refine AW_viewrow (st := { st with h := hd }) b i 0 hb' hri rfl hd1 (by rw [rows2V_len]; omega) ?_
        have mem3 : ∀ {j : Nat} {z : Nat × Nat × Bool × List (Nat × Nat × Nat)}, T[j]? = some z → ∀ x ∈ z.2.2.2, x ∈ ids3 T := fun hz x hx => List.mem_flatMap.2 ⟨_, List.mem_of_getElem? hz, hx⟩
        refine ih (i + 1) _ (by omega) ⟨?_, by rw [List.length_set, List.length_set]; exact hdn.trans p.len, ⟨rows.set i [V.vec (rows2V R) R.length], ?_, by simp [r2], fun j z S hz hS => ?_⟩, fun j z S hj hz hS => ?_, fun k h1 h2 h3 => ?_⟩
        · refine (hdl.set rowF_lt).set (rowR_lt fun z hz => ?_)
          rcases List.mem_or_eq_of_mem_set hz with hz | hz
          · rw [List.length_set]; exact ((hdl.get hb').resolve_left (by simp)) z hz
          · subst hz; simp
        · rw [get_set_eq (z := .row 57 g 0 false rows) (by rw [gN (fun e => hbn e.symm)]; exact hb')]
          simp [hRl]
        · rw [List.getElem?_set]
          by_cases e : i = j
          · subst e
            rw [hy] at hz; cases hz
            rw [hR] at hS; cases hS
            rw [if_pos rfl, if_pos (by omega), if_pos (by omega)]
          · rw [if_neg e, r3 j z S hz hS]
            by_cases e2 : j < i
            · rw [if_pos e2, if_pos (by omega)]
            · rw [if_neg e2, if_neg (by omega)]
        · obtain ⟨fl2, hM⟩ := p.ids j z S (by omega) hz hS
          have hbz : b ≠ z.1 := fun e => by have := hM.at0; rw [← e, r1] at this; simp at this
          -- no row of ints stands in both
          have hdis : ∀ x ∈ y.2.2.2, ∀ u ∈ z.2.2.2, x.1 ≠ u.1 := fun x hx u hu e => by
            have hnd := q.nodup
            have hs : ∀ (A C : Rows3), T = A ++ C → (∀ x ∈ ids3 A, ∀ u ∈ ids3 C, x.1 ≠ u.1) := fun A C hT x hx u hu e => by
              rw [hT, List.flatMap_append, List.map_append] at hnd
              exact (List.nodup_append.1 hnd).2.2 _ (List.mem_map.2 ⟨x, hx, rfl⟩) _ (List.mem_map.2 ⟨u, hu, rfl⟩) e
            refine hs (T.take (i + 1)) (T.drop (i + 1)) (List.take_append_drop _ _).symm x (List.mem_flatMap.2 ⟨y, List.mem_of_getElem? (i := i) (by rw [List.getElem?_take_of_lt (by omega)]; exact hy), hx⟩) u (List.mem_flatMap.2 ⟨z, List.mem_of_getElem? (i := j - (i + 1)) (by rw [List.getElem?_drop]; rw [show i + 1 + (j - (i + 1)) = j by omega]; exact hz), hu⟩) e
          have hzx : ∀ u ∈ z.2.2.2, u.1 ≠ y.1 ∧ u.1 ≠ b := fun u hu => by
            obtain ⟨k, hk⟩ := List.getElem?_of_mem hu
            obtain ⟨s, _, _, t3⟩ := hM.rows k u hk
            refine ⟨fun e => ?_, fun e => ?_⟩
            · have := hN.at0; rw [← e, t3] at this; simp at this
            · rw [e, r1] at t3; simp at t3
          have hids : ∀ u ∈ z.2.2.2, ((hd.set y.1 (.row 30 y.2.1 (rows2V R).length true (rows2V R))).set b (.row 57 g 0 false (rows.set i ([V.ref y.1 y.2.1 0 y.2.2.2.length].set 0 (.vec ((rows2V R).drop 0) y.2.2.2.length)))))[u.1]? = hc[u.1]? := fun u hu => by
            rw [gN (fun e => (hzx u hu).2 e.symm), gN (fun e => (hzx u hu).1 e.symm)]
            exact hd2 _ (hzx u hu).1 fun x hx e => hdis x hx u hu e
          by_cases hyz : y.1 = z.1
          · -- the same row: both are empty
            have e1 := hN.at0
            have e2 := hM.at0
            rw [hyz, e2] at e1
            simp only [Option.some.injEq, B.row.injEq, true_and] at e1
            have eid : z.2.2.2 = y.2.2.2 := rv_inj e1.2.2
            have ee : z.2.2.2 = [] := by
              cases hzz : z.2.2.2 with
              | nil => rfl
              | cons u us => exact absurd rfl (hdis u (by rw [← eid, hzz]; simp) u (by rw [hzz]; simp))
            have hSe : S = [] := List.eq_nil_of_length_eq_zero (by rw [hM.len, ee]; rfl)
            have hRe : R = [] := List.eq_nil_of_length_eq_zero (by rw [hRl, ← eid, ee]; rfl)
            refine ⟨true, ⟨?_, fun _ => ee, hM.len, fun k x hx => by rw [ee] at hx; simp at hx, hM.low, hM.nodup⟩⟩
            rw [gN hbz, ← hyz, get_set_eq hd1, hRe, ee, e1.1]
            simp [rows2V]
          · refine ⟨fl2, ⟨?_, hM.flat, hM.len, fun k x hx => ?_, hM.low, hM.nodup⟩⟩
            · rw [gN hbz, gN hyz, hd2 z.1 (fun e => hyz e.symm) fun x hx e => ?_]
              · exact hM.at0
              · obtain ⟨k, hk⟩ := List.getElem?_of_mem hx
                obtain ⟨s, _, _, t3⟩ := hN.rows k x hk
                have := hM.at0; rw [← e, t3] at this; simp at this
            · obtain ⟨s, t1, t2, t3⟩ := hM.rows k x hx
              exact ⟨s, t1, t2, by rw [hids x (List.mem_of_getElem? hx)]; exact t3⟩
        · rw [gN (fun e => h1 e.symm), gN (h2 y (List.mem_of_getElem? hy)), hd2 k (fun e => h2 y (List.mem_of_getElem? hy) e.symm) fun x hx => h3 x (mem3 hy x hx)]
          exact p.rest k h1 h2 h3
    refine key T.length 0 st.h (by omega) ⟨hl, rfl, ⟨_, q.at0, by simp, fun j y R hy hR => ?_⟩, fun j y R _ hy hR => ?_, fun _ _ _ _ => rfl⟩
    · rw [List.getElem?_map, hy, if_neg (by omega)]; rfl
    · obtain ⟨S, h1, h2⟩ := q.rows j y hy
      rw [hR] at h1; cases h1
      exact ⟨_, h2⟩
/-- A half in a variable's cell. -/
theorem AW_freezeCell (hl : HL st.h) {b0 j : Nat} {cs : List V} (h0 : st.h[b0]? = some (.var cs)) {o b g : Nat} {fl : Bool} {T : Rows3} {P : List (List (List Int))} (hj : cs[j]? = some (.ref b g 0 T.length)) (q : N3 o st.h b g fl T P)
    (h : ∀ h', HL h' → h'.length = st.h.length → h'[b0]? = some (.var (cs.set j (halfV P))) → (∀ k, k ≠ b0 → k ≠ b → (∀ y ∈ T, y.1 ≠ k) → (∀ x ∈ ids3 T, x.1 ≠ k) → h'[k]? = st.h[k]?) → AW Tryd.prog GV c Q { st with h := h' }) : AW Tryd.prog GV c Q st := by
  have hb0 : b ≠ b0 := fun e => by have := q.at0; rw [e, h0] at this; cases this
  have hy0 : ∀ y ∈ T, y.1 ≠ b0 := fun y hy e => by
    obtain ⟨i, hi⟩ := List.getElem?_of_mem hy
    obtain ⟨R, _, hN⟩ := q.rows i y hi
    have := hN.at0; rw [e, h0] at this; cases this
  have hx0 : ∀ x ∈ ids3 T, x.1 ≠ b0 := fun x hx e => by
    obtain ⟨ns, R, _, _, hr, _⟩ := q.mem_row hx
    rw [e, h0] at hr; cases hr
  refine AW_freezeN3 hl q fun hd hdl hdn hd1 hd2 => ?_
  have hv : hd[b0]? = some (.var cs) := by rw [hd2 b0 (fun e => hb0 e.symm) hy0 hx0]; exact h0
  refine AW_viewcell (st := { st with h := hd }) b0 j hv hj hd1 (by rw [rows3V_len, ← q.len]; omega) ?_
  refine h _ ?_ (by rw [List.length_set, List.length_set]; exact hdn) ?_ fun k h1 h2 h3 h4 => ?_
  · refine (hdl.set rowF_lt).set ?_
    have hvl := hdl.get hv
    show V.lts _ _ = true
    rw [List.length_set]
    have hvl : V.lts hd.length cs = true := hvl
    exact lts_set hvl rfl
  · rw [get_set_eq (z := .var cs) (by rw [gN hb0]; exact hv)]
    simp [halfV, q.len]
  · rw [gN (fun e => h1 e.symm), gN (fun e => h2 e.symm)]
    exact hd2 k h2 h3 h4
end
end Go.Proofs.YtgmlimipejcpgaaDoor
end
