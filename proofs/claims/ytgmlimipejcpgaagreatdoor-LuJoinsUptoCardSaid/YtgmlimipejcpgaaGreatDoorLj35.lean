/-
  YtgmlimipejcpgaaGreatDoorLj35: steps of the proof of a law of the program: what these texts prove holds under the hypotheses that their theorems name, and no others.
-/
import Derived.Test.YtgmlimipejcpgaaGreatDoorLj33
import Derived.Test.YtgmlimipejcpgaaGreatDoorLj34
import Derived.Test.YtgmlimipejcpgaaGreatDoorLj28
section
set_option linter.unusedVariables false
set_option linter.unusedSimpArgs false
namespace Go.Proofs.YtgmlimipejcpgaaGreatDoor
open Go Go.AM Fx
theorem rv_inj {ids ids' : List (Nat × Nat × Nat)} (h : (ids.map fun x => [rv x]) = ids'.map fun x => [rv x]) : ids = ids' := by
  induction ids generalizing ids' with
  | nil => cases ids' with
    | nil => rfl
    | cons _ _ => simp at h
  | cons x l ih => cases ids' with
    | nil => simp at h
    | cons y l' =>
      simp only [List.map_cons, List.cons.injEq, rv, V.ref.injEq, true_and, and_true] at h
      obtain ⟨⟨h1, h2, h3⟩, h4⟩ := h
      rw [ih h4]
      congr 1
      exact Prod.ext h1 (Prod.ext h2 h3)
theorem lts_set {n : Nat} {v : V} : ∀ {cs : List V} {j : Nat}, V.lts n cs = true → v.lt n = true → V.lts n (cs.set j v) = true
  | [], _, _, _ => rfl
  | a :: cs, 0, h, hv => by
    simp only [V.lts, Bool.and_eq_true, List.set_cons_zero] at h ⊢
    exact ⟨hv, h.2⟩
  | a :: cs, j + 1, h, hv => by
    simp only [V.lts, Bool.and_eq_true, List.set_cons_succ] at h ⊢
    exact ⟨h.1, lts_set h.2 hv⟩
section
variable {st : St} {Q : Exit → St → Prop} {c : Code}
/-- While rows are frozen one by one. -/
structure FZ2 (h0 : List B) (b g : Nat) (ids : List (Nat × Nat × Nat)) (P : List (List Int)) (i : Nat) (hc : List B) : Prop where
  hl : HL hc
  len : hc.length = h0.length
  row : ∃ rows : List (List V), hc[b]? = some (.row 47 g 0 false rows) ∧ rows.length = ids.length ∧ ∀ (j : Nat) (x : Nat × Nat × Nat) (r : List Int), ids[j]? = some x → P[j]? = some r → rows[j]? = some [if j < i then V.vec (ivs r) r.length else rv x]
  idk : ∀ (j : Nat) (x : Nat × Nat × Nat), i ≤ j → ids[j]? = some x → hc[x.1]? = h0[x.1]?
  rest : ∀ k, k ≠ b → (∀ x ∈ ids, x.1 ≠ k) → hc[k]? = h0[k]?
theorem AW_freezeN2 (hl : HL st.h) {o b g : Nat} {fl : Bool} {ids : List (Nat × Nat × Nat)} {P : List (List Int)} (q : N2 o st.h b g fl ids P)
    (h : ∀ h', HL h' → h'.length = st.h.length → h'[b]? = some (.row 47 g 0 true (rows2V P)) → (∀ k, k ≠ b → (∀ x ∈ ids, x.1 ≠ k) → h'[k]? = st.h[k]?) → AW Tryz.prog GV c Q { st with h := h' }) : AW Tryz.prog GV c Q st := by
  cases fl with
  | true =>
    have e := q.flat rfl
    subst e
    have e2 : P = [] := List.eq_nil_of_length_eq_zero (by simpa using q.len)
    subst e2
    exact h st.h hl rfl (by simpa [rows2V] using q.at0) fun _ _ _ => rfl
  | false =>
    have key : ∀ (m i : Nat) (hc : List B), i + m = ids.length → FZ2 st.h b g ids P i hc → AW Tryz.prog GV c Q { st with h := hc } := by
      intro m
      induction m with
      | zero =>
        intro i hc hi p
        obtain ⟨rows, r1, r2, r3⟩ := p.row
        have er : rows = rows2V P := by
          apply List.ext_getElem?
          intro j
          rcases Nat.lt_or_ge j ids.length with hj | hj
          · have hjp : j < P.length := by rw [q.len]; exact hj
            rw [r3 j _ _ (List.getElem?_eq_getElem hj) (List.getElem?_eq_getElem hjp), if_pos (by omega)]
            simp [rows2V, hjp]
          · rw [List.getElem?_eq_none (by omega), List.getElem?_eq_none (by rw [rows2V_len, q.len]; omega)]
        subst er
        refine AW_flat (st := { st with h := hc }) b r1 (fun x hx v hv => ?_) ?_
        · obtain ⟨r, _, rfl⟩ := List.mem_map.1 hx
          simp at hv; subst hv; simp
        · refine h _ (p.hl.set rowF_lt) (by simp [p.len]) (get_set_eq r1) fun k h1 h2 => ?_
          rw [gN (fun e => h1 e.symm)]
          exact p.rest k h1 h2
      | succ m ih =>
        intro i hc hi p
        obtain ⟨rows, r1, r2, r3⟩ := p.row
        have hil : i < ids.length := by omega
        obtain ⟨x, hx⟩ : ∃ x, ids[i]? = some x := ⟨_, List.getElem?_eq_getElem hil⟩
        obtain ⟨r, k1, k2, k3⟩ := q.rows i x hx
        have hrow := p.idk i x (Nat.le_refl _) hx
        rw [k3] at hrow
        have hri := r3 i x r hx k1
        rw [if_neg (by omega)] at hri
        have hne : b ≠ x.1 := fun e => by have := q.at0; rw [e, k3] at this; simp at this
        refine AW_viewrow (st := { st with h := hc }) b i 0 r1 hri rfl hrow (by rw [ivs_len]; omega) ?_
        refine ih (i + 1) _ (by omega) ⟨?_, by simp [p.len], ⟨rows.set i [V.vec (ivs r) r.length], ?_, by simp [r2], fun j y s hy hs => ?_⟩, fun j y hj hy => ?_, fun k h1 h2 => ?_⟩
        · refine (p.hl.set rowF_lt).set (rowR_lt fun z hz => ?_)
          rcases List.mem_or_eq_of_mem_set hz with hz | hz
          · rw [List.length_set]; exact ((p.hl.get r1).resolve_left (by simp)) z hz
          · subst hz; simp [rv]
        · rw [get_set_eq (z := .row 47 g 0 false rows) (by rw [gN (fun e => hne e.symm)]; exact r1)]
          simp [rv, k2]
        · rw [List.getElem?_set]
          by_cases e : i = j
          · subst e
            rw [hx] at hy; cases hy
            rw [k1] at hs; cases hs
            rw [if_pos rfl, if_pos (by omega), if_pos (by omega)]
          · rw [if_neg e, r3 j y s hy hs]
            by_cases e2 : j < i
            · rw [if_pos e2, if_pos (by omega)]
            · rw [if_neg e2, if_neg (by omega)]
        · have hxy : x.1 ≠ y.1 := fun e => by
            have h1 : (ids.map (·.1))[i]? = (ids.map (·.1))[j]? := by rw [List.getElem?_map, List.getElem?_map, hx, hy]; simp [e]
            have := (List.getElem?_inj (by simpa using hil) q.nodup).1 h1
            omega
          have hby : b ≠ y.1 := fun e => by
            obtain ⟨s, _, _, t3⟩ := q.rows j y hy
            have := q.at0; rw [e, t3] at this; simp at this
          rw [gN hby, gN hxy]
          exact p.idk j y (by omega) hy
        · rw [gN (fun e => h1 e.symm), gN (h2 x (List.mem_of_getElem? hx))]
          exact p.rest k h1 h2
    refine key ids.length 0 st.h (by omega) ⟨hl, rfl, ⟨_, q.at0, by simp, fun j x r hx hr => ?_⟩, fun _ _ _ _ => rfl, fun _ _ _ => rfl⟩
    rw [List.getElem?_map, hx, if_neg (by omega)]; rfl
structure FZ3 (h0 : List B) (o b g : Nat) (T : Rows3) (P : List (List (List Int))) (i : Nat) (hc : List B) : Prop where
  hl : HL hc
  len : hc.length = h0.length
  row : ∃ rows : List (List V), hc[b]? = some (.row 54 g 0 false rows) ∧ rows.length = T.length ∧ ∀ (j : Nat) (y : Nat × Nat × Bool × List (Nat × Nat × Nat)) (R : List (List Int)), T[j]? = some y → P[j]? = some R → rows[j]? = some [if j < i then V.vec (rows2V R) R.length else .ref y.1 y.2.1 0 y.2.2.2.length]
  ids : ∀ (j : Nat) (y : Nat × Nat × Bool × List (Nat × Nat × Nat)) (R : List (List Int)), i ≤ j → T[j]? = some y → P[j]? = some R → ∃ fl, N2 o hc y.1 y.2.1 fl y.2.2.2 R
  rest : ∀ k, k ≠ b → (∀ y ∈ T, y.1 ≠ k) → (∀ x ∈ ids3 T, x.1 ≠ k) → hc[k]? = h0[k]?
theorem AW_freezeN3 (hl : HL st.h) {o b g : Nat} {fl : Bool} {T : Rows3} {P : List (List (List Int))} (q : N3 o st.h b g fl T P)
    (h : ∀ h', HL h' → h'.length = st.h.length → h'[b]? = some (.row 54 g 0 true (rows3V P)) → (∀ k, k ≠ b → (∀ y ∈ T, y.1 ≠ k) → (∀ x ∈ ids3 T, x.1 ≠ k) → h'[k]? = st.h[k]?) → AW Tryz.prog GV c Q { st with h := h' }) : AW Tryz.prog GV c Q st := by
  cases fl with
  | true =>
    have e := q.flat rfl
    subst e
    have e2 : P = [] := List.eq_nil_of_length_eq_zero (by simpa using q.len)
    subst e2
    exact h st.h hl rfl (by simpa [rows3V] using q.at0) fun _ _ _ _ => rfl
  | false =>
    have key : ∀ (m i : Nat) (hc : List B), i + m = T.length → FZ3 st.h o b g T P i hc → AW Tryz.prog GV c Q { st with h := hc } := by
      intro m
      induction m with
      | zero =>
        intro i hc hi p
        obtain ⟨rows, r1, r2, r3⟩ := p.row
        have er : rows = rows3V P := by
          apply List.ext_getElem?
          intro j
          rcases Nat.lt_or_ge j T.length with hj | hj
          · have hjp : j < P.length := by rw [q.len]; exact hj
            rw [r3 j _ _ (List.getElem?_eq_getElem hj) (List.getElem?_eq_getElem hjp), if_pos (by omega)]
            simp [rows3V, hjp]
          · rw [List.getElem?_eq_none (by omega), List.getElem?_eq_none (by rw [rows3V_len, q.len]; omega)]
        subst er
        refine AW_flat (st := { st with h := hc }) b r1 (fun x hx v hv => ?_) ?_
        · obtain ⟨r, _, rfl⟩ := List.mem_map.1 hx
          simp at hv; subst hv; simp
        · refine h _ (p.hl.set rowF_lt) (by simp [p.len]) (get_set_eq r1) fun k h1 h2 h3 => ?_
          rw [gN (fun e => h1 e.symm)]
          exact p.rest k h1 h2 h3
      | succ m ih =>
        intro i hc hi p
        obtain ⟨rows, r1, r2, r3⟩ := p.row
        have hil : i < T.length := by omega
        have hip : i < P.length := by rw [q.len]; exact hil
        obtain ⟨y, hy⟩ : ∃ y, T[i]? = some y := ⟨_, List.getElem?_eq_getElem hil⟩
        obtain ⟨R, hR⟩ : ∃ R, P[i]? = some R := ⟨_, List.getElem?_eq_getElem hip⟩
        obtain ⟨fl', hN⟩ := p.ids i y R (Nat.le_refl _) hy hR
        have hbn : b ≠ y.1 := fun e => by have := hN.at0; rw [← e, r1] at this; simp at this
        have hbx : ∀ x ∈ y.2.2.2, x.1 ≠ b := fun x hx e => by
          obtain ⟨j, hj⟩ := List.getElem?_of_mem hx
          obtain ⟨s, _, _, t3⟩ := hN.rows j x hj
          rw [e, r1] at t3; simp at t3
        refine AW_freezeN2 (st := { st with h := hc }) p.hl hN fun hd hdl hdn hd1 hd2 => ?_
        have hb' : hd[b]? = some (.row 54 g 0 false rows) := by rw [hd2 b hbn hbx]; exact r1
        have hri := r3 i y R hy hR
        rw [if_neg (by omega)] at hri
        have hRl : R.length = y.2.2.2.length := hN.len
        refine AW_viewrow (st := { st with h := hd }) b i 0 hb' hri rfl hd1 (by rw [rows2V_len]; omega) ?_
        have mem3 : ∀ {j : Nat} {z : Nat × Nat × Bool × List (Nat × Nat × Nat)}, T[j]? = some z → ∀ x ∈ z.2.2.2, x ∈ ids3 T := fun hz x hx => List.mem_flatMap.2 ⟨_, List.mem_of_getElem? hz, hx⟩
        refine ih (i + 1) _ (by omega) ⟨?_, by rw [List.length_set, List.length_set]; exact hdn.trans p.len, ⟨rows.set i [V.vec (rows2V R) R.length], ?_, by simp [r2], fun j z S hz hS => ?_⟩, fun j z S hj hz hS => ?_, fun k h1 h2 h3 => ?_⟩
        · refine (hdl.set rowF_lt).set (rowR_lt fun z hz => ?_)
          rcases List.mem_or_eq_of_mem_set hz with hz | hz
          · rw [List.length_set]; exact ((hdl.get hb').resolve_left (by simp)) z hz
          · subst hz; simp
        · rw [get_set_eq (z := .row 54 g 0 false rows) (by rw [gN (fun e => hbn e.symm)]; exact hb')]
          simp [hRl]
        · rw [List.getElem?_set]
          by_cases e : i = j
          · subst e
            rw [hy] at hz; cases hz
            rw [hR] at hS; cases hS
            rw [if_pos rfl, if_pos (by omega), if_pos (by omega)]
          · rw [if_neg e, r3 j z S hz hS]
            by_cases e2 : j < i
            · rw [if_pos e2, if_pos (by omega)]
            · rw [if_neg e2, if_neg (by omega)]
        · obtain ⟨fl2, hM⟩ := p.ids j z S (by omega) hz hS
          have hbz : b ≠ z.1 := fun e => by have := hM.at0; rw [← e, r1] at this; simp at this
          -- no row of ints stands in both
          have hdis : ∀ x ∈ y.2.2.2, ∀ u ∈ z.2.2.2, x.1 ≠ u.1 := fun x hx u hu e => by
            have hnd := q.nodup
            have hs : ∀ (A C : Rows3), T = A ++ C → (∀ x ∈ ids3 A, ∀ u ∈ ids3 C, x.1 ≠ u.1) := fun A C hT x hx u hu e => by
              rw [hT, List.flatMap_append, List.map_append] at hnd
              exact (List.nodup_append.1 hnd).2.2 _ (List.mem_map.2 ⟨x, hx, rfl⟩) _ (List.mem_map.2 ⟨u, hu, rfl⟩) e
            refine hs (T.take (i + 1)) (T.drop (i + 1)) (List.take_append_drop _ _).symm x (List.mem_flatMap.2 ⟨y, List.mem_of_getElem? (i := i) (by rw [List.getElem?_take_of_lt (by omega)]; exact hy), hx⟩) u (List.mem_flatMap.2 ⟨z, List.mem_of_getElem? (i := j - (i + 1)) (by rw [List.getElem?_drop]; rw [show i + 1 + (j - (i + 1)) = j by omega]; exact hz), hu⟩) e
          have hzx : ∀ u ∈ z.2.2.2, u.1 ≠ y.1 ∧ u.1 ≠ b := fun u hu => by
            obtain ⟨k, hk⟩ := List.getElem?_of_mem hu
            obtain ⟨s, _, _, t3⟩ := hM.rows k u hk
            refine ⟨fun e => ?_, fun e => ?_⟩
            · have := hN.at0; rw [← e, t3] at this; simp at this
            · rw [e, r1] at t3; simp at t3
          have hids : ∀ u ∈ z.2.2.2, ((hd.set y.1 (.row 47 y.2.1 (rows2V R).length true (rows2V R))).set b (.row 54 g 0 false (rows.set i ([V.ref y.1 y.2.1 0 y.2.2.2.length].set 0 (.vec ((rows2V R).drop 0) y.2.2.2.length)))))[u.1]? = hc[u.1]? := fun u hu => by
            rw [gN (fun e => (hzx u hu).2 e.symm), gN (fun e => (hzx u hu).1 e.symm)]
            exact hd2 _ (hzx u hu).1 fun x hx e => hdis x hx u hu e
          by_cases hyz : y.1 = z.1
          · -- the same row: both are empty
            have e1 := hN.at0
            have e2 := hM.at0
            rw [hyz, e2] at e1
            simp only [Option.some.injEq, B.row.injEq, true_and] at e1
            have eid : z.2.2.2 = y.2.2.2 := rv_inj e1.2.2
            have ee : z.2.2.2 = [] := by
              cases hzz : z.2.2.2 with
              | nil => rfl
              | cons u us => exact absurd rfl (hdis u (by rw [← eid, hzz]; simp) u (by rw [hzz]; simp))
            have hSe : S = [] := List.eq_nil_of_length_eq_zero (by rw [hM.len, ee]; rfl)
            have hRe : R = [] := List.eq_nil_of_length_eq_zero (by rw [hRl, ← eid, ee]; rfl)
            refine ⟨true, ⟨?_, fun _ => ee, hM.len, fun k x hx => by rw [ee] at hx; simp at hx, hM.low, hM.nodup⟩⟩
            rw [gN hbz, ← hyz, get_set_eq hd1, hRe, ee, e1.1]
            simp [rows2V]
          · refine ⟨fl2, ⟨?_, hM.flat, hM.len, fun k x hx => ?_, hM.low, hM.nodup⟩⟩
            · rw [gN hbz, gN hyz, hd2 z.1 (fun e => hyz e.symm) fun x hx e => ?_]
              · exact hM.at0
              · obtain ⟨k, hk⟩ := List.getElem?_of_mem hx
                obtain ⟨s, _, _, t3⟩ := hN.rows k x hk
                have := hM.at0; rw [← e, t3] at this; simp at this
            · obtain ⟨s, t1, t2, t3⟩ := hM.rows k x hx
              exact ⟨s, t1, t2, by rw [hids x (List.mem_of_getElem? hx)]; exact t3⟩
        · rw [gN (fun e => h1 e.symm), gN (h2 y (List.mem_of_getElem? hy)), hd2 k (fun e => h2 y (List.mem_of_getElem? hy) e.symm) fun x hx => h3 x (mem3 hy x hx)]
          exact p.rest k h1 h2 h3
    refine key T.length 0 st.h (by omega) ⟨hl, rfl, ⟨_, q.at0, by simp, fun j y R hy hR => ?_⟩, fun j y R _ hy hR => ?_, fun _ _ _ _ => rfl⟩
    · rw [List.getElem?_map, hy, if_neg (by omega)]; rfl
    · obtain ⟨S, h1, h2⟩ := q.rows j y hy
      rw [hR] at h1; cases h1
      exact ⟨_, h2⟩
/-- A half in a variable's cell. -/
theorem AW_freezeCell (hl : HL st.h) {b0 j : Nat} {cs : List V} (h0 : st.h[b0]? = some (.var cs)) {o b g : Nat} {fl : Bool} {T : Rows3} {P : List (List (List Int))} (hj : cs[j]? = some (.ref b g 0 T.length)) (q : N3 o st.h b g fl T P)
    (h : ∀ h', HL h' → h'.length = st.h.length → h'[b0]? = some (.var (cs.set j (halfV P))) → (∀ k, k ≠ b0 → k ≠ b → (∀ y ∈ T, y.1 ≠ k) → (∀ x ∈ ids3 T, x.1 ≠ k) → h'[k]? = st.h[k]?) → AW Tryz.prog GV c Q { st with h := h' }) : AW Tryz.prog GV c Q st := by
  have hb0 : b ≠ b0 := fun e => by have := q.at0; rw [e, h0] at this; cases this
  have hy0 : ∀ y ∈ T, y.1 ≠ b0 := fun y hy e => by
    obtain ⟨i, hi⟩ := List.getElem?_of_mem hy
    obtain ⟨R, _, hN⟩ := q.rows i y hi
    have := hN.at0; rw [e, h0] at this; cases this
  have hx0 : ∀ x ∈ ids3 T, x.1 ≠ b0 := fun x hx e => by
    obtain ⟨ns, R, _, _, hr, _⟩ := q.mem_row hx
    rw [e, h0] at hr; cases hr
  refine AW_freezeN3 hl q fun hd hdl hdn hd1 hd2 => ?_
  have hv : hd[b0]? = some (.var cs) := by rw [hd2 b0 (fun e => hb0 e.symm) hy0 hx0]; exact h0
  refine AW_viewcell (st := { st with h := hd }) b0 j hv hj hd1 (by rw [rows3V_len, ← q.len]; omega) ?_
  refine h _ ?_ (by rw [List.length_set, List.length_set]; exact hdn) ?_ fun k h1 h2 h3 h4 => ?_
  · refine (hdl.set rowF_lt).set ?_
    have hvl := hdl.get hv
    show V.lts _ _ = true
    rw [List.length_set]
    have hvl : V.lts hd.length cs = true := hvl
    exact lts_set hvl rfl
  · rw [get_set_eq (z := .var cs) (by rw [gN hb0]; exact hv)]
    simp [halfV, q.len]
  · rw [gN (fun e => h1 e.symm), gN (fun e => h2 e.symm)]
    exact hd2 k h2 h3 h4
end
end Go.Proofs.YtgmlimipejcpgaaGreatDoor
end
section
set_option linter.unusedSimpArgs false
set_option linter.unusedVariables false
namespace Go.Proofs.YtgmlimipejcpgaaGreatDoor
open Go Go.AM Fx
def inB (b : Nat) (T : Rows3) (k : Nat) : Prop := k = b ∨ (∃ y ∈ T, y.1 = k) ∨ ∃ x ∈ ids3 T, x.1 = k
theorem N3.in_lt {o b g fl} {h : List B} {T : Rows3} {P : List (List (List Int))} (q : N3 o h b g fl T P) {k : Nat} (hk : inB b T k) : k < h.length := by
  rcases hk with rfl | ⟨y, hy, rfl⟩ | ⟨x, hx, rfl⟩
  · exact q.b_lt
  · exact q.hi_row.1 y hy
  · exact q.hi_row.2 x hx
theorem N3.in_ge {o b g fl} {h : List B} {T : Rows3} {P : List (List (List Int))} (q : N3 o h b g fl T P) {k : Nat} (hk : inB b T k) : o ≤ k := by
  rcases hk with rfl | ⟨y, hy, rfl⟩ | ⟨x, hx, rfl⟩
  · exact q.low
  · exact q.low_row.1 y hy
  · exact q.low_row.2 x hx
theorem N3.on {o b g fl} {h h' : List B} {T : Rows3} {P : List (List (List Int))} (q : N3 o h b g fl T P) (hh : ∀ k, inB b T k → h'[k]? = h[k]?) : N3 o h' b g fl T P := by
  refine ⟨by rw [hh _ (.inl rfl)]; exact q.at0, q.flat, q.len, fun i y hy => ?_, q.low, q.nodup⟩
  obtain ⟨Q, h1, h2⟩ := q.rows i y hy
  have hm := List.mem_of_getElem? hy
  refine ⟨Q, h1, ⟨by rw [hh _ (.inr (.inl ⟨y, hm, rfl⟩))]; exact h2.at0, h2.flat, h2.len, fun j x hx => ?_, h2.low, h2.nodup⟩⟩
  obtain ⟨ns, t1, t2, t3⟩ := h2.rows j x hx
  exact ⟨ns, t1, t2, by rw [hh _ (.inr (.inr ⟨x, List.mem_flatMap.2 ⟨y, hm, List.mem_of_getElem? hx⟩, rfl⟩))]; exact t3⟩
theorem N3.not_var {o b g fl} {h : List B} {T : Rows3} {P : List (List (List Int))} (q : N3 o h b g fl T P) {k : Nat} {cs : List V} (hk : h[k]? = some (.var cs)) : ¬ inB b T k := by
  rintro (rfl | ⟨y, hy, rfl⟩ | ⟨x, hx, rfl⟩)
  · have := q.at0; rw [hk] at this; cases this
  · obtain ⟨i, hi⟩ := List.getElem?_of_mem hy
    obtain ⟨R, _, hN⟩ := q.rows i y hi
    have := hN.at0; rw [hk] at this; cases this
  · obtain ⟨ns, R, _, _, hr, _⟩ := q.mem_row hx
    rw [hk] at hr; cases hr
theorem not_in {b : Nat} {T : Rows3} {k : Nat} (h : ¬ inB b T k) : k ≠ b ∧ (∀ y ∈ T, y.1 ≠ k) ∧ ∀ x ∈ ids3 T, x.1 ≠ k :=
  ⟨fun e => h (.inl e), fun y hy e => h (.inr (.inl ⟨y, hy, e⟩)), fun x hx e => h (.inr (.inr ⟨x, hx, e⟩))⟩
/-- Two halves of one's own in a variable. -/
structure Two (o : Nat) (h : List B) (bx : Nat) (A C : List (List (List Int))) : Prop where
  hl : HL h
  ex : ∃ b1 g1 f1 T1 b2 g2 f2 T2, h[bx]? = some (.var [.ref b1 g1 0 T1.length, .ref b2 g2 0 T2.length]) ∧ N3 o h b1 g1 f1 T1 A ∧ N3 o h b2 g2 f2 T2 C ∧ ∀ k, inB b1 T1 k → ¬ inB b2 T2 k
theorem Two.mk' {o bx b1 g1 b2 g2 : Nat} {h : List B} {f1 f2 : Bool} {T1 T2 : Rows3} {A C : List (List (List Int))} {cs : List V} (hl : HL h) (hv : h[bx]? = some (.var cs)) (p1 : N3 o h b1 g1 f1 T1 A) (p2 : N3 o h b2 g2 f2 T2 C) (hd : ∀ k, inB b1 T1 k → ¬ inB b2 T2 k) :
    Two o (h.set bx (.var [.ref b1 g1 0 T1.length, .ref b2 g2 0 T2.length])) bx A C :=
  ⟨hl.set (by have := p1.b_lt; have := p2.b_lt; simp; omega), b1, g1, f1, T1, b2, g2, f2, T2, get_set_eq hv, p1.setne hv, p2.setne hv, hd⟩
theorem nodup_two {o b1 g1 b2 g2 : Nat} {h : List B} {f1 f2 : Bool} {T1 T2 : Rows3} {A C : List (List (List Int))} (p1 : N3 o h b1 g1 f1 T1 A) (p2 : N3 o h b2 g2 f2 T2 C) (hd : ∀ k, inB b1 T1 k → ¬ inB b2 T2 k) : (idsR T1 ++ idsR T2).Nodup :=
  List.nodup_append.2 ⟨p1.nodup, p2.nodup, fun u hu w hw e => by
    obtain ⟨x, hx, rfl⟩ := List.mem_map.1 hu
    obtain ⟨z, hz, rfl⟩ := List.mem_map.1 hw
    exact hd x.1 (.inr (.inr ⟨x, hx, rfl⟩)) (.inr (.inr ⟨z, hz, e.symm⟩))⟩
set_option maxRecDepth 20000 in
set_option maxHeartbeats 16000000 in
theorem c_JoinBad (a : PlanD) (ha : a.ok) (l : List PlanD) (hl : okPlans l) (he : anyL (unlike a) l = true) : PC 48 [.agg a.cells, vl PlanD.cells l] (.tup [.agg [.nils, .nils], .int .i64 6]) := by
  have hll := hl.1
  have hc1 := fun b : PlanD => c_alikeP a.lo b.lo ha.1
  have hc2 := fun b : PlanD => c_alikeP a.up b.up ha.2
  refine pB Tryz.func48 rfl (by decide) Tryz.ntmps48 (by simp) Tryz.results48 ?_
  simp only [PlanD.cells, halfV] at hc1 hc2 ⊢
  repeat' (first
 |refine aK fun K hK=>?_|refine Step.by1 ?_|refine sE (by decide) ?_|refine cz rfl ?_|refine Fork.by2 (fun h=>?_) fun h=>?_
 |(refine aR ?_;simp [vl])
 |(refine Split.by2 (fun h=>?_) (fun h=>?_)<;>(simp [h, vl]))
 |(apply hK;clear hK K)|refine AWh ‹_› ?_)
  refine aL [1, 2, 4, 11, 12] (fun i : Nat => [(13, .int .i64 i)]) (fun _ => [.var a.cells, .var [.nils, .nils]]) (fun i => i ≤ l.length ∧ anyL (unlike a) (l.drop i) = true) (fun i => l.length - i) 0 ⟨Nat.zero_le _, he⟩ (by apply Weak.mk' <;> simp [vl, PlanD.cells, halfV]) (fun _ _ => rfl) ?_
  clear he
  rintro i ⟨hi, hk⟩
  by_cases hlt : i < l.length
  · obtain ⟨b, hbb⟩ : ∃ b, l[i] = b := ⟨_, rfl⟩
    rw [List.drop_eq_getElem_cons hlt, hbb, anC] at hk
    have hlt' : (i : Int) < l.length := by omega
    have w1 : IntKind.i64.wrap ((i : Int) + 1) = i + 1 := wI (by omega) (by omega)
    have d1 := hc1 b
    have d2 := hc2 b
    clear hc1 hc2
    rw [show unlike a b = !(alikeP a.lo b.lo && alikeP a.up b.up) from rfl] at hk
    generalize alikeP a.lo b.lo = q1 at *
    generalize alikeP a.up b.up = q2 at *
    cases q1
    · repeat' (first
 |refine aK fun K hK=>?_|refine Step.by1 ?_|refine sE (by decide) ?_|refine cz rfl ?_|refine Fork.by2 (fun h=>?_) fun h=>?_
 |((first|refine aR ?_|refine aC (f:=116) rfl rfl (d1) rfl rfl rfl ?_);simp [vl, PlanD.cells, halfV, hlt, hlt', hbb])
 |(refine Split.by2 (fun h=>?_) (fun h=>?_)<;>(simp [h, vl, PlanD.cells, halfV, hlt, hlt', hbb]))
 |(apply hK;clear hK K)|refine AWh ‹_› ?_)
      exact retq2ct rfl (by simp) (cE (by simp) (by simp))
    · cases q2
      · repeat' (first
 |refine aK fun K hK=>?_|refine Step.by1 ?_|refine sE (by decide) ?_|refine cz rfl ?_|refine Fork.by2 (fun h=>?_) fun h=>?_
 |((first|refine aR ?_|refine aC (f:=116) rfl rfl (d1) rfl rfl rfl ?_|refine aC (f:=116) rfl rfl (d2) rfl rfl rfl ?_);simp [vl, PlanD.cells, halfV, hlt, hlt', hbb])
 |(refine Split.by2 (fun h=>?_) (fun h=>?_)<;>(simp [h, vl, PlanD.cells, halfV, hlt, hlt', hbb]))
 |(apply hK;clear hK K)|refine AWh ‹_› ?_)
        exact retq2ct rfl (by simp) (cE (by simp) (by simp))
      · have hk : anyL (unlike a) (l.drop (i + 1)) = true := by simpa using hk
        repeat' (first
 |refine aK fun K hK=>?_|refine Step.by1 ?_|refine sE (by decide) ?_|refine cz rfl ?_|refine Fork.by2 (fun h=>?_) fun h=>?_
 |((first|refine aR ?_|refine aC (f:=116) rfl rfl (d1) rfl rfl rfl ?_|refine aC (f:=116) rfl rfl (d2) rfl rfl rfl ?_);simp [vl, PlanD.cells, halfV, hlt, hlt', hbb, w1])
 |(refine Split.by2 (fun h=>?_) (fun h=>?_)<;>(simp [h, vl, PlanD.cells, halfV, hlt, hlt', hbb, w1]))
 |(apply hK;clear hK K)|refine AWh ‹_› ?_)
        refine ⟨i + 1, ⟨by omega, hk⟩, by omega, ?_⟩
        apply Weak.mk' <;> simp [vl, PlanD.cells, halfV]
  · obtain rfl : i = l.length := by omega
    rw [List.drop_length, anyL_nil] at hk; cases hk
end Go.Proofs.YtgmlimipejcpgaaGreatDoor
end
