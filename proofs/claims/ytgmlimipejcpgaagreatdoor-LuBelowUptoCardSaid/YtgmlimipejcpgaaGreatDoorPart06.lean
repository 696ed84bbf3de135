/-
  YtgmlimipejcpgaaGreatDoorPart06: steps of the proof of a law of the program: what these texts prove holds under the hypotheses that their theorems name, and no others.
-/
import Derived.Test.YtgmlimipejcpgaaGreatDoorPart04
import Derived.Orders
import Derived.Scope
section
set_option linter.unusedVariables false
set_option linter.unusedSimpArgs false
namespace Go.AM
section
variable {P : Program} {ge : GEnv} {st : St} {Q : Exit → St → Prop} {ops : Array Oper}
variable {d : Option Tmp} {t : TypeId} {p : String} {af : Array Edge} {g : Option (Nat × Bool)}
theorem OpS_newVec {o : Oper} {T : TypeId} {xs : List (List V)} {len : Nat} (h0 : 0 < szOf P T) (hlen : len ≤ xs.length)
    (H : ∀ G a w, Rep P ge G st a w → ∃ (arr : Array Value) (cap : Nat), (execOp a.eval o).run P w = .ok (.value (.slice (some ⟨w.heap.size, 0, none⟩) len cap)) (w.alloc (.cells arr T)) ∧
      arr.size = cap * szOf P T ∧ xs.length ≤ cap ∧ cap ≤ maxLen ∧ RowR G w true (szOf P T) xs arr) :
    OpS P ge st o (.vec xs len) st.h := by
  intro G a w hr
  obtain ⟨arr, cap, h1, h2, h3, h4, h5, h6⟩ := H G a w hr
  have hle : ∀ j, G.fz j ≤ (if j = w.heap.size then arr.size else G.fz j) := fun j => by
    split
    · rename_i h; rw [h, hr.rh.fzlt _ (Nat.le_refl _)]; exact Nat.zero_le _
    · exact Nat.le_refl _
  have hh : (w.alloc (.cells arr T)).heap[w.heap.size]? = some (.cells arr T (0, 0)) := heap_alloc_new w _
  have kept : Kept G w (G.withFz fun j => if j = w.heap.size then arr.size else G.fz j) (w.alloc (.cells arr T)) := by
    refine ⟨.alloc w _, fun j hj => ?_, fun j hj => ?_⟩
    · show (if j = w.heap.size then arr.size else G.fz j) = G.fz j
      rw [if_neg (by omega)]
    · show (if j = w.heap.size then arr.size else G.fz j) = 0
      have hs : w.heap.size < (w.alloc (.cells arr T)).heap.size := by
        rcases Nat.lt_or_ge w.heap.size (w.alloc (.cells arr T)).heap.size with h | h
        · exact h
        · rw [Array.getElem?_eq_none h] at hh; cases hh
      rw [if_neg (by omega)]
      exact hr.rh.fzlt j (by omega)
  obtain ⟨rh, ext⟩ := kept.rh hr.rh
  have le := ext.le
  refine ⟨_, _, _, .inl h1, rh, ?_, ext⟩
  have hlt : ∀ (i : Nat) (x : List V) (j : Nat) (v : V), xs[i]? = some x → x[j]? = some v → i * szOf P T + j < arr.size := fun i x j v hx hv => by
    have k1 := h5 i x hx
    have k2 : i < xs.length := (List.getElem?_eq_some_iff.1 hx).1
    have k3 : j < x.length := (List.getElem?_eq_some_iff.1 hv).1
    have k4 : (i + 1) * szOf P T ≤ cap * szOf P T := Nat.mul_le_mul_right _ (by omega)
    rw [h2]; rw [Nat.add_mul] at k4; omega
  have hcd : ∀ (o : Nat), o < arr.size → (w.alloc (.cells arr T)).cell? ⟨w.heap.size, o, none⟩ = some (arr.getD o undef) := fun o ho => arr_cell hh ho
  have hd : ∀ (o : Nat), o < arr.size → cellD (w.alloc (.cells arr T)) w.heap.size o = arr.getD o undef := fun o ho => by unfold cellD; rw [hcd o ho]; rfl
  refine R.vec (sz := szOf P T) hlen h3 h4 h5 (fun i x j v hx hv => ?_) (fun i x j v hx hv => ?_) (fun i x j v hx hv => ?_)
  · have := hlt i x j v hx hv
    rw [Nat.zero_add]
    refine ⟨by rw [hcd _ this]; rfl, ?_⟩
    show _ < if w.heap.size = w.heap.size then arr.size else G.fz w.heap.size
    rw [if_pos rfl]; exact this
  · rw [Nat.zero_add, hd _ (hlt i x j v hx hv)]; exact (h6 i x j v hx hv).1
  · rw [Nat.zero_add, hd _ (hlt i x j v hx hv)]
    exact ((h6 i x j v hx hv).2).monoT le.fz (fun k o ho => le.cells k o ho) rfl
theorem S_buildVec {T e : TypeId} {len : Nat} {parts : Array (Nat × Operand)} {zs : List V} (hu : P.underlying T = some (.slice e)) (hz : zeroOf P e = some zs) (hsz : szOf P e = zs.length) (h0 : 0 < zs.length) (hl0 : 0 < len) (hl : len * zs.length ≤ 16777216)
    (hok : rowsOk zs.length len (parts.toList.map fun x => (x.1, ev ge st.tm x.2)) = true) (hf : partsF (parts.toList.map fun x => (x.1, ev ge st.tm x.2)) = true) :
    OpS P ge st ⟨d, .buildSlice T len parts, t, p, af, g⟩ (.vec (rowsV (List.replicate len zs) (parts.toList.map fun x => (x.1, ev ge st.tm x.2))) len) st.h := by
  have hlen : ∀ (ps : List (Nat × V)) (xs : List (List V)), (rowsV xs ps).length = xs.length := by
    intro ps
    induction ps with
    | nil => intro xs; rfl
    | cons a r ih => intro xs; simp only [rowsV]; rw [ih, List.length_set]
  refine OpS_newVec (T := e) (by omega) (by rw [hlen]; simp) fun G a w hr => ?_
  obtain ⟨z, h1, _, h2, _, h3⟩ := run_zeroValue hz
  have hrow := RowR_zeros (G := G) (w := w) (T := e) h2 h3 len true
  obtain ⟨arr', e1, e2, e3⟩ := fillRows (fun x => hr.ev x) parts.toList _ _ hrow (by simp [h2]) (by simpa using hok) (fun _ => hf)
  have hpm : (parts.map fun (x : Nat × Operand) => (x.1, a.eval x.2)).toList = parts.toList.map fun x => (x.1, a.eval x.2) := by simp
  have h24 : ¬ (len * zs.length > 2 ^ 24) := by omega
  refine ⟨arr', len, ?_, by rw [e2, hsz]; simp, by rw [hlen]; simp, ?_, by rw [hsz]; exact e3⟩
  · simp only [execOp, Instr.buildSlice, Sem.run_bind, run_underlying hu, Result.andThen_ok, run_sizeOf hsz h0, h24, if_false]
    have hzero : ¬ len * zs.length = 0 := by
      intro q; rcases Nat.mul_eq_zero.1 q with q | q <;> omega
    have e1' : Instr.fill (fun i => some (i * zs.length, zs.length)) ((Array.range (len * zs.length)).map fun k => z.cells[k % z.cells.size]!) (parts.map fun (x : Nat × Operand) => (x.1, a.eval x.2)).toList = some arr' := by
      rw [hpm, ← h2]; rw [← h2] at e1; exact e1
    simp only [hzero, if_false, Sem.run_bind, h1, Result.andThen_ok, Sem.run_pure, e1']
    simp [newRow]
  · have : len ≤ len * zs.length := Nat.le_mul_of_pos_right _ h0
    unfold maxLen; omega
def bsOk (P : Program) (ge : GEnv) (st : St) (T : TypeId) (len : Nat) (parts : Array (Nat × Operand)) : Prop :=
  isSliceT P T = true ∧ (zeroOf P (elemOf P T)).isSome = true ∧ szOf P (elemOf P T) = (zeroD P (elemOf P T)).length ∧ 0 < (zeroD P (elemOf P T)).length ∧ 0 < len ∧ len * (zeroD P (elemOf P T)).length ≤ 16777216 ∧
    rowsOk (zeroD P (elemOf P T)).length len (partsV ge st.tm parts.toList) = true ∧ partsF (partsV ge st.tm parts.toList) = true
theorem S_bsOk {T : TypeId} {len : Nat} {parts : Array (Nat × Operand)} (h : bsOk P ge st T len parts) :
    OpS P ge st ⟨d, .buildSlice T len parts, t, p, af, g⟩ (.vec (rowsV (List.replicate len (zeroD P (elemOf P T))) (partsV ge st.tm parts.toList)) len) st.h := by
  obtain ⟨h1, h2, h3, h4, h5, h6, h7, h8⟩ := h
  obtain ⟨e, hu, _⟩ := isSliceT_spec h1
  have he : elemOf P T = e := by unfold elemOf; rw [hu]
  rw [he] at h2 h3 h4 h6 h7 ⊢
  rw [partsV_eq] at h7 h8 ⊢
  exact S_buildVec hu (getD_some h2) h3 h4 h5 h6 h7 h8
end
attribute [simp] bsOk
end Go.AM
end

section
set_option linter.unusedVariables false
set_option linter.unusedSimpArgs false
namespace Go.AM
section
variable {P : Program} {ge : GEnv} {st : St} {Q : Exit → St → Prop} {G : Gh} {w : World}
variable {d : Option Tmp} {t : TypeId} {p : String} {af : Array Edge}
/-- A value as a reader sees it. -/
def seenV (h : List B) : V → V
  | .ref b g off len => match h[b]? with
    | some (.row _ g' _ true xs) => if g = g' ∧ off + len ≤ xs.length then .vec (xs.drop off) len else .ref b g off len
    | _ => .ref b g off len
  | v => v
def V.scal : V → Bool
  | .bool _ | .int _ _ | .str _ => true
  | _ => false
def cellsAt (w : World) (k : Nat) : Nat := match w.heap[k]? with
  | some (.cells arr _ _) => arr.size
  | _ => 0
def Gh.all (G : Gh) (w : World) : Gh := G.withFz fun k => max (G.fz k) (cellsAt w k)
theorem all_fz (k : Nat) : G.fz k ≤ (G.all w).fz k := Nat.le_max_left _ _
theorem seen_spec {h : List B} (rh : RH P ge G h w) {u : V} {c : Value} (hu : R G w false u c) (hf : (seenV h u).isF = true) : R (G.all w) w true (seenV h u) c := by
  have keep : u.isF = true → R (G.all w) w true u c := fun h => (hu.frozen h).monoT all_fz (fun _ _ _ => rfl) rfl
  cases u
  case ref b g off len =>
    unfold seenV at hf ⊢
    cases hx : h[b]? with
    | none => simp [hx, V.isF] at hf
    | some x =>
    cases x with
    | dead => simp [hx, V.isF] at hf
    | var cs => simp [hx, V.isF] at hf
    | map es => simp [hx, V.isF] at hf
    | row T g' fzn fl xs =>
    cases fl with
    | false => simp [hx, V.isF] at hf
    | true =>
      simp only [hx] at hf ⊢
      by_cases hc : g = g' ∧ off + len ≤ xs.length
      · rw [if_pos hc]
        obtain ⟨rfl, hlen⟩ := hc
        clear hf
        obtain ⟨h00, hfx, ⟨hsz0, hszT⟩, hrow⟩ := rh.bl b _ hx
        cases hu with
        | ref hb hg hm hle =>
          rename_i k
          rcases hrow with ⟨hn, rfl⟩ | ⟨k', arr, hm', hh, hfzk, hs', hl', hcm, hlen', hcells⟩
          · rw [hm] at hn; cases hn
          · rw [hm] at hm'; cases hm'
            have idx : ∀ (i : Nat) (x : List V) (j : Nat) (v : V), (xs.drop off)[i]? = some x → x[j]? = some v → xs[off + i]? = some x ∧ off * G.sz b + (i * G.sz b + j) = (off + i) * G.sz b + j ∧ (off + i) * G.sz b + j < arr.size := fun i x j v hx hv => by
              have hx' : xs[off + i]? = some x := by rw [List.getElem?_drop] at hx; exact hx
              refine ⟨hx', by rw [Nat.add_mul]; omega, ?_⟩
              have h2 : off + i < xs.length := (List.getElem?_eq_some_iff.1 hx').1
              have h3 : (off + i + 1) * G.sz b ≤ G.cap b g * G.sz b := Nat.mul_le_mul_right _ (by omega)
              have h4 : j < G.sz b := by rw [← hlen' _ x hx']; exact (List.getElem?_eq_some_iff.1 hv).1
              rw [hs', Nat.add_mul (off + i) 1] at *; omega
            have hD : ∀ q, q < arr.size → w.cell? ⟨k, q, none⟩ = some (arr.getD q undef) := fun q hq => arr_cell hh hq
            refine .vec (sz := G.sz b) (by rw [List.length_drop]; omega) (by rw [List.length_drop]; omega) (by omega) (fun i x hx => hlen' (off + i) x (by rw [List.getElem?_drop] at hx; exact hx)) (fun i x j v hx hv => ?_) (fun i x j v hx hv => ?_) (fun i x j v hx hv => ?_)
            · obtain ⟨e1, e2, e3⟩ := idx i x j v hx hv
              rw [e2, hD _ e3]
              refine ⟨rfl, Nat.lt_of_lt_of_le e3 ?_⟩
              have : cellsAt w k = arr.size := by unfold cellsAt; rw [hh]
              show arr.size ≤ max (G.fz k) (cellsAt w k)
              rw [this]; exact Nat.le_max_right _ _
            · obtain ⟨e1, e2, e3⟩ := idx i x j v hx hv
              unfold cellD; rw [e2, hD _ e3]; exact (hcells _ x j v e1 hv).1
            · obtain ⟨e1, e2, e3⟩ := idx i x j v hx hv
              unfold cellD; rw [e2, hD _ e3]; exact (hcells _ x j v e1 hv).2.monoT all_fz (fun _ _ _ => rfl) rfl
        | refn hb hg hm =>
          rcases hrow with ⟨hn, rfl⟩ | ⟨k', arr, hm', _⟩
          · exact .emp (Nat.zero_le _)
          · rw [hm] at hm'; cases hm'
      · rw [if_neg hc] at hf; cases hf
  all_goals exact keep hf
theorem scal_R {r : V} {c : Value} (h : r.scal = true) {G G' : Gh} {w w' : World} {fr fr' : Bool} (hr : R G w fr r c) : R G' w' fr' r c := by
  cases r <;> first | (simp [V.scal] at h; done) | (cases hr; constructor; done)
theorem GCall_seen {f : Nat} {args args' : List V} {r : V} {h : List B} (hc : PCall P ge f args' r) (hs : args.map (seenV h) = args') (hf : V.isFs args' = true) (hp : r.scal = true) :
    GCall P ge f args h fun v h' => v = r ∧ h' = h := by
  refine ⟨hc.1, fun G w cargs ha hr => ?_⟩
  have ha' : ArgsR (G.all w) w true args' cargs := by
    subst hs
    refine ⟨by rw [ha.1, List.length_map], fun i v hv => ?_⟩
    have hvf := V.isFs_get hf i v hv
    rw [List.getElem?_map] at hv
    obtain ⟨u, hu, rfl⟩ := Option.map_eq_some_iff.1 hv
    exact seen_spec hr (ha.2 i u hu) hvf
  have hge : GE ge (G.all w) w := ⟨fun k hk => by
    show max (G.fz k) (cellsAt w k) = 0
    have : cellsAt w k = 0 := by unfold cellsAt; rw [Array.getElem?_eq_none hk]
    rw [this, hr.fzlt k hk]; rfl, fun g cs hg => (hr.ge g cs hg).monoT all_fz (fun _ _ _ => rfl) rfl⟩
  refine (hc.2 (G.all w) w cargs ha' hge).mono ?_
  rintro e w' ⟨c, G', rfl, kept, ro⟩
  have k0 : Kept G w G w' := ⟨kept.grow, fun _ _ => rfl, fun k hk => hr.fzlt k (Nat.le_trans kept.grow.size hk)⟩
  obtain ⟨h1, h2⟩ := k0.rh hr
  have hpl : r.plain = true := by cases r <;> first | rfl | cases hp
  exact ⟨c, _, r, h, rfl, ⟨rfl, rfl⟩, h1, scal_R hp (ro.plain hpl), h2⟩
theorem seen_ext {h : List B} {v : V} (e : List B) (hl : v.lt h.length = true) : seenV (h ++ e) v = seenV h v := by
  cases v <;> try rfl
  rename_i b g off len
  have hb : b < h.length := by simpa [V.lt] using hl
  unfold seenV
  simp only [List.getElem?_append_left hb]
/-- A call of a function on values as they are seen. -/
def SeenStep (P : Program) (ge : GEnv) (st : St) (op : Op) (v : V) : Prop :=
  ∃ x xs ts f args', op = .call { callee := .value x, args := xs, argTypes := ts } ∧ ev ge st.tm x = .fn (.func f) [] [] ∧ PCall P ge f args' v ∧ (xs.toList.map (ev ge st.tm)).map (seenV st.h) = args' ∧ V.isFs args' = true ∧ v.scal = true
theorem AS_scall {ops : Array Oper} {rest : List Oper} {x : Operand} {xs : Array Operand} {ts : Array TypeId} {f : Nat} {A C : List V} {args' : List V} {r : V}
    (hx : ev ge st.tm x = .fn (.func f) A C) (hd : dstOk st.n d = true) (hc : PCall P ge f args' r) (hs : (A ++ xs.toList.map (ev ge st.tm) ++ C).map (seenV st.h) = args') (hf : V.isFs args' = true) (hp : r.scal = true)
    (h : AS P ge ops rest Q { st with tm := putD d r st.tm }) :
    AS P ge ops (⟨d, .call { callee := .value x, args := xs, argTypes := ts }, t, p, af, none⟩ :: rest) Q st :=
  AS_gcall hx hd (GCall_seen hc hs hf hp) (by rintro v h' ⟨rfl, rfl⟩; exact h)
end
end Go.AM
end

section
set_option linter.unusedVariables false
set_option linter.unusedSimpArgs false
namespace Go.AM
section
variable {P : Program} {ge : GEnv} {st st' : St} {Q : Exit → St → Prop} {ops : Array Oper}
theorem evs_congr {tm tm' : List (Nat × V)} : ∀ (l : List Operand), (∀ x ∈ l, ev ge tm' x = ev ge tm x) → evs ge tm' l = evs ge tm l
  | [], _ => rfl
  | x :: r, h => by simp only [evs, h x (List.mem_cons_self ..), evs_congr r fun y hy => h y (List.mem_cons_of_mem _ hy)]
theorem partsV_congr {tm tm' : List (Nat × V)} : ∀ (l : List (Nat × Operand)), (∀ x ∈ l, ev ge tm' x.2 = ev ge tm x.2) → partsV ge tm' l = partsV ge tm l
  | [], _ => rfl
  | (i, x) :: r, h => by
    have h1 := h (i, x) (List.mem_cons_self ..)
    simp only at h1
    simp only [partsV, h1, partsV_congr r fun y hy => h y (List.mem_cons_of_mem _ hy)]
/-- An operation looks at its operands alone. -/
theorem op_congr {op : Op} (hs : stillOp op = true) (hh : st'.h = st.h) (he : ∀ x ∈ op.operands, ev ge st'.tm x = ev ge st.tm x) (ho : opOk P ge st op) :
    opOk P ge st' op ∧ (opVal P ge st' op).1 = (opVal P ge st op).1 := by
  unfold stillOp at hs
  split at hs
  case h_1 x => simp [Op.operands, -ev] at he; simp only [opOk, opVal]; rw [he]; exact ⟨trivial, rfl⟩
  case h_2 x => simp [Op.operands, -ev] at he; simp only [opOk, opVal]; rw [he]; exact ⟨trivial, rfl⟩
  case h_3 a b c => simp [Op.operands, -ev] at he; simp only [opOk, opVal] at ho ⊢; obtain ⟨e1, e2, e3⟩ := he; rw [e1, e2, e3]; exact ⟨ho, rfl⟩
  case h_4 T parts =>
    have e : partsV ge st'.tm parts.toList = partsV ge st.tm parts.toList := partsV_congr _ fun x hx => he x.2 (by simp only [Op.operands]; simp; exact ⟨x.1, by simpa using hx⟩)
    simp only [opOk, opVal] at ho ⊢; rw [e]; exact ⟨ho, rfl⟩
  case h_5 e x => simp [Op.operands, -ev] at he; simp only [opOk, opVal] at ho ⊢; rw [he, hh]; exact ⟨ho, rfl⟩
  case h_6 x => simp [Op.operands, -ev] at he; simp only [opOk, opVal] at ho ⊢; rw [he]; exact ⟨ho, rfl⟩
  case h_7 op T x y T' => simp [Op.operands, -ev] at he; obtain ⟨e1, e2⟩ := he; simp only [opOk, opVal] at ho ⊢; rw [e1, e2]; exact ⟨ho, rfl⟩
  case h_8 op T x => simp [Op.operands, -ev] at he; simp only [opOk, opVal] at ho ⊢; rw [he]; exact ⟨ho, rfl⟩
  case h_9 s e x => simp [Op.operands, -ev] at he; simp only [opOk, opVal] at ho ⊢; rw [he, hh]; exact ⟨ho, rfl⟩
  case h_10 s x f => simp [Op.operands, -ev] at he; simp only [opOk, opVal] at ho ⊢; rw [he]; exact ⟨ho, rfl⟩
  case h_11 s x y => simp [Op.operands, -ev] at he; obtain ⟨e1, e2⟩ := he; simp only [opOk, opVal] at ho ⊢; rw [e1, e2, hh]; exact ⟨ho, rfl⟩
  case h_12 s x y => simp [Op.operands, -ev] at he; obtain ⟨e1, e2⟩ := he; simp only [opOk, opVal] at ho ⊢; rw [e1, e2]; exact ⟨ho, rfl⟩
  case h_13 x i => simp [Op.operands, -ev] at he; simp only [opOk, opVal] at ho ⊢; rw [he]; exact ⟨ho, rfl⟩
  case h_14 f A C =>
    have e1 : evs ge st'.tm A.toList = evs ge st.tm A.toList := evs_congr _ fun x hx => he x (by simp only [Op.operands]; simp; exact .inl (by simpa using hx))
    have e2 : evs ge st'.tm C.toList = evs ge st.tm C.toList := evs_congr _ fun x hx => he x (by simp only [Op.operands]; simp; exact .inr (by simpa using hx))
    simp only [opOk, opVal]; rw [e1, e2]; exact ⟨trivial, rfl⟩
  case h_15 T x lo hi =>
    have ex := he x (by simp [Op.operands])
    have e1 : ∀ n, bndV ge st'.tm lo n = bndV ge st.tm lo n := fun n => by
      cases lo with
      | none => rfl
      | some y => unfold bndV; simp only; rw [he y (by simp [Op.operands])]
    have e2 : ∀ n, bndV ge st'.tm hi n = bndV ge st.tm hi n := fun n => by
      cases hi with
      | none => rfl
      | some y => unfold bndV; simp only; rw [he y (by simp [Op.operands])]
    have e3 : bndOk ge st'.tm lo = bndOk ge st.tm lo := by
      cases lo with
      | none => rfl
      | some y => unfold bndOk; simp only; rw [he y (by simp [Op.operands])]
    have e4 : bndOk ge st'.tm hi = bndOk ge st.tm hi := by
      cases hi with
      | none => rfl
      | some y => unfold bndOk; simp only; rw [he y (by simp [Op.operands])]
    simp only [opOk, opVal, sliceGood, sliceVal] at ho ⊢
    simp only [ex, e1, e2, e3, e4, hh]
    exact ⟨ho, trivial⟩
  case h_16 xs ts =>
    simp only [opOk, opVal] at ho ⊢
    obtain ⟨h1, h2, h3⟩ := ho
    have ex := he (xs.getD 0 default) (by
      simp only [Op.operands, Call.operands]
      have : 0 < xs.size := by omega
      simp [Array.getD, this])
    rw [ex]; exact ⟨⟨h1, h2, h3⟩, rfl⟩
  case h_17 xs ts =>
    simp only [opOk, opVal] at ho ⊢
    obtain ⟨h1, h2, h3⟩ := ho
    have ex := he (xs.getD 0 default) (by
      simp only [Op.operands, Call.operands]
      have : 0 < xs.size := by omega
      simp [Array.getD, this])
    have ey := he (xs.getD 1 default) (by
      simp only [Op.operands, Call.operands]
      have : 1 < xs.size := by omega
      simp [Array.getD, this])
    rw [ex, ey]; exact ⟨⟨h1, h2, h3⟩, rfl⟩
  case h_18 xs ts =>
    simp only [opOk, opVal] at ho ⊢
    obtain ⟨h1, h2, h3⟩ := ho
    have ex := he (xs.getD 0 default) (by
      simp only [Op.operands, Call.operands]
      have : 0 < xs.size := by omega
      simp [Array.getD, this])
    have ey := he (xs.getD 1 default) (by
      simp only [Op.operands, Call.operands]
      have : 1 < xs.size := by omega
      simp [Array.getD, this])
    rw [ex, ey]; exact ⟨⟨h1, h2, h3⟩, rfl⟩
  case h_19 => cases hs
def CallStep (P : Program) (ge : GEnv) (st : St) (op : Op) (v : V) : Prop :=
  ∃ x xs ts f A C, op = .call { callee := .value x, args := xs, argTypes := ts } ∧ ev ge st.tm x = .fn (.func f) A C ∧ PCall P ge f (A ++ xs.toList.map (ev ge st.tm) ++ C) v ∧
    V.isFs (A ++ xs.toList.map (ev ge st.tm) ++ C) = true ∧ v.plain = true
/-- A slice that is built frozen. -/
def LitStep (P : Program) (ge : GEnv) (st : St) (op : Op) (v : V) : Prop :=
  ∃ T len parts, op = .buildSlice T len parts ∧ bsOk P ge st T len parts ∧ v = .vec (rowsV (List.replicate len (zeroD P (elemOf P T))) (partsV ge st.tm parts.toList)) len
def Core (P : Program) (ge : GEnv) (st : St) (op : Op) (v : V) : Prop := (stillOp op = true ∧ opOk P ge st op ∧ v = (opVal P ge st op).1) ∨ CallStep P ge st op v ∨ LitStep P ge st op v ∨ SeenStep P ge st op v
/-- An operation that leaves a value and nothing else. -/
def PStep (P : Program) (ge : GEnv) (ops : Array Oper) (st : St) (o : Oper) (v : V) : Prop := match o.guard with
  | none => Core P ge st o.op v
  | some (j, want) => ∃ dj, gdst ops j = some dj ∧ dj < st.n ∧ gOk (lk st.tm dj) = true ∧ (gB (lk st.tm dj) want = true → Core P ge st o.op v) ∧ (gB (lk st.tm dj) want = false → v = .void)
theorem Core.congr {op : Op} {v : V} (hh : st'.h = st.h) (he : ∀ x ∈ op.operands, ev ge st'.tm x = ev ge st.tm x) (hc : Core P ge st op v) : Core P ge st' op v := by
  rcases hc with ⟨h1, h2, h3⟩ | ⟨x, xs, ts, f, A, C, rfl, h1, h2, h3, h4⟩ | ⟨T, len, parts, rfl, h1, h2⟩ | ⟨x, xs, ts, f, args', rfl, h1, h2, h3, h4⟩
  · obtain ⟨h4, h5⟩ := op_congr h1 hh he h2
    exact .inl ⟨h1, h4, h3.trans h5.symm⟩
  · have e1 : xs.toList.map (ev ge st'.tm) = xs.toList.map (ev ge st.tm) := List.map_congr_left fun y hy => he y (by simp [Op.operands, Call.operands]; right; simpa using hy)
    refine .inr (.inl ⟨x, xs, ts, f, A, C, rfl, ?_, ?_, ?_, h4⟩)
    · rw [he x (by simp [Op.operands, Call.operands])]; exact h1
    · rw [e1]; exact h2
    · rw [e1]; exact h3
  · have e1 : partsV ge st'.tm parts.toList = partsV ge st.tm parts.toList := partsV_congr _ fun x hx => he x.2 (by simp only [Op.operands]; simp; exact ⟨x.1, by simpa using hx⟩)
    refine .inr (.inr (.inl ⟨T, len, parts, rfl, ?_, by rw [e1]; exact h2⟩))
    unfold bsOk at h1 ⊢
    rw [e1]; exact h1
  · have e1 : xs.toList.map (ev ge st'.tm) = xs.toList.map (ev ge st.tm) := List.map_congr_left fun y hy => he y (by simp [Op.operands, Call.operands]; right; simpa using hy)
    refine .inr (.inr (.inr ⟨x, xs, ts, f, args', rfl, ?_, h2, ?_, h4⟩))
    · rw [he x (by simp [Op.operands, Call.operands])]; exact h1
    · rw [e1, hh]; exact h3
theorem ev_congr {o : Oper} (h : ∀ t ∈ o.looksAt ops, lk st'.tm t = lk st.tm t) : ∀ x ∈ o.op.operands, ev ge st'.tm x = ev ge st.tm x := by
  intro x hx
  cases x with
  | tmp t =>
    refine h t ?_
    unfold Oper.looksAt
    exact List.mem_append_left _ (List.mem_filterMap.2 ⟨.tmp t, by simpa using hx, rfl⟩)
  | const _ => rfl
  | global _ => rfl
  | func _ => rfl
theorem PStep.congr {o : Oper} {v : V} (hn : st'.n = st.n) (hh : st'.h = st.h) (he : ∀ t ∈ o.looksAt ops, lk st'.tm t = lk st.tm t) (hc : PStep P ge ops st o v) : PStep P ge ops st' o v := by
  have hev := ev_congr (ge := ge) he
  unfold PStep at hc ⊢
  split at hc
  · exact hc.congr hh hev
  · rename_i j want hg
    obtain ⟨dj, h1, h2, h3, h4, h5⟩ := hc
    have hl : lk st'.tm dj = lk st.tm dj := he dj (by
      unfold Oper.looksAt
      refine List.mem_append_right _ ?_
      rw [hg]
      unfold gdst at h1
      simp only [h1]; simp)
    refine ⟨dj, h1, by rw [hn]; exact h2, by rw [hl]; exact h3, fun h => (h4 (by rw [← hl]; exact h)).congr hh hev, fun h => h5 (by rw [← hl]; exact h)⟩
theorem Core.sound {o : Oper} {rest : List Oper} {v : V} (hg : o.guard = none) (hd : dstOk st.n o.dst = true) (hc : Core P ge st o.op v) (h : AS P ge ops rest Q { st with tm := putD o.dst v st.tm }) : AS P ge ops (o :: rest) Q st := by
  rcases hc with ⟨h1, h2, rfl⟩ | ⟨x, xs, ts, f, A, C, h0, h1, h2, h3, h4⟩ | ⟨T, len, parts, h0, h1, rfl⟩ | ⟨x, xs, ts, f, args', h0, h1, h2, h3, h4, h5⟩
  · have := opS_of_ok (P := P) (ge := ge) (st := st) (d := o.dst) (t := o.type) (p := o.pos) (af := o.after) (g := o.guard) h2
    rw [still_spec h1] at this
    exact AS_op hg hd this h
  · obtain ⟨d, op, t, p, af, g⟩ := o
    simp only at h0 hg hd h
    subst h0; subst hg
    exact AS_pcall h1 hd h2 h3 h4 h
  · obtain ⟨d, op, t, p, af, g⟩ := o
    simp only at h0 hg hd h
    subst h0; subst hg
    exact AS_op rfl hd (S_bsOk h1) h
  · obtain ⟨d, op, t, p, af, g⟩ := o
    simp only at h0 hg hd h
    subst h0; subst hg
    exact AS_scall h1 hd h2 (by simpa using h3) h4 h5 h
theorem PStep.sound {o : Oper} {rest : List Oper} {v : V} (hd : dstOk st.n o.dst = true) (hc : PStep P ge ops st o v) (h : AS P ge ops rest Q { st with tm := putD o.dst v st.tm }) : AS P ge ops (o :: rest) Q st := by
  unfold PStep at hc
  split at hc
  · rename_i hg; exact hc.sound hg hd h
  · rename_i j want hg
    obtain ⟨dj, h1, h2, h3, h4, h5⟩ := hc
    refine AS_guard_cases hg h1 h2 h3 hd (fun hb => (h4 hb).sound (o := { o with guard := none }) rfl hd h) (fun hb => ?_)
    rw [h5 hb] at h; exact h
/-- A run of pure operations, in order: what they leave. -/
def Run (P : Program) (ge : GEnv) (ops : Array Oper) : St → List Oper → List V → Prop
  | _, [], [] => True
  | st, o :: r, v :: vs => dstOk st.n o.dst = true ∧ PStep P ge ops st o v ∧ Run P ge ops { st with tm := putD o.dst v st.tm } r vs
  | _, _, _ => False
def fin (st : St) : List Oper → List V → St
  | o :: r, v :: vs => fin { st with tm := putD o.dst v st.tm } r vs
  | _, _ => st
theorem Run.len : ∀ {l : List Oper} {vs : List V} {st : St}, Run P ge ops st l vs → vs.length = l.length
  | [], [], _, _ => rfl
  | [], _ :: _, _, h => h.elim
  | _ :: _, [], _, h => h.elim
  | o :: r, v :: vs, st, h => by simp [Run.len h.2.2]
theorem fin_n : ∀ (l : List Oper) (vs : List V) (st : St), (fin st l vs).n = st.n ∧ (fin st l vs).h = st.h
  | [], _, _ => ⟨rfl, rfl⟩
  | _ :: _, [], _ => ⟨rfl, rfl⟩
  | o :: r, v :: vs, st => by simp only [fin]; exact fin_n r vs _
theorem lk_putD {d : Option Tmp} {v : V} {tm : List (Nat × V)} {t : Nat} : lk (putD d v tm) t = if d = some t then v else lk tm t := by
  cases d with
  | none => simp [putD]
  | some u => simp [putD, lk]
theorem fin_old : ∀ (l : List Oper) (vs : List V) (st : St) (t : Nat), (∀ o ∈ l, o.dst ≠ some t) → lk (fin st l vs).tm t = lk st.tm t
  | [], _, _, _, _ => rfl
  | _ :: _, [], _, _, _ => rfl
  | o :: r, v :: vs, st, t, h => by
    simp only [fin]
    rw [fin_old r vs _ t fun o ho => h o (List.mem_cons_of_mem _ ho), lk_putD, if_neg (h o (List.mem_cons_self ..))]
def Apart (l : List Oper) : Prop := ∀ (i j : Nat) (o o' : Oper) (t : Nat), i < j → l[i]? = some o → l[j]? = some o' → o.dst = some t → o'.dst ≠ some t
theorem Apart.tail {o : Oper} {l : List Oper} (h : Apart (o :: l)) : Apart l := fun i j a b t hij h1 h2 => h (i + 1) (j + 1) a b t (by omega) (by simpa using h1) (by simpa using h2)
theorem fin_new : ∀ (l : List Oper) (vs : List V) (st : St) (i : Nat) (o : Oper) (t : Nat), vs.length = l.length → Apart l → l[i]? = some o → o.dst = some t → lk (fin st l vs).tm t = vs.getD i .junk
  | [], _, _, _, _, _, _, _, h, _ => by simp at h
  | _ :: _, [], _, _, _, _, h, _, _, _ => by simp at h
  | o :: r, v :: vs, st, 0, o', t, hl, ha, ho, hd => by
    simp at ho; subst ho
    simp only [fin]
    rw [fin_old r vs _ t ?_, lk_putD, if_pos hd]
    · simp
    · intro o' ho'
      obtain ⟨j, hj⟩ := List.getElem?_of_mem ho'
      exact ha 0 (j + 1) o o' t (by omega) (by simp) (by simpa using hj) hd
  | o :: r, v :: vs, st, i + 1, o', t, hl, ha, ho, hd => by
    simp only [fin]
    rw [fin_new r vs _ i o' t (by simpa using hl) ha.tail (by simpa using ho) hd]
    simp
theorem Run.at : ∀ {l : List Oper} {vs : List V} {st : St} {i : Nat} {o : Oper}, Run P ge ops st l vs → l[i]? = some o →
    PStep P ge ops (fin st (l.take i) (vs.take i)) o (vs.getD i .junk) ∧ dstOk st.n o.dst = true
  | [], _, _, _, _, _, h => by simp at h
  | _ :: _, [], _, _, _, h, _ => h.elim
  | o :: r, v :: vs, st, 0, o', h, ho => by
    simp at ho; subst ho
    simp only [List.take_zero, fin]
    exact ⟨by simpa using h.2.1, h.1⟩
  | o :: r, v :: vs, st, i + 1, o', h, ho => by
    obtain ⟨h1, h2⟩ := Run.at (i := i) h.2.2 (by simpa using ho)
    simp only [List.take_succ_cons, fin]
    exact ⟨by simpa using h1, h2⟩
end
end Go.AM
end

section
set_option linter.unusedVariables false
set_option linter.unusedSimpArgs false
namespace Go.AM
def beforeB (o : Oper) (i : Nat) : Bool := o.after.toList.any fun e => Region.binds .any e && e.on == i
def binders (o : Oper) : List Nat := (o.after.toList.filter fun e => Region.binds .any e).map (·.on)
/-- All that lies ahead is waited for, be it through others. -/
def tailOk (l : List Oper) : Nat → List Nat → Bool
  | 0, _ => true
  | i + 1, S => S.contains i && tailOk l i ((match l[i]? with | some o => binders o | none => []) ++ S)
/-- One operation of a region against the others, the first k being pure. -/
def drawOk1 (ops : Array Oper) (l : List Oper) (k j : Nat) : Bool := match l[j]? with
  | none => true
  | some oj => (oj.after.toList.all fun e => !Region.binds .any e || decide (e.on < j)) &&
    if k ≤ j then tailOk l j (binders oj) else
      (List.range k).all fun i => match l[i]? with
        | none => true
        | some oi => match oi.dst with
          | none => true
          | some d => i == j || (oj.dst != some d && (!(oj.looksAt ops).contains d || beforeB oj i || beforeB oi j))
def drawOk (ops : Array Oper) (k : Nat) : Bool := (List.range ops.toList.length).all fun j => drawOk1 ops ops.toList k j
theorem beforeB_spec {o : Oper} {i : Nat} (h : beforeB o i = true) : ∃ e ∈ o.after, Region.binds .any e = true ∧ e.on = i := by
  simp only [beforeB, List.any_eq_true, Bool.and_eq_true, beq_iff_eq] at h
  obtain ⟨e, h1, h2, h3⟩ := h
  exact ⟨e, by simpa using h1, h2, h3⟩
theorem mem_binders {o : Oper} {i : Nat} : i ∈ binders o ↔ ∃ e ∈ o.after, Region.binds .any e = true ∧ e.on = i := by
  simp only [binders, List.mem_map, List.mem_filter]
  constructor
  · rintro ⟨e, ⟨h1, h2⟩, h3⟩; exact ⟨e, by simpa using h1, h2, h3⟩
  · rintro ⟨e, h1, h2, h3⟩; exact ⟨e, ⟨by simpa using h1, h2⟩, h3⟩
theorem tail_listed {ops : Array Oper} {L : Nat → Prop} (hc : ∀ (j : Nat) (o : Oper), ops[j]? = some o → L j → ∀ e ∈ o.after, Region.binds .any e = true → L e.on) {o : Oper} {j : Nat}
    (ho : ∀ e ∈ o.after, Region.binds .any e = true → L e.on) (h : tailOk ops.toList j (binders o) = true) : ∀ i, i < j → L i := by
  have key : ∀ (j : Nat) (S : List Nat), (∀ x ∈ S, L x) → tailOk ops.toList j S = true → ∀ i, i < j → L i := by
    intro j
    induction j with
    | zero => intro S _ _ i hi; omega
    | succ j ih =>
      intro S hS h i hi
      rw [tailOk, Bool.and_eq_true] at h
      have hj : L j := hS j (by simpa using h.1)
      by_cases e : i = j
      · subst e; exact hj
      · refine ih _ (fun x hx => ?_) h.2 i (by omega)
        rcases List.mem_append.1 hx with hx | hx
        · cases hl : ops.toList[j]? with
          | none => rw [hl] at hx; cases hx
          | some o' =>
            rw [hl] at hx
            obtain ⟨e, he, hb, rfl⟩ := mem_binders.1 hx
            exact hc j o' (by simpa using hl) hj e he hb
        · exact hS x hx
  refine key j _ (fun x hx => ?_) h
  obtain ⟨e, he, hb, rfl⟩ := mem_binders.1 hx
  exact ho e he hb
structure DrawOk (ops : Array Oper) (k : Nat) : Prop where
  down : ∀ (j : Nat) (o : Oper), ops[j]? = some o → ∀ e ∈ o.after, Region.binds .any e = true → e.on < j
  tail : ∀ (j : Nat) (o : Oper), ops[j]? = some o → k ≤ j → tailOk ops.toList j (binders o) = true
  apart : ∀ (i j : Nat) (oi oj : Oper) (d : Tmp), i < k → j < k → i ≠ j → ops[i]? = some oi → ops[j]? = some oj → oi.dst = some d →
    oj.dst ≠ some d ∧ (d ∈ oj.looksAt ops → beforeB oj i = true ∨ beforeB oi j = true)
theorem drawOk_spec {ops : Array Oper} {k : Nat} (h : drawOk ops k = true) : DrawOk ops k := by
  have h1 : ∀ (j : Nat) (o : Oper), ops[j]? = some o → drawOk1 ops ops.toList k j = true := fun j o hj => by
    have hlt : j < ops.toList.length := by simpa using (Array.getElem?_eq_some_iff.1 hj).1
    exact List.all_eq_true.1 h j (List.mem_range.2 hlt)
  refine ⟨fun j o hj e he hb => ?_, fun j o hj hk => ?_, fun i j oi oj d hi hj hij hoi hoj hd => ?_⟩
  · have := h1 j o hj
    unfold drawOk1 at this
    rw [show ops.toList[j]? = some o by simpa using hj] at this
    simp only [Bool.and_eq_true, List.all_eq_true, Bool.or_eq_true, Bool.not_eq_true', decide_eq_true_eq] at this
    exact (this.1 e (by simpa using he)).resolve_left (by simp [hb])
  · have := h1 j o hj
    unfold drawOk1 at this
    rw [show ops.toList[j]? = some o by simpa using hj] at this
    simp only [Bool.and_eq_true, if_pos hk] at this
    exact this.2
  · have := h1 j oj hoj
    unfold drawOk1 at this
    rw [show ops.toList[j]? = some oj by simpa using hoj] at this
    simp only [Bool.and_eq_true, if_neg (Nat.not_le.2 hj), List.all_eq_true, List.mem_range] at this
    have := this.2 i hi
    rw [show ops.toList[i]? = some oi by simpa using hoi] at this
    simp only [hd, Bool.or_eq_true, beq_iff_eq, hij, false_or, Bool.and_eq_true, bne_iff_ne, ne_eq, Bool.not_eq_true', List.contains_eq_mem, decide_eq_false_iff_not] at this
    refine ⟨this.1, fun hm => ?_⟩
    rcases this.2 with (h | h) | h
    · exact absurd hm h
    · exact .inl h
    · exact .inr h
def unl (ops : Array Oper) (listed : Array Bool) : Nat := ((List.range ops.size).filter fun j => !listed.getD j true).length
theorem filter_lt {α : Type} {p q : α → Bool} {i : α} (h1 : p i = true) (h2 : q i = false) : ∀ (l : List α), (∀ x ∈ l, q x = true → p x = true) → i ∈ l → (l.filter q).length < (l.filter p).length
  | [], _, h => by simp at h
  | x :: r, hs, h => by
    have hr := fun y hy => hs y (List.mem_cons_of_mem _ hy)
    have hle : ∀ (l : List α), (∀ x ∈ l, q x = true → p x = true) → (l.filter q).length ≤ (l.filter p).length := fun l => by
      induction l with
      | nil => intro _; simp
      | cons y t ih =>
        intro ht
        have := ih fun z hz => ht z (List.mem_cons_of_mem _ hz)
        have hy := ht y (List.mem_cons_self ..)
        cases hq : q y <;> cases hp : p y <;> simp_all <;> omega
    rcases List.mem_cons.1 h with rfl | h
    · have := hle r hr
      simp [h1, h2]; omega
    · have := filter_lt h1 h2 r hr h
      have hx := hs x (List.mem_cons_self ..)
      cases hq : q x <;> cases hp : p x <;> simp_all <;> omega
theorem unl_set {ops : Array Oper} {listed : Array Bool} {i : Nat} (hi : i < ops.size) (hs : listed.size = ops.size) (hl : listed.getD i true = false) : unl ops (listed.setIfInBounds i true) < unl ops listed := by
  unfold unl
  refine filter_lt (i := i) (by simp [hl]) (by simp [Array.getD, hs, hi]) _ (fun x _ hx => ?_) (List.mem_range.2 hi)
  simp only [Bool.not_eq_true'] at hx ⊢
  by_cases hxi : i = x
  · subst hxi; exact hl
  · rwa [getD_set_ne _ hxi] at hx
theorem getD_tf {listed : Array Bool} {i n : Nat} (hs : listed.size = n) (hi : i < n) : listed.getD i true = listed.getD i false := by
  simp [Array.getD, hs, hi]
section
variable {P : Program} {ge : GEnv} {st : St} {Q : Exit → St → Prop} {ops : Array Oper}
/-- Where all that is listed is the region's beginning, and each later operation waits for all ahead of it. -/
theorem wpAny_tail {Qc : Exit → Act → World → Prop} {k : Nat} (hd : DrawOk ops k) : ∀ (fuel : Nat) (listed : Array Bool) (j : Nat) (a : Act) (w : World), k ≤ j → listed.size = ops.size → unl ops listed ≤ fuel →
    (∀ i, i < ops.size → (listed.getD i false = true ↔ i < j)) → wpList P ops Qc (ops.toList.drop j) a w → wpAny P .any ops Qc fuel listed a w := by
  intro fuel
  induction fuel with
  | zero =>
    intro listed j a w hk hs hf hl h
    have hall : ∀ i, i < ops.size → listed.getD i false = true := fun i hi => by
      have : ((List.range ops.size).filter fun j => !listed.getD j true) = [] := List.eq_nil_of_length_eq_zero (Nat.le_zero.1 hf)
      have := List.filter_eq_nil_iff.1 this i (List.mem_range.2 hi)
      rw [← getD_tf hs hi]; simpa using this
    have hj : ops.size ≤ j := by
      rcases Nat.lt_or_ge j ops.size with h1 | h1
      · have := (hl j h1).1 (hall j h1); omega
      · exact h1
    rw [List.drop_eq_nil_of_le (by simpa using hj)] at h
    refine ⟨?_, h⟩
    rw [List.eq_nil_iff_forall_not_mem]
    intro i hi
    obtain ⟨h1, o, h2, _⟩ := mem_ready.1 hi
    have hlt := (Array.getElem?_eq_some_iff.1 h2).1
    rw [getD_tf hs hlt, hall i hlt] at h1; cases h1
  | succ fuel ih =>
    intro listed j a w hk hs hf hl h
    have hready : ∀ i, i ∈ Region.ready .any ops listed → i = j ∧ i < ops.size := fun i hi => by
      obtain ⟨h1, o, h2, h3⟩ := mem_ready.1 hi
      have hlt := (Array.getElem?_eq_some_iff.1 h2).1
      rw [getD_tf hs hlt] at h1
      have hij : j ≤ i := by
        rcases Nat.lt_or_ge i j with h4 | h4
        · rw [(hl i hlt).2 h4] at h1; cases h1
        · exact h4
      refine ⟨?_, hlt⟩
      rcases Nat.lt_or_ge j i with h4 | h4
      · have hlj : ∀ x, listed.getD x false = true → x < j := fun x hx => by
          rcases Nat.lt_or_ge x ops.size with h5 | h5
          · exact (hl x h5).1 hx
          · simp [Array.getD, hs, Nat.not_lt.2 h5] at hx
        have hlt' := tail_listed (L := fun x => x < j) (fun x ox hox hx e he hb => by have := hd.down x ox hox e he hb; omega) (fun e he hb => hlj _ (h3 e he hb)) (hd.tail i o h2 (by omega)) j h4
        omega
      · omega
    refine ⟨fun hr => ?_, fun i hi => ?_⟩
    · have hj : ops.size ≤ j := by
        rcases Nat.lt_or_ge j ops.size with h1 | h1
        · have : j ∈ Region.ready .any ops listed := by
            refine mem_ready.2 ⟨?_, ops[j], by simp [h1], fun e he hb => ?_⟩
            · rw [getD_tf hs h1]
              cases hh : listed.getD j false
              · rfl
              · have := (hl j h1).1 hh; omega
            · have := hd.down j ops[j] (by simp [h1]) e he hb
              exact (hl e.on (by omega)).2 this
          rw [hr] at this; cases this
        · exact h1
      rw [List.drop_eq_nil_of_le (by simpa using hj)] at h
      exact h
    · obtain ⟨rfl, hlt⟩ := hready i hi
      have hoi : ops[i]? = some ops[i] := by simp [hlt]
      have hdrop : ops.toList.drop i = ops[i] :: ops.toList.drop (i + 1) := by
        rw [List.drop_eq_getElem_cons (by simpa using hlt)]; simp
      rw [hdrop] at h
      have hl1 : listed.getD i true = false := (mem_ready.1 hi).1
      have hnext : ∀ a w, wpList P ops Qc (ops.toList.drop (i + 1)) a w → wpAny P .any ops Qc fuel (listed.setIfInBounds i true) a w := fun a w hw => by
        refine ih _ (i + 1) a w (by omega) (by simp [hs]) (by have := unl_set hlt hs hl1; omega) (fun x hx => ?_) hw
        by_cases hxi : i = x
        · subst hxi
          simp [Array.getD, hs, hx]
        · rw [getD_set_ne _ hxi, hl x hx]; omega
      unfold wpOp
      rw [hoi]
      unfold wpList at h
      simp only
      split
      · rename_i hw
        rw [if_pos hw] at h
        exact h.imp (Oper.wp_mono hnext) id
      · rename_i hw
        rw [if_neg hw] at h
        exact hnext _ _ h
end
end Go.AM
end

section
set_option linter.unusedVariables false
set_option linter.unusedSimpArgs false
namespace Go.AM
section
variable {P : Program} {ge : GEnv} {st : St} {Q : Exit → St → Prop} {ops : Array Oper}
theorem Rep.same {G : Gh} {s s' : St} {a : Act} {w : World} (hr : Rep P ge G s a w) (hn : s'.n = s.n) (hh : s'.h = s.h) (ht : ∀ t, lk s'.tm t = lk s.tm t) : Rep P ge G s' a w :=
  ⟨by rw [hh]; exact hr.rh, fun t => by rw [ht]; exact hr.tm t, by rw [hn]; exact hr.n, hr.d⟩
structure DInv (ops : Array Oper) (k : Nat) (st0 : St) (vs : List V) (listed : Array Bool) (S : St) : Prop where
  n : S.n = st0.n
  h : S.h = st0.h
  one : ∀ (i : Nat) (o : Oper) (t : Nat), i < k → ops[i]? = some o → o.dst = some t → listed.getD i false = true → lk S.tm t = vs.getD i .junk
  old : ∀ (t : Nat), (∀ (i : Nat) (o : Oper), i < k → ops[i]? = some o → listed.getD i false = true → o.dst ≠ some t) → lk S.tm t = lk st0.tm t
  closed : ∀ (j : Nat) (o : Oper), ops[j]? = some o → listed.getD j false = true → ∀ e ∈ o.after, Region.binds .any e = true → listed.getD e.on false = true
  size : listed.size = ops.size
theorem take_get {ops : Array Oper} {k i : Nat} {o : Oper} (hi : i < k) (h : ops[i]? = some o) : (ops.toList.take k)[i]? = some o := by
  rw [List.getElem?_take_of_lt hi]; simpa using h
theorem get_take {ops : Array Oper} {k i : Nat} {o : Oper} (h : (ops.toList.take k)[i]? = some o) : i < k ∧ ops[i]? = some o := by
  rw [List.getElem?_take] at h
  split at h
  · rename_i hi; exact ⟨hi, by simpa using h⟩
  · cases h
theorem apart_take {k : Nat} (hd : DrawOk ops k) : Apart (ops.toList.take k) := fun i j o o' t hij h1 h2 hdst => by
  obtain ⟨a1, a2⟩ := get_take h1
  obtain ⟨b1, b2⟩ := get_take h2
  exact (hd.apart i j o o' t a1 b1 (by omega) a2 b2 hdst).1
theorem apart_mono {l : List Oper} (h : Apart l) (m : Nat) : Apart (l.take m) := fun i j o o' t hij h1 h2 => by
  rw [List.getElem?_take] at h1 h2
  split at h1 <;> split at h2 <;> first | exact h i j o o' t hij h1 h2 | (cases h1; done) | (cases h2; done)
/-- What is looked at is the same as in order. -/
theorem DInv.look {k : Nat} {st0 S : St} {vs : List V} {listed : Array Bool} (hd : DrawOk ops k) (hrun : Run P ge ops st0 (ops.toList.take k) vs) (hI : DInv ops k st0 vs listed S)
    {i : Nat} {o : Oper} (hi : i < k) (ho : ops[i]? = some o) (hready : i ∈ Region.ready .any ops listed) :
    ∀ t ∈ o.looksAt ops, lk S.tm t = lk (fin st0 ((ops.toList.take k).take i) (vs.take i)).tm t := by
  intro t ht
  obtain ⟨hni, o', ho', haft⟩ := mem_ready.1 hready
  rw [ho] at ho'; cases ho'
  have hlt := (Array.getElem?_eq_some_iff.1 ho).1
  rw [getD_tf hI.size hlt] at hni
  have hap := apart_take hd
  by_cases hw : ∃ j oj, j < i ∧ ops[j]? = some oj ∧ oj.dst = some t
  · obtain ⟨j, oj, hji, hoj, hdst⟩ := hw
    have hb := (hd.apart j i oj o t (by omega) hi (by omega) hoj ho hdst).2 ht
    have hl : listed.getD j false = true := by
      rcases hb with hb | hb
      · obtain ⟨e, he, hbi, rfl⟩ := beforeB_spec hb
        exact haft e he hbi
      · obtain ⟨e, he, hbi, rfl⟩ := beforeB_spec hb
        have := hd.down j oj hoj e he hbi
        omega
    rw [hI.one j oj t (by omega) hoj hdst hl]
    have h1 : ((ops.toList.take k).take i)[j]? = some oj := by rw [List.getElem?_take_of_lt hji]; exact take_get (by omega) hoj
    rw [fin_new _ _ _ j oj t (by simp [hrun.len]) (apart_mono hap i) h1 hdst]
    simp [List.getD, List.getElem?_take_of_lt hji]
  · have h1 : lk (fin st0 ((ops.toList.take k).take i) (vs.take i)).tm t = lk st0.tm t := by
      refine fin_old _ _ _ t fun x hx hdx => ?_
      obtain ⟨j, hj⟩ := List.getElem?_of_mem hx
      rw [List.getElem?_take] at hj
      split at hj
      · rename_i hji
        exact hw ⟨j, x, hji, (get_take hj).2, hdx⟩
      · cases hj
    rw [h1]
    refine hI.old t fun j oj hjk hoj hlj hdst => ?_
    rcases Nat.lt_trichotomy j i with h2 | h2 | h2
    · exact hw ⟨j, oj, h2, hoj, hdst⟩
    · subst h2; rw [hni] at hlj; cases hlj
    · rcases (hd.apart j i oj o t hjk hi (by omega) hoj ho hdst).2 ht with hb | hb
      · obtain ⟨e, he, hbi, rfl⟩ := beforeB_spec hb
        have := hd.down i o ho e he hbi
        omega
      · obtain ⟨e, he, hbi, rfl⟩ := beforeB_spec hb
        rw [hI.closed j oj hoj hlj e he hbi] at hni; cases hni
theorem DInv.fin {k : Nat} {st0 S : St} {vs : List V} {listed : Array Bool} (hd : DrawOk ops k) (hrun : Run P ge ops st0 (ops.toList.take k) vs) (hI : DInv ops k st0 vs listed S)
    (hall : ∀ i, i < k → i < ops.size → listed.getD i false = true) : ∀ t, lk (fin st0 (ops.toList.take k) vs).tm t = lk S.tm t := by
  intro t
  by_cases hw : ∃ i o, i < k ∧ ops[i]? = some o ∧ o.dst = some t
  · obtain ⟨i, o, hi, ho, hdst⟩ := hw
    rw [hI.one i o t hi ho hdst (hall i hi (Array.getElem?_eq_some_iff.1 ho).1)]
    exact fin_new _ _ _ i o t hrun.len (apart_take hd) (take_get hi ho) hdst
  · rw [hI.old t fun i o hi ho _ hdst => hw ⟨i, o, hi, ho, hdst⟩]
    refine fin_old _ _ _ t fun x hx hdx => ?_
    obtain ⟨j, hj⟩ := List.getElem?_of_mem hx
    obtain ⟨h1, h2⟩ := get_take hj
    exact hw ⟨j, x, h1, h2, hdx⟩
theorem wpOp_of_AS {G : Gh} {S S' : St} {a : Act} {w : World} {o : Oper} {i : Nat} {Qc : Exit → Act → World → Prop} {K : Act → World → Prop} (ho : ops[i]? = some o)
    (h : AS P ge ops [o] (fun e s => e = .normal ∧ s = S') S) (hr : Rep P ge G S a w) (hK : ∀ G' a' w', Rep P ge G' S' a' w' → Ext G S.h w G' S'.h w' → K a' w') : wpOp P ops Qc i K a w := by
  have h1 := h G a w hr
  have hk : ∀ a' w', wpList P ops (CPost P ge (fun e s => e = .normal ∧ s = S') G S.h w) [] a' w' → K a' w' := fun a' w' h => by
    unfold wpList at h
    obtain ⟨G', s, ⟨_, rfl⟩, r, x⟩ := h
    exact hK G' a' w' r x
  have hq : ∀ e a' w', e ≠ .normal → ¬ CPost P ge (fun e s => e = .normal ∧ s = S') G S.h w e a' w' := fun e a' w' hne ⟨_, _, ⟨h, _⟩, _⟩ => hne h
  unfold wpOp
  rw [ho]
  unfold wpList at h1
  simp only
  split
  · rename_i hw
    rw [if_pos hw] at h1
    rcases h1 with h1 | ⟨_, a0, w0, h1⟩
    · refine .inl ?_
      unfold Oper.wp at h1 ⊢
      generalize (execOp a.eval o).run P w = r at *
      cases r with
      | ok n w' =>
        cases n <;> simp only [Oper.upon] at h1 ⊢ <;> first
          | exact hk _ _ h1
          | exact Calls.mono h1 (fun e w'' he => by
              cases e <;> first
                | exact hk _ _ he
                | exact absurd he (hq _ _ _ (by simp))
                | (obtain ⟨_, _, he⟩ := he; exact absurd he (hq _ _ _ (by simp))))
          | exact Rows.mono h1 (fun _ _ he => hk _ _ he)
      | halt x w' => cases x <;> simp only [Oper.upon] at h1 ⊢ <;> exact absurd h1 (hq _ _ _ (by simp))
    · exact absurd h1 (hq _ _ _ (by simp))
  · rename_i hw
    rw [if_neg hw] at h1
    exact hk _ _ h1
theorem wpAny_draw {k : Nat} {st0 : St} {vs : List V} {G0 : Gh} {w0 : World} (hd : DrawOk ops k) (hrun : Run P ge ops st0 (ops.toList.take k) vs) (htail : AS P ge ops (ops.toList.drop k) Q (fin st0 (ops.toList.take k) vs)) :
    ∀ (fuel : Nat) (listed : Array Bool) (S : St) (G : Gh) (a : Act) (w : World), DInv ops k st0 vs listed S → unl ops listed ≤ fuel → (∀ j, k ≤ j → j < ops.size → listed.getD j false = false) →
      Rep P ge G S a w → Ext G0 st0.h w0 G S.h w → wpAny P .any ops (CPost P ge Q G0 st0.h w0) fuel listed a w := by
  intro fuel
  induction fuel with
  | zero =>
    intro listed S G a w hI hf hk hr hx
    have hall : ∀ i, i < ops.size → listed.getD i false = true := fun i hi => by
      have : ((List.range ops.size).filter fun j => !listed.getD j true) = [] := List.eq_nil_of_length_eq_zero (Nat.le_zero.1 hf)
      have := List.filter_eq_nil_iff.1 this i (List.mem_range.2 hi)
      rw [← getD_tf hI.size hi]; simpa using this
    have hs := hI.fin hd hrun fun i _ hi => hall i hi
    have h1 := htail G a w (hr.same (by rw [(fin_n _ _ _).1, hI.n]) (by rw [(fin_n _ _ _).2, hI.h]) hs)
    rw [(fin_n _ _ _).2, ← hI.h] at h1
    have hks : ops.size ≤ k := by
      rcases Nat.lt_or_ge k ops.size with h2 | h2
      · have := hk k (Nat.le_refl _) h2; rw [hall k h2] at this; cases this
      · exact h2
    refine wpAny_tail hd 0 listed k a w (Nat.le_refl _) hI.size hf (fun i hi => ⟨fun _ => by omega, fun _ => hall i hi⟩) ?_
    exact wpList_mono' (fun _ _ _ hp => hp.mono hx fun _ _ h => h) h1
  | succ fuel ih =>
    intro listed S G a w hI hf hk hr hx
    by_cases hall : ∀ i, i < k → i < ops.size → listed.getD i false = true
    · have hs := hI.fin hd hrun hall
      have h1 := htail G a w (hr.same (by rw [(fin_n _ _ _).1, hI.n]) (by rw [(fin_n _ _ _).2, hI.h]) hs)
      rw [(fin_n _ _ _).2, ← hI.h] at h1
      refine wpAny_tail hd (fuel + 1) listed k a w (Nat.le_refl _) hI.size hf (fun i hi => ⟨fun h => ?_, fun h => hall i h hi⟩) (wpList_mono' (fun _ _ _ hp => hp.mono hx fun _ _ h => h) h1)
      rcases Nat.lt_or_ge i k with h2 | h2
      · exact h2
      · rw [hk i h2 hi] at h; cases h
    · have hlow : ∀ i, i ∈ Region.ready .any ops listed → i < k := fun i hi => by
        rcases Nat.lt_or_ge i k with h2 | h2
        · exact h2
        · exfalso
          refine hall fun j hj hjs => ?_
          obtain ⟨h1, o, h3, h4⟩ := mem_ready.1 hi
          exact tail_listed (L := fun x => listed.getD x false = true) hI.closed h4 (hd.tail i o h3 h2) j (by omega)
      refine ⟨fun hrdy => ?_, fun i hi => ?_⟩
      · exfalso
        -- the first one that is not listed is ready
        have key : ∀ (m : Nat) (i : Nat), i < m → i < ops.size → listed.getD i false = true := by
          intro m
          induction m with
          | zero => intro i hi; omega
          | succ m ihm =>
            intro i hi hs
            rcases Nat.lt_or_ge i m with h1 | h1
            · exact ihm i h1 hs
            · have him : i = m := by omega
              subst him
              cases hh : listed.getD i false
              · have : i ∈ Region.ready .any ops listed := by
                  refine mem_ready.2 ⟨by rw [getD_tf hI.size hs]; exact hh, ops[i], by simp [hs], fun e he hb => ?_⟩
                  have := hd.down i ops[i] (by simp [hs]) e he hb
                  exact ihm e.on this (by omega)
                rw [hrdy] at this; cases this
              · rfl
        exact hall fun i hi hs => key (i + 1) i (by omega) hs
      · have hik := hlow i hi
        obtain ⟨hni, o, ho, haft⟩ := mem_ready.1 hi
        have hlt := (Array.getElem?_eq_some_iff.1 ho).1
        obtain ⟨hps, hdst⟩ := hrun.at (take_get hik ho)
        have hps' : PStep P ge ops S o (vs.getD i .junk) := hps.congr (by rw [(fin_n _ _ _).1, hI.n]) (by rw [(fin_n _ _ _).2, hI.h]) (fun t ht => hI.look hd hrun hik ho hi t ht)
        have hdst' : dstOk S.n o.dst = true := by rw [hI.n]; exact hdst
        have has : AS P ge ops [o] (fun e s => e = .normal ∧ s = { S with tm := putD o.dst (vs.getD i .junk) S.tm }) S := hps'.sound hdst' (AS_nil ⟨rfl, rfl⟩)
        refine wpOp_of_AS ho has hr fun G' a' w' hr' hx' => ?_
        refine ih _ { S with tm := putD o.dst (vs.getD i .junk) S.tm } G' a' w' ⟨hI.n, hI.h, ?_, ?_, ?_, by simp [hI.size]⟩ (by have := unl_set hlt hI.size hni; omega) ?_ hr' (hx.trans hx')
        · intro x ox t hxk hox hdx hlx
          show lk (putD o.dst _ S.tm) t = _
          rw [lk_putD]
          by_cases hxi : i = x
          · subst hxi; rw [ho] at hox; cases hox; rw [if_pos hdx]
          · rw [getD_set_ne _ hxi] at hlx
            rw [if_neg (fun hod => (hd.apart i x o ox t hik hxk hxi ho hox hod).1 hdx)]
            exact hI.one x ox t hxk hox hdx hlx
        · intro t ht
          show lk (putD o.dst _ S.tm) t = _
          rw [lk_putD, if_neg (ht i o hik ho (by simp [Array.getD, hI.size, hlt]))]
          refine hI.old t fun x ox hxk hox hlx => ht x ox hxk hox (getD_set_true hlx)
        · intro x ox hox hlx e he hb
          by_cases hxi : i = x
          · subst hxi; rw [ho] at hox; cases hox
            exact getD_set_true (haft e he hb)
          · rw [getD_set_ne _ hxi] at hlx
            exact getD_set_true (hI.closed x ox hox hlx e he hb)
        · intro j hj hjs
          rw [getD_set_ne _ (by omega)]
          exact hk j hj hjs
theorem Rep.drawn {G : Gh} {a : Act} {w : World} (hr : Rep P ge G st a w) (n : Nat) : ∃ G', Rep P ge G' st a { w with drawn := n } ∧ Ext G st.h w G' st.h { w with drawn := n } := by
  have kept : Kept G w G { w with drawn := n } := ⟨⟨Nat.le_refl _, fun _ _ => rfl, rfl, ⟨rfl, rfl⟩⟩, fun _ _ => rfl, hr.rh.fzlt⟩
  obtain ⟨h1, h2⟩ := kept.rh hr.rh
  exact ⟨_, ⟨h1, fun t => (hr.tm t).mono h2.le, hr.n, hr.d⟩, h2⟩
/-- A region that draws its order: pure operations, k of them, and a chain behind them. -/
theorem AW_region_draw {id k : Nat} {vs : List V} (hm : P.follows .mixedOrders = true) (hd : drawOk ops k = true) (hrun : Run P ge ops st (ops.toList.take k) vs) (htail : AS P ge ops (ops.toList.drop k) Q (fin st (ops.toList.take k) vs)) :
    AW P ge (.region id ops true) Q st := by
  intro G a w hr
  refine wp_region_any hm ?_
  obtain ⟨G', hr', hx⟩ := hr.drawn (w.drawn + 1)
  have hrep : ∀ i, (Array.replicate ops.size false).getD i false = false := fun i => by
    simp only [Array.getD_eq_getD_getElem?, Array.getElem?_replicate]; split <;> rfl
  refine wpAny_draw (drawOk_spec hd) hrun htail _ _ st G' a _ ⟨rfl, rfl, ?_, fun _ _ => rfl, ?_, by simp⟩ ?_ (fun j _ _ => hrep j) hr' hx
  · intro i o t _ _ _ h; rw [hrep] at h; cases h
  · intro j o _ h; rw [hrep] at h; cases h
  · unfold unl; exact Nat.le_trans (List.length_filter_le _ _) (by simp)
end
end Go.AM
end

section
set_option linter.unusedVariables false
set_option linter.unusedSimpArgs false
namespace Go.AM
section
variable {P : Program} {ge : GEnv} {st : St} {Q : Exit → St → Prop} {ops : Array Oper} {K : St → Prop}
variable {d : Option Tmp} {t : TypeId} {p : String} {af : Array Edge}
/-- A walk of pure operations. -/
def AP (P : Program) (ge : GEnv) (ops : Array Oper) (K : St → Prop) : List Oper → St → Prop
  | [], st => K st
  | o :: r, st => ∃ v, dstOk st.n o.dst = true ∧ PStep P ge ops st o v ∧ AP P ge ops K r { st with tm := putD o.dst v st.tm }
theorem AP.run : ∀ {l : List Oper} {st : St}, AP P ge ops K l st → ∃ vs, Run P ge ops st l vs ∧ K (fin st l vs)
  | [], st, h => ⟨[], trivial, h⟩
  | o :: r, st, ⟨v, h1, h2, h3⟩ =>
    let ⟨vs, h4, h5⟩ := h3.run
    ⟨v :: vs, ⟨h1, h2, h4⟩, h5⟩
mutual
def APx (P : Program) (ge : GEnv) (ops : Array Oper) (K : St → Prop) : List Oper → St → Prop
  | [], st => K st
  | o :: rest, st =>
    match o.guard with
    | none =>
      if stillOp o.op = true then
        dstOk st.n o.dst = true ∧ opOk P ge st o.op ∧ APx P ge ops K rest ⟨st.n, putD o.dst (opVal P ge st o.op).1 st.tm, st.h⟩
      else AP P ge ops K (o :: rest) st
    | some (j, want) =>
      match gdst ops j with
      | none => False
      | some dj => dj < st.n ∧ gOk (lk st.tm dj) = true ∧ dstOk st.n o.dst = true ∧ APg P ge ops K (gB (lk st.tm dj) want) o rest st
  termination_by l _ => 2 * l.length
def APg (P : Program) (ge : GEnv) (ops : Array Oper) (K : St → Prop) (b : Bool) (o : Oper) (rest : List Oper) (st : St) : Prop :=
  (b = true → if stillOp o.op = true then opOk P ge st o.op ∧ APx P ge ops K rest ⟨st.n, putD o.dst (opVal P ge st o.op).1 st.tm, st.h⟩
           else AP P ge ops K ({ o with guard := none } :: rest) st) ∧
  (b = false → APx P ge ops K rest ⟨st.n, putD o.dst .void st.tm, st.h⟩)
  termination_by 2 * rest.length + 1
end
@[simp] theorem APx_nil : APx P ge ops K [] st = K st := by rw [APx]
@[simp] theorem APx_plain {rest : List Oper} {op : Op} : APx P ge ops K (⟨d, op, t, p, af, none⟩ :: rest) st =
    if stillOp op = true then dstOk st.n d = true ∧ opOk P ge st op ∧ APx P ge ops K rest ⟨st.n, putD d (opVal P ge st op).1 st.tm, st.h⟩ else AP P ge ops K (⟨d, op, t, p, af, none⟩ :: rest) st := by rw [APx]
@[simp] theorem APx_guard {rest : List Oper} {op : Op} {j : Nat} {want : Bool} : APx P ge ops K (⟨d, op, t, p, af, some (j, want)⟩ :: rest) st =
    match gdst ops j with
    | none => False
    | some dj => dj < st.n ∧ gOk (lk st.tm dj) = true ∧ dstOk st.n d = true ∧ APg P ge ops K (gB (lk st.tm dj) want) ⟨d, op, t, p, af, some (j, want)⟩ rest st := by rw [APx]
@[simp] theorem APg_true {rest : List Oper} {op : Op} {gg : Option (Nat × Bool)} : APg P ge ops K true ⟨d, op, t, p, af, gg⟩ rest st =
    if stillOp op = true then opOk P ge st op ∧ APx P ge ops K rest ⟨st.n, putD d (opVal P ge st op).1 st.tm, st.h⟩ else AP P ge ops K (⟨d, op, t, p, af, none⟩ :: rest) st := by rw [APg]; simp
@[simp] theorem APg_false {rest : List Oper} {op : Op} {gg : Option (Nat × Bool)} : APg P ge ops K false ⟨d, op, t, p, af, gg⟩ rest st = APx P ge ops K rest ⟨st.n, putD d .void st.tm, st.h⟩ := by rw [APg]; simp
theorem APg_split {rest : List Oper} {o : Oper} {b : Bool} (h1 : b = true → APg P ge ops K true o rest st) (h2 : b = false → APg P ge ops K false o rest st) : APg P ge ops K b o rest st := by
  cases b
  · exact h2 rfl
  · exact h1 rfl
theorem APg_split_not {rest : List Oper} {o : Oper} {b : Bool} (h1 : b = false → APg P ge ops K true o rest st) (h2 : b = true → APg P ge ops K false o rest st) : APg P ge ops K (!b) o rest st := by
  cases b
  · exact h1 rfl
  · exact h2 rfl
theorem APg_split_dec {rest : List Oper} {o : Oper} {b : Prop} [Decidable b] (h1 : b → APg P ge ops K true o rest st) (h2 : ¬ b → APg P ge ops K false o rest st) : APg P ge ops K (decide b) o rest st := by
  by_cases h : b
  · rw [decide_eq_true h]; exact h1 h
  · rw [decide_eq_false h]; exact h2 h
theorem APg_split_notdec {rest : List Oper} {o : Oper} {b : Prop} [Decidable b] (h1 : ¬ b → APg P ge ops K true o rest st) (h2 : b → APg P ge ops K false o rest st) : APg P ge ops K (!decide b) o rest st :=
  APg_split_not (fun h => h1 (of_decide_eq_false h)) (fun h => h2 (of_decide_eq_true h))
theorem AP_of_APx : ∀ {l : List Oper} {st : St}, APx P ge ops K l st → AP P ge ops K l st
  | [], st, h => by rw [APx] at h; exact h
  | o :: rest, st, h => by
    rw [APx] at h
    split at h
    · rename_i hg
      split at h
      · rename_i hp
        obtain ⟨h1, h2, h3⟩ := h
        exact ⟨_, h1, by unfold PStep; rw [hg]; exact .inl ⟨hp, h2, rfl⟩, AP_of_APx h3⟩
      · exact h
    · rename_i j want hg
      split at h
      · exact h.elim
      · rename_i dj hdj
        obtain ⟨h1, h2, h3, h4⟩ := h
        rw [APg] at h4
        obtain ⟨h4, h5⟩ := h4
        cases hgb : gB (lk st.tm dj) want
        · exact ⟨.void, h3, by unfold PStep; rw [hg]; exact ⟨dj, hdj, h1, h2, fun h => (by rw [hgb] at h; cases h), fun _ => rfl⟩, AP_of_APx (h5 hgb)⟩
        · have h6 := h4 hgb
          split at h6
          · rename_i hp
            obtain ⟨h7, h8⟩ := h6
            exact ⟨_, h3, by unfold PStep; rw [hg]; exact ⟨dj, hdj, h1, h2, fun _ => .inl ⟨hp, h7, rfl⟩, fun h => (by rw [hgb] at h; cases h)⟩, AP_of_APx h8⟩
          · obtain ⟨v, h7, h8, h9⟩ := h6
            refine ⟨v, h3, ?_, h9⟩
            unfold PStep at h8 ⊢
            rw [hg]
            exact ⟨dj, hdj, h1, h2, fun _ => h8, fun h => (by rw [hgb] at h; cases h)⟩
theorem AP_call1 {rest : List Oper} {x : Operand} {xs : Array Operand} {ts : Array TypeId} {f : Nat} {A C args : List V} {r : V}
    (hx : ev ge st.tm x = .fn (.func f) A C) (ha : A ++ evs ge st.tm xs.toList ++ C = args) (hc : PCall P ge f args r) (hf : V.isFs args = true) (hp : r.plain = true) (hd : dstOk st.n d = true)
    (h : APx P ge ops K rest ⟨st.n, putD d r st.tm, st.h⟩) :
    AP P ge ops K (⟨d, .call { callee := .value x, args := xs, argTypes := ts }, t, p, af, none⟩ :: rest) st := by
  subst ha
  rw [evs_eq] at hc hf
  exact ⟨r, hd, .inr (.inl ⟨x, xs, ts, f, A, C, rfl, hx, hc, hf, hp⟩), AP_of_APx h⟩
/-- A slice that is built frozen, where the order is drawn. -/
theorem AP_lit {rest : List Oper} {T : TypeId} {len : Nat} {parts : Array (Nat × Operand)} (hd : dstOk st.n d = true) (hb : bsOk P ge st T len parts)
    (h : APx P ge ops K rest ⟨st.n, putD d (.vec (rowsV (List.replicate len (zeroD P (elemOf P T))) (partsV ge st.tm parts.toList)) len) st.tm, st.h⟩) :
    AP P ge ops K (⟨d, .buildSlice T len parts, t, p, af, none⟩ :: rest) st :=
  ⟨_, hd, .inr (.inr (.inl ⟨T, len, parts, rfl, hb, rfl⟩)), AP_of_APx h⟩
/-- A call on rows of one's own, as they are seen. -/
theorem AP_scall {rest : List Oper} {x : Operand} {xs : Array Operand} {ts : Array TypeId} {f : Nat} {args' : List V} {r : V}
    (hx : ev ge st.tm x = .fn (.func f) [] []) (hs : (evs ge st.tm xs.toList).map (seenV st.h) = args') (hc : PCall P ge f args' r) (hf : V.isFs args' = true) (hp : r.scal = true) (hd : dstOk st.n d = true)
    (h : APx P ge ops K rest ⟨st.n, putD d r st.tm, st.h⟩) :
    AP P ge ops K (⟨d, .call { callee := .value x, args := xs, argTypes := ts }, t, p, af, none⟩ :: rest) st := by
  rw [evs_eq] at hs
  exact ⟨r, hd, .inr (.inr (.inr ⟨x, xs, ts, f, args', rfl, hx, hc, hs, hf, hp⟩)), AP_of_APx h⟩
theorem AW_region_APx (k : Nat) {id : Nat} (hm : P.follows .mixedOrders = true) (hd : drawOk ops k = true) (h : APx P ge ops (AO P ge ops Q (ops.toList.drop k)) (ops.toList.take k) st) : AW P ge (.region id ops true) Q st := by
  obtain ⟨vs, h1, h2⟩ := (AP_of_APx h).run
  exact AW_region_draw hm hd h1 (AS_of_AO h2)
end
attribute [simp] stillOp
end Go.AM
namespace Go.AM
theorem AWh {P : Program} {ge : GEnv} {c : Code} {Q : Exit → St → Prop} {K : St → Prop} {s : St} (h : ∀ s, AW P ge c Q s → K s) (h1 : AW P ge c Q s) : K s := h s h1
end Go.AM
end

section
set_option linter.unusedVariables false
namespace Go.AM
section
variable {P : Program} {ge : GEnv} {st : St} {Q : Exit → St → Prop}
def SScope (Q : Exit → St → Prop) : Exit → St → Prop
  | .goto _, _ => False
  | e, st => Q e st
theorem AW_label {l : Nat} (h : Q .normal st) : AW P ge (.label l) Q st := fun G _ w hr => wp_label ⟨G, st, h, hr, .refl _ _ _⟩
theorem AW_scope {c : Code} (h : AW P ge c (SScope Q) st) : AW P ge (.scope c) Q st := by
  intro G a w hr
  refine wp_scope_straight (wp_mono (h G a w hr) ?_)
  rintro e a' w' ⟨G', s', q, r, x⟩
  cases e <;> simp only [SScope, Exit.noGoto] at q ⊢
  all_goals exact ⟨G', s', q, r, x⟩
theorem SScope_normal (h : Q .normal st) : SScope Q .normal st := h
theorem SScope_ret (h : Q .ret st) : SScope Q .ret st := h
theorem SScope_exit {id : Nat} (h : Q (.exit id) st) : SScope Q (.exit id) st := h
end
class Step (g : Prop) (n : outParam Prop) : Prop where
  by1 : n → g
class Split (g : Prop) (a b x y : outParam Prop) : Prop where
  by2 : (a → x) → (b → y) → g
section
variable {P : Program} {ge : GEnv} {st : St} {Q : Exit → St → Prop} {K : St → Prop} {c : Code} {id : Nat} {ops : Array Oper}
instance : Step (AW P ge (.block id c) Q st) (AW P ge c (SBlock id Q) st) := ⟨AW_block⟩
instance : Step (AW P ge .skip Q st) (Q .normal st) := ⟨AW_skip⟩
instance : Step (AW P ge (.exit id) Q st) (Q (.exit id) st) := ⟨AW_exit⟩
instance : Step (AW P ge .ret Q st) (Q .ret st) := ⟨AW_ret⟩
instance : Step (AW P ge (.scope c) Q st) (AW P ge c (SScope Q) st) := ⟨AW_scope⟩
instance : Step (AW P ge (.label id) Q st) (Q .normal st) := ⟨AW_label⟩
instance : Step (SScope Q .normal st) (Q .normal st) := ⟨SScope_normal⟩
instance : Step (SScope Q .ret st) (Q .ret st) := ⟨SScope_ret⟩
instance : Step (SScope Q (.exit id) st) (Q (.exit id) st) := ⟨SScope_exit⟩
instance : Step (SThen K Q .normal st) (K st) := ⟨SThen_normal⟩
instance : Step (SThen K Q .ret st) (Q .ret st) := ⟨SThen_ret⟩
instance : Step (SThen K Q (.exit id) st) (Q (.exit id) st) := ⟨SThen_exit⟩
instance : Step (SBlock id Q .normal st) (Q .normal st) := ⟨SBlock_normal⟩
instance : Step (SBlock id Q .ret st) (Q .ret st) := ⟨SBlock_ret⟩
instance : Step (SBlock id Q (.exit id) st) (Q .normal st) := ⟨SBlock_exit⟩
variable {rest : List Oper} {o : Oper} {b : Bool} {p : Prop} [Decidable p]
instance (priority := 1300) : Split (AOg P ge ops Q (!decide p) o rest st) (¬ p) p (AOg P ge ops Q true o rest st) (AOg P ge ops Q false o rest st) := ⟨AOg_split_notdec⟩
instance (priority := 1200) : Split (AOg P ge ops Q (decide p) o rest st) p (¬ p) (AOg P ge ops Q true o rest st) (AOg P ge ops Q false o rest st) := ⟨AOg_split_dec⟩
instance (priority := 1100) : Split (AOg P ge ops Q (!b) o rest st) (b = false) (b = true) (AOg P ge ops Q true o rest st) (AOg P ge ops Q false o rest st) := ⟨AOg_split_not⟩
instance : Split (AOg P ge ops Q b o rest st) (b = true) (b = false) (AOg P ge ops Q true o rest st) (AOg P ge ops Q false o rest st) := ⟨AOg_split⟩
instance (priority := 1300) : Split (APg P ge ops K (!decide p) o rest st) (¬ p) p (APg P ge ops K true o rest st) (APg P ge ops K false o rest st) := ⟨APg_split_notdec⟩
instance (priority := 1200) : Split (APg P ge ops K (decide p) o rest st) p (¬ p) (APg P ge ops K true o rest st) (APg P ge ops K false o rest st) := ⟨APg_split_dec⟩
instance (priority := 1100) : Split (APg P ge ops K (!b) o rest st) (b = false) (b = true) (APg P ge ops K true o rest st) (APg P ge ops K false o rest st) := ⟨APg_split_not⟩
instance : Split (APg P ge ops K b o rest st) (b = true) (b = false) (APg P ge ops K true o rest st) (APg P ge ops K false o rest st) := ⟨APg_split⟩
theorem cc {x : Operand} {t e : Code} {c : Bool} (hc : ev ge st.tm x = .bool c) (ht : c = true → AW P ge t Q st) (hf : c = false → AW P ge e Q st) : AW P ge (.cond x t e) Q st := AW_cond hc ht hf
/-- Where a condition leads. -/
def Br (c : Bool) (a b : Prop) : Prop := (c = true → a) ∧ (c = false → b)
class Fork (g : Prop) (a b x y : outParam Prop) : Prop where
  by2 : (a → x) → (b → y) → g
theorem cz {x : Operand} {t e : Code} {c : Bool} (hc : ev ge st.tm x = .bool c) (h : Br c (AW P ge t Q st) (AW P ge e Q st)) : AW P ge (.cond x t e) Q st := AW_cond hc h.1 h.2
variable {x y : Prop}
instance : Step (Br true x y) x := ⟨fun h => ⟨fun _ => h, fun h => nomatch h⟩⟩
instance : Step (Br false x y) y := ⟨fun h => ⟨fun h => (nomatch h), fun _ => h⟩⟩
instance (priority := 1300) : Fork (Br (!decide p) x y) (¬ p) p x y := ⟨fun h1 h2 => ⟨fun h => h1 (by simpa using h), fun h => h2 (by simpa using h)⟩⟩
instance (priority := 1200) : Fork (Br (decide p) x y) p (¬ p) x y := ⟨fun h1 h2 => ⟨fun h => h1 (by simpa using h), fun h => h2 (by simpa using h)⟩⟩
instance (priority := 1100) : Fork (Br (!b) x y) (b = false) (b = true) x y := ⟨fun h1 h2 => ⟨fun h => h1 (by simpa using h), fun h => h2 (by simpa using h)⟩⟩
instance : Fork (Br b x y) (b = true) (b = false) x y := ⟨fun h1 h2 => ⟨h1, h2⟩⟩
end
end Go.AM
end

section
set_option linter.unusedVariables false
set_option linter.unusedSimpArgs false
namespace Go.AM
section
variable {P : Program} {ge : GEnv} {st : St} {Q : Exit → St → Prop} {G : Gh} {w : World}
theorem Rep_nilrow {a : Act} (hr : Rep P ge G st a w) (s : Nat) (T : TypeId) (hs : lk st.tm s = .nils) (h0 : 0 < szOf P T) :
    ∃ G', Rep P ge G' { st with tm := (s, .ref st.h.length 0 0 0) :: st.tm, h := st.h ++ [.row T 0 0 true []] } a w ∧ Ext G st.h w G' (st.h ++ [.row T 0 0 true []]) w := by
  have hk : ∀ k', (G.push none (szOf P T) 0).at G.n (.row T 0 0 true []) = some k' → w.heap.size ≤ k' := fun k' h => by
    simp [Gh.at, Gh.push] at h
  have hrb : RB P (G.push none (szOf P T) 0) w G.n (.row T 0 0 true []) := ⟨by simp [Gh.push], Nat.zero_le _, by simp [Gh.push, h0], .inl ⟨by simp [Gh.push], rfl⟩⟩
  have rh := hr.rh.push (.refl w) hrb hk
  have ext := Ext.push hr.rh (.refl w) hk
  refine ⟨_, ⟨rh, fun t => ?_, hr.n, hr.d⟩, ext⟩
  simp only [lk]
  split
  · rename_i hst
    subst hst
    have h1 := hr.tm s
    rw [hs] at h1
    generalize a.tmps.getD s undef = cv at h1 ⊢
    cases h1
    rw [hr.rh.n]
    exact .refn (by simp [Gh.push]) (by simp [Gh.push]) (by simp [Gh.push])
  · exact (hr.tm t).mono ext.le
def blOk (n : Nat) : List B → List B → Prop
  | [], _ => True
  | _ :: _, [] => False
  | x :: r, y :: r' => (x = .dead ∨ (y = x ∧ x.lt n)) ∧ blOk n r r'
theorem blOk_spec {n : Nat} : ∀ {l l' : List B}, blOk n l l' → ∀ (b : Nat) (x : B), l[b]? = some x → x = .dead ∨ (l'[b]? = some x ∧ x.lt n)
  | [], _, _, _, _, h => by simp at h
  | _ :: _, [], h, _, _, _ => h.elim
  | x :: r, y :: r', h, 0, z, hz => by
    simp at hz; subst hz
    rcases h.1 with h | ⟨rfl, h⟩
    · exact .inl h
    · exact .inr ⟨by simp, h⟩
  | x :: r, y :: r', h, b + 1, z, hz => by
    have := blOk_spec h.2 b z (by simpa using hz)
    simpa using this
/-- Weakening, by computation. -/
theorem Weak.mk' {st st' : St} (hn : st'.n = st.n) (hl : st'.h.length ≤ st.h.length) (ht : ∀ p ∈ st'.tm, lk st.tm p.1 = p.2 ∧ p.2.lt st'.h.length = true) (hb : blOk st'.h.length st'.h st.h) : Weak st st' := ⟨hn, hl, ht, blOk_spec hb⟩
theorem AW_nilrow {c : Code} (s : Nat) (T : TypeId) (hs : lk st.tm s = .nils) (h0 : 0 < szOf P T) (h : AW P ge c Q { st with tm := (s, .ref st.h.length 0 0 0) :: st.tm, h := st.h ++ [.row T 0 0 true []] }) : AW P ge c Q st := by
  intro G a w hr
  obtain ⟨G', hr', ext⟩ := Rep_nilrow hr s T hs h0
  exact wp_mono (h G' a w hr') fun _ _ _ hp => hp.mono ext fun _ _ h => h
theorem PCall.same {f : Nat} {args : List V} {r r' : V} (hc : PCall P ge f args r) (hp : r.plain = true) (h : ∀ G w c, R G w true r c → R G w true r' c) (hp' : match r' with | .own .. => False | .tup .. => False | _ => True) : PCall P ge f args r' :=
  ⟨hc.1, fun G w cargs ha hg => (hc.2 G w cargs ha hg).mono fun e w' ⟨c, G', h1, h2, h3⟩ => ⟨c, G', h1, h2, by
    have h4 := h _ _ _ (h3.plain hp)
    cases r' <;> first | exact h4 | exact hp'.elim⟩⟩
end
attribute [simp] blOk B.lt
end Go.AM
end
