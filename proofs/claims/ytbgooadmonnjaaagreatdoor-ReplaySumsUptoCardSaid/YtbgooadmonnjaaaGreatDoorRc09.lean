/-
  YtbgooadmonnjaaaGreatDoorRc09: steps of the proof of a law of the program: what these texts prove holds under the hypotheses that their theorems name, and no others.
-/
import Derived.Test.YtbgooadmonnjaaaGreatDoorRc08
import Derived.Orders
section
set_option linter.unusedVariables false
set_option linter.unusedSimpArgs false
namespace Go.AM
section
variable {P : Program} {ge : GEnv} {st st' : St} {Q : Exit → St → Prop} {ops : Array Oper}
theorem evs_congr {tm tm' : List (Nat × V)} : ∀ (l : List Operand), (∀ x ∈ l, ev ge tm' x = ev ge tm x) → evs ge tm' l = evs ge tm l
  | [], _ => rfl
  | x :: r, h => by simp only [evs, h x (List.mem_cons_self ..), evs_congr r fun y hy => h y (List.mem_cons_of_mem _ hy)]
theorem partsV_congr {tm tm' : List (Nat × V)} : ∀ (l : List (Nat × Operand)), (∀ x ∈ l, ev ge tm' x.2 = ev ge tm x.2) → partsV ge tm' l = partsV ge tm l
  | [], _ => rfl
  | (i, x) :: r, h => by
    have h1 := h (i, x) (List.mem_cons_self ..)
    simp only at h1
    simp only [partsV, h1, partsV_congr r fun y hy => h y (List.mem_cons_of_mem _ hy)]
/-- An operation looks at its operands alone. -/
theorem op_congr {op : Op} (hs : stillOp op = true) (hh : st'.h = st.h) (he : ∀ x ∈ op.operands, ev ge st'.tm x = ev ge st.tm x) (ho : opOk P ge st op) :
    opOk P ge st' op ∧ (opVal P ge st' op).1 = (opVal P ge st op).1 := by
  unfold stillOp at hs
  split at hs
  case h_1 x => simp [Op.operands, -ev] at he; simp only [opOk, opVal]; rw [he]; exact ⟨trivial, rfl⟩
  case h_2 x => simp [Op.operands, -ev] at he; simp only [opOk, opVal]; rw [he]; exact ⟨trivial, rfl⟩
  case h_3 a b c => simp [Op.operands, -ev] at he; simp only [opOk, opVal] at ho ⊢; obtain ⟨e1, e2, e3⟩ := he; rw [e1, e2, e3]; exact ⟨ho, rfl⟩
  case h_4 T parts =>
    have e : partsV ge st'.tm parts.toList = partsV ge st.tm parts.toList := partsV_congr _ fun x hx => he x.2 (by simp only [Op.operands]; simp; exact ⟨x.1, by simpa using hx⟩)
    simp only [opOk, opVal] at ho ⊢; rw [e]; exact ⟨ho, rfl⟩
  case h_5 e x => simp [Op.operands, -ev] at he; simp only [opOk, opVal] at ho ⊢; rw [he, hh]; exact ⟨ho, rfl⟩
  case h_6 x => simp [Op.operands, -ev] at he; simp only [opOk, opVal] at ho ⊢; rw [he]; exact ⟨ho, rfl⟩
  case h_7 op T x y T' => simp [Op.operands, -ev] at he; obtain ⟨e1, e2⟩ := he; simp only [opOk, opVal] at ho ⊢; rw [e1, e2]; exact ⟨ho, rfl⟩
  case h_8 op T x => simp [Op.operands, -ev] at he; simp only [opOk, opVal] at ho ⊢; rw [he]; exact ⟨ho, rfl⟩
  case h_9 s e x => simp [Op.operands, -ev] at he; simp only [opOk, opVal] at ho ⊢; rw [he, hh]; exact ⟨ho, rfl⟩
  case h_10 s x f => simp [Op.operands, -ev] at he; simp only [opOk, opVal] at ho ⊢; rw [he]; exact ⟨ho, rfl⟩
  case h_11 s x y => simp [Op.operands, -ev] at he; obtain ⟨e1, e2⟩ := he; simp only [opOk, opVal] at ho ⊢; rw [e1, e2, hh]; exact ⟨ho, rfl⟩
  case h_12 s x y => simp [Op.operands, -ev] at he; obtain ⟨e1, e2⟩ := he; simp only [opOk, opVal] at ho ⊢; rw [e1, e2]; exact ⟨ho, rfl⟩
  case h_13 x i => simp [Op.operands, -ev] at he; simp only [opOk, opVal] at ho ⊢; rw [he]; exact ⟨ho, rfl⟩
  case h_14 f A C =>
    have e1 : evs ge st'.tm A.toList = evs ge st.tm A.toList := evs_congr _ fun x hx => he x (by simp only [Op.operands]; simp; exact .inl (by simpa using hx))
    have e2 : evs ge st'.tm C.toList = evs ge st.tm C.toList := evs_congr _ fun x hx => he x (by simp only [Op.operands]; simp; exact .inr (by simpa using hx))
    simp only [opOk, opVal]; rw [e1, e2]; exact ⟨trivial, rfl⟩
  case h_15 T x lo hi =>
    have ex := he x (by simp [Op.operands])
    have e1 : ∀ n, bndV ge st'.tm lo n = bndV ge st.tm lo n := fun n => by
      cases lo with
      | none => rfl
      | some y => unfold bndV; simp only; rw [he y (by simp [Op.operands])]
    have e2 : ∀ n, bndV ge st'.tm hi n = bndV ge st.tm hi n := fun n => by
      cases hi with
      | none => rfl
      | some y => unfold bndV; simp only; rw [he y (by simp [Op.operands])]
    have e3 : bndOk ge st'.tm lo = bndOk ge st.tm lo := by
      cases lo with
      | none => rfl
      | some y => unfold bndOk; simp only; rw [he y (by simp [Op.operands])]
    have e4 : bndOk ge st'.tm hi = bndOk ge st.tm hi := by
      cases hi with
      | none => rfl
      | some y => unfold bndOk; simp only; rw [he y (by simp [Op.operands])]
    simp only [opOk, opVal, sliceGood, sliceVal] at ho ⊢
    simp only [ex, e1, e2, e3, e4, hh]
    exact ⟨ho, trivial⟩
  case h_16 xs ts =>
    simp only [opOk, opVal] at ho ⊢
    obtain ⟨h1, h2, h3⟩ := ho
    have ex := he (xs.getD 0 default) (by
      simp only [Op.operands, Call.operands]
      have : 0 < xs.size := by omega
      simp [Array.getD, this])
    rw [ex]; exact ⟨⟨h1, h2, h3⟩, rfl⟩
  case h_17 xs ts =>
    simp only [opOk, opVal] at ho ⊢
    obtain ⟨h1, h2, h3⟩ := ho
    have ex := he (xs.getD 0 default) (by
      simp only [Op.operands, Call.operands]
      have : 0 < xs.size := by omega
      simp [Array.getD, this])
    have ey := he (xs.getD 1 default) (by
      simp only [Op.operands, Call.operands]
      have : 1 < xs.size := by omega
      simp [Array.getD, this])
    rw [ex, ey]; exact ⟨⟨h1, h2, h3⟩, rfl⟩
  case h_18 xs ts =>
    simp only [opOk, opVal] at ho ⊢
    obtain ⟨h1, h2, h3⟩ := ho
    have ex := he (xs.getD 0 default) (by
      simp only [Op.operands, Call.operands]
      have : 0 < xs.size := by omega
      simp [Array.getD, this])
    have ey := he (xs.getD 1 default) (by
      simp only [Op.operands, Call.operands]
      have : 1 < xs.size := by omega
      simp [Array.getD, this])
    rw [ex, ey]; exact ⟨⟨h1, h2, h3⟩, rfl⟩
  case h_19 => cases hs
def CallStep (P : Program) (ge : GEnv) (st : St) (op : Op) (v : V) : Prop :=
  ∃ x xs ts f A C, op = .call { callee := .value x, args := xs, argTypes := ts } ∧ ev ge st.tm x = .fn (.func f) A C ∧ PCall P ge f (A ++ xs.toList.map (ev ge st.tm) ++ C) v ∧
    V.isFs (A ++ xs.toList.map (ev ge st.tm) ++ C) = true ∧ v.plain = true
/-- A slice that is built frozen. -/
def LitStep (P : Program) (ge : GEnv) (st : St) (op : Op) (v : V) : Prop :=
  ∃ T len parts, op = .buildSlice T len parts ∧ bsOk P ge st T len parts ∧ v = .vec (rowsV (List.replicate len (zeroD P (elemOf P T))) (partsV ge st.tm parts.toList)) len
def Core (P : Program) (ge : GEnv) (st : St) (op : Op) (v : V) : Prop := (stillOp op = true ∧ opOk P ge st op ∧ v = (opVal P ge st op).1) ∨ CallStep P ge st op v ∨ LitStep P ge st op v ∨ SeenStep P ge st op v ∨ GStep P ge st op v
/-- An operation that leaves a value and nothing else. -/
def PStep (P : Program) (ge : GEnv) (ops : Array Oper) (st : St) (o : Oper) (v : V) : Prop := match o.guard with
  | none => Core P ge st o.op v
  | some (j, want) => ∃ dj, gdst ops j = some dj ∧ dj < st.n ∧ gOk (lk st.tm dj) = true ∧ (gB (lk st.tm dj) want = true → Core P ge st o.op v) ∧ (gB (lk st.tm dj) want = false → v = .void)
theorem Core.congr {op : Op} {v : V} (hh : st'.h = st.h) (he : ∀ x ∈ op.operands, ev ge st'.tm x = ev ge st.tm x) (hc : Core P ge st op v) : Core P ge st' op v := by
  rcases hc with ⟨h1, h2, h3⟩ | ⟨x, xs, ts, f, A, C, rfl, h1, h2, h3, h4⟩ | ⟨T, len, parts, rfl, h1, h2⟩ | ⟨x, xs, ts, f, args', rfl, h1, h2, h3, h4⟩ | ⟨x, xs, ts, f, rfl, h1, h2, h3⟩
  · obtain ⟨h4, h5⟩ := op_congr h1 hh he h2
    exact .inl ⟨h1, h4, h3.trans h5.symm⟩
  · have e1 : xs.toList.map (ev ge st'.tm) = xs.toList.map (ev ge st.tm) := List.map_congr_left fun y hy => he y (by simp [Op.operands, Call.operands]; right; simpa using hy)
    refine .inr (.inl ⟨x, xs, ts, f, A, C, rfl, ?_, ?_, ?_, h4⟩)
    · rw [he x (by simp [Op.operands, Call.operands])]; exact h1
    · rw [e1]; exact h2
    · rw [e1]; exact h3
  · have e1 : partsV ge st'.tm parts.toList = partsV ge st.tm parts.toList := partsV_congr _ fun x hx => he x.2 (by simp only [Op.operands]; simp; exact ⟨x.1, by simpa using hx⟩)
    refine .inr (.inr (.inl ⟨T, len, parts, rfl, ?_, by rw [e1]; exact h2⟩))
    unfold bsOk at h1 ⊢
    rw [e1]; exact h1
  · have e1 : xs.toList.map (ev ge st'.tm) = xs.toList.map (ev ge st.tm) := List.map_congr_left fun y hy => he y (by simp [Op.operands, Call.operands]; right; simpa using hy)
    refine .inr (.inr (.inr (.inl ⟨x, xs, ts, f, args', rfl, ?_, h2, ?_, h4⟩)))
    · rw [he x (by simp [Op.operands, Call.operands])]; exact h1
    · rw [e1, hh]; exact h3
  · have e1 : xs.toList.map (ev ge st'.tm) = xs.toList.map (ev ge st.tm) := List.map_congr_left fun y hy => he y (by simp [Op.operands, Call.operands]; right; simpa using hy)
    refine .inr (.inr (.inr (.inr ⟨x, xs, ts, f, rfl, ?_, ?_, h3⟩)))
    · rw [he x (by simp [Op.operands, Call.operands])]; exact h1
    · rw [e1, hh]; exact h2
theorem ev_congr {o : Oper} (h : ∀ t ∈ o.looksAt ops, lk st'.tm t = lk st.tm t) : ∀ x ∈ o.op.operands, ev ge st'.tm x = ev ge st.tm x := by
  intro x hx
  cases x with
  | tmp t =>
    refine h t ?_
    unfold Oper.looksAt
    exact List.mem_append_left _ (List.mem_filterMap.2 ⟨.tmp t, by simpa using hx, rfl⟩)
  | const _ => rfl
  | global _ => rfl
  | func _ => rfl
theorem PStep.congr {o : Oper} {v : V} (hn : st'.n = st.n) (hh : st'.h = st.h) (he : ∀ t ∈ o.looksAt ops, lk st'.tm t = lk st.tm t) (hc : PStep P ge ops st o v) : PStep P ge ops st' o v := by
  have hev := ev_congr (ge := ge) he
  unfold PStep at hc ⊢
  split at hc
  · exact hc.congr hh hev
  · rename_i j want hg
    obtain ⟨dj, h1, h2, h3, h4, h5⟩ := hc
    have hl : lk st'.tm dj = lk st.tm dj := he dj (by
      unfold Oper.looksAt
      refine List.mem_append_right _ ?_
      rw [hg]
      unfold gdst at h1
      simp only [h1]; simp)
    refine ⟨dj, h1, by rw [hn]; exact h2, by rw [hl]; exact h3, fun h => (h4 (by rw [← hl]; exact h)).congr hh hev, fun h => h5 (by rw [← hl]; exact h)⟩
theorem Core.sound {o : Oper} {rest : List Oper} {v : V} (hg : o.guard = none) (hd : dstOk st.n o.dst = true) (hc : Core P ge st o.op v) (h : AS P ge ops rest Q { st with tm := putD o.dst v st.tm }) : AS P ge ops (o :: rest) Q st := by
  rcases hc with ⟨h1, h2, rfl⟩ | ⟨x, xs, ts, f, A, C, h0, h1, h2, h3, h4⟩ | ⟨T, len, parts, h0, h1, rfl⟩ | ⟨x, xs, ts, f, args', h0, h1, h2, h3, h4, h5⟩ | ⟨x, xs, ts, f, h0, h1, h2, h3⟩
  · have := opS_of_ok (P := P) (ge := ge) (st := st) (d := o.dst) (t := o.type) (p := o.pos) (af := o.after) (g := o.guard) h2
    rw [still_spec h1] at this
    exact AS_op hg hd this h
  · obtain ⟨d, op, t, p, af, g⟩ := o
    simp only at h0 hg hd h
    subst h0; subst hg
    exact AS_pcall h1 hd h2 h3 h4 h
  · obtain ⟨d, op, t, p, af, g⟩ := o
    simp only at h0 hg hd h
    subst h0; subst hg
    exact AS_op rfl hd (S_bsOk h1) h
  · obtain ⟨d, op, t, p, af, g⟩ := o
    simp only at h0 hg hd h
    subst h0; subst hg
    exact AS_scall h1 hd h2 (by simpa using h3) h4 h5 h
  · obtain ⟨d, op, t, p, af, g⟩ := o
    simp only at h0 hg hd h
    subst h0; subst hg
    have hc := h2 []
    rw [List.append_nil] at hc
    exact AS_gcall h1 hd (by simpa using hc) (by rintro v h' ⟨rfl, rfl⟩; exact h)
theorem PStep.sound {o : Oper} {rest : List Oper} {v : V} (hd : dstOk st.n o.dst = true) (hc : PStep P ge ops st o v) (h : AS P ge ops rest Q { st with tm := putD o.dst v st.tm }) : AS P ge ops (o :: rest) Q st := by
  unfold PStep at hc
  split at hc
  · rename_i hg; exact hc.sound hg hd h
  · rename_i j want hg
    obtain ⟨dj, h1, h2, h3, h4, h5⟩ := hc
    refine AS_guard_cases hg h1 h2 h3 hd (fun hb => (h4 hb).sound (o := { o with guard := none }) rfl hd h) (fun hb => ?_)
    rw [h5 hb] at h; exact h
/-- A run of pure operations, in order: what they leave. -/
def Run (P : Program) (ge : GEnv) (ops : Array Oper) : St → List Oper → List V → Prop
  | _, [], [] => True
  | st, o :: r, v :: vs => dstOk st.n o.dst = true ∧ PStep P ge ops st o v ∧ Run P ge ops { st with tm := putD o.dst v st.tm } r vs
  | _, _, _ => False
def fin (st : St) : List Oper → List V → St
  | o :: r, v :: vs => fin { st with tm := putD o.dst v st.tm } r vs
  | _, _ => st
theorem Run.len : ∀ {l : List Oper} {vs : List V} {st : St}, Run P ge ops st l vs → vs.length = l.length
  | [], [], _, _ => rfl
  | [], _ :: _, _, h => h.elim
  | _ :: _, [], _, h => h.elim
  | o :: r, v :: vs, st, h => by simp [Run.len h.2.2]
theorem fin_n : ∀ (l : List Oper) (vs : List V) (st : St), (fin st l vs).n = st.n ∧ (fin st l vs).h = st.h
  | [], _, _ => ⟨rfl, rfl⟩
  | _ :: _, [], _ => ⟨rfl, rfl⟩
  | o :: r, v :: vs, st => by simp only [fin]; exact fin_n r vs _
theorem lk_putD {d : Option Tmp} {v : V} {tm : List (Nat × V)} {t : Nat} : lk (putD d v tm) t = if d = some t then v else lk tm t := by
  cases d with
  | none => simp [putD]
  | some u => simp [putD, lk]
theorem fin_old : ∀ (l : List Oper) (vs : List V) (st : St) (t : Nat), (∀ o ∈ l, o.dst ≠ some t) → lk (fin st l vs).tm t = lk st.tm t
  | [], _, _, _, _ => rfl
  | _ :: _, [], _, _, _ => rfl
  | o :: r, v :: vs, st, t, h => by
    simp only [fin]
    rw [fin_old r vs _ t fun o ho => h o (List.mem_cons_of_mem _ ho), lk_putD, if_neg (h o (List.mem_cons_self ..))]
def Apart (l : List Oper) : Prop := ∀ (i j : Nat) (o o' : Oper) (t : Nat), i < j → l[i]? = some o → l[j]? = some o' → o.dst = some t → o'.dst ≠ some t
theorem Apart.tail {o : Oper} {l : List Oper} (h : Apart (o :: l)) : Apart l := fun i j a b t hij h1 h2 => h (i + 1) (j + 1) a b t (by omega) (by simpa using h1) (by simpa using h2)
theorem fin_new : ∀ (l : List Oper) (vs : List V) (st : St) (i : Nat) (o : Oper) (t : Nat), vs.length = l.length → Apart l → l[i]? = some o → o.dst = some t → lk (fin st l vs).tm t = vs.getD i .junk
  | [], _, _, _, _, _, _, _, h, _ => by simp at h
  | _ :: _, [], _, _, _, _, h, _, _, _ => by simp at h
  | o :: r, v :: vs, st, 0, o', t, hl, ha, ho, hd => by
    simp at ho; subst ho
    simp only [fin]
    rw [fin_old r vs _ t ?_, lk_putD, if_pos hd]
    · simp
    · intro o' ho'
      obtain ⟨j, hj⟩ := List.getElem?_of_mem ho'
      exact ha 0 (j + 1) o o' t (by omega) (by simp) (by simpa using hj) hd
  | o :: r, v :: vs, st, i + 1, o', t, hl, ha, ho, hd => by
    simp only [fin]
    rw [fin_new r vs _ i o' t (by simpa using hl) ha.tail (by simpa using ho) hd]
    simp
theorem Run.at : ∀ {l : List Oper} {vs : List V} {st : St} {i : Nat} {o : Oper}, Run P ge ops st l vs → l[i]? = some o →
    PStep P ge ops (fin st (l.take i) (vs.take i)) o (vs.getD i .junk) ∧ dstOk st.n o.dst = true
  | [], _, _, _, _, _, h => by simp at h
  | _ :: _, [], _, _, _, h, _ => h.elim
  | o :: r, v :: vs, st, 0, o', h, ho => by
    simp at ho; subst ho
    simp only [List.take_zero, fin]
    exact ⟨by simpa using h.2.1, h.1⟩
  | o :: r, v :: vs, st, i + 1, o', h, ho => by
    obtain ⟨h1, h2⟩ := Run.at (i := i) h.2.2 (by simpa using ho)
    simp only [List.take_succ_cons, fin]
    exact ⟨by simpa using h1, h2⟩
end
end Go.AM
end
section
set_option linter.unusedVariables false
set_option linter.unusedSimpArgs false
namespace Go.AM
def beforeB (o : Oper) (i : Nat) : Bool := o.after.toList.any fun e => Region.binds .any e && e.on == i
def binders (o : Oper) : List Nat := (o.after.toList.filter fun e => Region.binds .any e).map (·.on)
/-- All that lies ahead is waited for, be it through others. -/
def tailOk (l : List Oper) : Nat → List Nat → Bool
  | 0, _ => true
  | i + 1, S => S.contains i && tailOk l i ((match l[i]? with | some o => binders o | none => []) ++ S)
/-- One operation of a region against the others, the first k being pure. -/
def drawOk1 (ops : Array Oper) (l : List Oper) (k j : Nat) : Bool := match l[j]? with
  | none => true
  | some oj => (oj.after.toList.all fun e => !Region.binds .any e || decide (e.on < j)) &&
    if k ≤ j then tailOk l j (binders oj) else
      (List.range k).all fun i => match l[i]? with
        | none => true
        | some oi => match oi.dst with
          | none => true
          | some d => i == j || (oj.dst != some d && (!(oj.looksAt ops).contains d || beforeB oj i || beforeB oi j))
def drawOk (ops : Array Oper) (k : Nat) : Bool := (List.range ops.toList.length).all fun j => drawOk1 ops ops.toList k j
theorem beforeB_spec {o : Oper} {i : Nat} (h : beforeB o i = true) : ∃ e ∈ o.after, Region.binds .any e = true ∧ e.on = i := by
  simp only [beforeB, List.any_eq_true, Bool.and_eq_true, beq_iff_eq] at h
  obtain ⟨e, h1, h2, h3⟩ := h
  exact ⟨e, by simpa using h1, h2, h3⟩
theorem mem_binders {o : Oper} {i : Nat} : i ∈ binders o ↔ ∃ e ∈ o.after, Region.binds .any e = true ∧ e.on = i := by
  simp only [binders, List.mem_map, List.mem_filter]
  constructor
  · rintro ⟨e, ⟨h1, h2⟩, h3⟩; exact ⟨e, by simpa using h1, h2, h3⟩
  · rintro ⟨e, h1, h2, h3⟩; exact ⟨e, ⟨by simpa using h1, h2⟩, h3⟩
theorem tail_listed {ops : Array Oper} {L : Nat → Prop} (hc : ∀ (j : Nat) (o : Oper), ops[j]? = some o → L j → ∀ e ∈ o.after, Region.binds .any e = true → L e.on) {o : Oper} {j : Nat}
    (ho : ∀ e ∈ o.after, Region.binds .any e = true → L e.on) (h : tailOk ops.toList j (binders o) = true) : ∀ i, i < j → L i := by
  have key : ∀ (j : Nat) (S : List Nat), (∀ x ∈ S, L x) → tailOk ops.toList j S = true → ∀ i, i < j → L i := by
    intro j
    induction j with
    | zero => intro S _ _ i hi; omega
    | succ j ih =>
      intro S hS h i hi
      rw [tailOk, Bool.and_eq_true] at h
      have hj : L j := hS j (by simpa using h.1)
      by_cases e : i = j
      · subst e; exact hj
      · refine ih _ (fun x hx => ?_) h.2 i (by omega)
        rcases List.mem_append.1 hx with hx | hx
        · cases hl : ops.toList[j]? with
          | none => rw [hl] at hx; cases hx
          | some o' =>
            rw [hl] at hx
            obtain ⟨e, he, hb, rfl⟩ := mem_binders.1 hx
            exact hc j o' (by simpa using hl) hj e he hb
        · exact hS x hx
  refine key j _ (fun x hx => ?_) h
  obtain ⟨e, he, hb, rfl⟩ := mem_binders.1 hx
  exact ho e he hb
structure DrawOk (ops : Array Oper) (k : Nat) : Prop where
  down : ∀ (j : Nat) (o : Oper), ops[j]? = some o → ∀ e ∈ o.after, Region.binds .any e = true → e.on < j
  tail : ∀ (j : Nat) (o : Oper), ops[j]? = some o → k ≤ j → tailOk ops.toList j (binders o) = true
  apart : ∀ (i j : Nat) (oi oj : Oper) (d : Tmp), i < k → j < k → i ≠ j → ops[i]? = some oi → ops[j]? = some oj → oi.dst = some d →
    oj.dst ≠ some d ∧ (d ∈ oj.looksAt ops → beforeB oj i = true ∨ beforeB oi j = true)
theorem drawOk_spec {ops : Array Oper} {k : Nat} (h : drawOk ops k = true) : DrawOk ops k := by
  have h1 : ∀ (j : Nat) (o : Oper), ops[j]? = some o → drawOk1 ops ops.toList k j = true := fun j o hj => by
    have hlt : j < ops.toList.length := by simpa using (Array.getElem?_eq_some_iff.1 hj).1
    exact List.all_eq_true.1 h j (List.mem_range.2 hlt)
  refine ⟨fun j o hj e he hb => ?_, fun j o hj hk => ?_, fun i j oi oj d hi hj hij hoi hoj hd => ?_⟩
  · have := h1 j o hj
    unfold drawOk1 at this
    rw [show ops.toList[j]? = some o by simpa using hj] at this
    simp only [Bool.and_eq_true, List.all_eq_true, Bool.or_eq_true, Bool.not_eq_true', decide_eq_true_eq] at this
    exact (this.1 e (by simpa using he)).resolve_left (by simp [hb])
  · have := h1 j o hj
    unfold drawOk1 at this
    rw [show ops.toList[j]? = some o by simpa using hj] at this
    simp only [Bool.and_eq_true, if_pos hk] at this
    exact this.2
  · have := h1 j oj hoj
    unfold drawOk1 at this
    rw [show ops.toList[j]? = some oj by simpa using hoj] at this
    simp only [Bool.and_eq_true, if_neg (Nat.not_le.2 hj), List.all_eq_true, List.mem_range] at this
    have := this.2 i hi
    rw [show ops.toList[i]? = some oi by simpa using hoi] at this
    simp only [hd, Bool.or_eq_true, beq_iff_eq, hij, false_or, Bool.and_eq_true, bne_iff_ne, ne_eq, Bool.not_eq_true', List.contains_eq_mem, decide_eq_false_iff_not] at this
    refine ⟨this.1, fun hm => ?_⟩
    rcases this.2 with (h | h) | h
    · exact absurd hm h
    · exact .inl h
    · exact .inr h
def unl (ops : Array Oper) (listed : Array Bool) : Nat := ((List.range ops.size).filter fun j => !listed.getD j true).length
theorem filter_lt {α : Type} {p q : α → Bool} {i : α} (h1 : p i = true) (h2 : q i = false) : ∀ (l : List α), (∀ x ∈ l, q x = true → p x = true) → i ∈ l → (l.filter q).length < (l.filter p).length
  | [], _, h => by simp at h
  | x :: r, hs, h => by
    have hr := fun y hy => hs y (List.mem_cons_of_mem _ hy)
    have hle : ∀ (l : List α), (∀ x ∈ l, q x = true → p x = true) → (l.filter q).length ≤ (l.filter p).length := fun l => by
      induction l with
      | nil => intro _; simp
      | cons y t ih =>
        intro ht
        have := ih fun z hz => ht z (List.mem_cons_of_mem _ hz)
        have hy := ht y (List.mem_cons_self ..)
        cases hq : q y <;> cases hp : p y <;> simp_all <;> omega
    rcases List.mem_cons.1 h with rfl | h
    · have := hle r hr
      simp [h1, h2]; omega
    · have := filter_lt h1 h2 r hr h
      have hx := hs x (List.mem_cons_self ..)
      cases hq : q x <;> cases hp : p x <;> simp_all <;> omega
theorem unl_set {ops : Array Oper} {listed : Array Bool} {i : Nat} (hi : i < ops.size) (hs : listed.size = ops.size) (hl : listed.getD i true = false) : unl ops (listed.setIfInBounds i true) < unl ops listed := by
  unfold unl
  refine filter_lt (i := i) (by simp [hl]) (by simp [Array.getD, hs, hi]) _ (fun x _ hx => ?_) (List.mem_range.2 hi)
  simp only [Bool.not_eq_true'] at hx ⊢
  by_cases hxi : i = x
  · subst hxi; exact hl
  · rwa [getD_set_ne _ hxi] at hx
theorem getD_tf {listed : Array Bool} {i n : Nat} (hs : listed.size = n) (hi : i < n) : listed.getD i true = listed.getD i false := by
  simp [Array.getD, hs, hi]
section
variable {P : Program} {ge : GEnv} {st : St} {Q : Exit → St → Prop} {ops : Array Oper}
/-- Where all that is listed is the region's beginning, and each later operation waits for all ahead of it. -/
theorem wpAny_tail {Qc : Exit → Act → World → Prop} {k : Nat} (hd : DrawOk ops k) : ∀ (fuel : Nat) (listed : Array Bool) (j : Nat) (a : Act) (w : World), k ≤ j → listed.size = ops.size → unl ops listed ≤ fuel →
    (∀ i, i < ops.size → (listed.getD i false = true ↔ i < j)) → wpList P ops Qc (ops.toList.drop j) a w → wpAny P .any ops Qc fuel listed a w := by
  intro fuel
  induction fuel with
  | zero =>
    intro listed j a w hk hs hf hl h
    have hall : ∀ i, i < ops.size → listed.getD i false = true := fun i hi => by
      have : ((List.range ops.size).filter fun j => !listed.getD j true) = [] := List.eq_nil_of_length_eq_zero (Nat.le_zero.1 hf)
      have := List.filter_eq_nil_iff.1 this i (List.mem_range.2 hi)
      rw [← getD_tf hs hi]; simpa using this
    have hj : ops.size ≤ j := by
      rcases Nat.lt_or_ge j ops.size with h1 | h1
      · have := (hl j h1).1 (hall j h1); omega
      · exact h1
    rw [List.drop_eq_nil_of_le (by simpa using hj)] at h
    refine ⟨?_, h⟩
    rw [List.eq_nil_iff_forall_not_mem]
    intro i hi
    obtain ⟨h1, o, h2, _⟩ := mem_ready.1 hi
    have hlt := (Array.getElem?_eq_some_iff.1 h2).1
    rw [getD_tf hs hlt, hall i hlt] at h1; cases h1
  | succ fuel ih =>
    intro listed j a w hk hs hf hl h
    have hready : ∀ i, i ∈ Region.ready .any ops listed → i = j ∧ i < ops.size := fun i hi => by
      obtain ⟨h1, o, h2, h3⟩ := mem_ready.1 hi
      have hlt := (Array.getElem?_eq_some_iff.1 h2).1
      rw [getD_tf hs hlt] at h1
      have hij : j ≤ i := by
        rcases Nat.lt_or_ge i j with h4 | h4
        · rw [(hl i hlt).2 h4] at h1; cases h1
        · exact h4
      refine ⟨?_, hlt⟩
      rcases Nat.lt_or_ge j i with h4 | h4
      · have hlj : ∀ x, listed.getD x false = true → x < j := fun x hx => by
          rcases Nat.lt_or_ge x ops.size with h5 | h5
          · exact (hl x h5).1 hx
          · simp [Array.getD, hs, Nat.not_lt.2 h5] at hx
        have hlt' := tail_listed (L := fun x => x < j) (fun x ox hox hx e he hb => by have := hd.down x ox hox e he hb; omega) (fun e he hb => hlj _ (h3 e he hb)) (hd.tail i o h2 (by omega)) j h4
        omega
      · omega
    refine ⟨fun hr => ?_, fun i hi => ?_⟩
    · have hj : ops.size ≤ j := by
        rcases Nat.lt_or_ge j ops.size with h1 | h1
        · have : j ∈ Region.ready .any ops listed := by
            refine mem_ready.2 ⟨?_, ops[j], by simp [h1], fun e he hb => ?_⟩
            · rw [getD_tf hs h1]
              cases hh : listed.getD j false
              · rfl
              · have := (hl j h1).1 hh; omega
            · have := hd.down j ops[j] (by simp [h1]) e he hb
              exact (hl e.on (by omega)).2 this
          rw [hr] at this; cases this
        · exact h1
      rw [List.drop_eq_nil_of_le (by simpa using hj)] at h
      exact h
    · obtain ⟨rfl, hlt⟩ := hready i hi
      have hoi : ops[i]? = some ops[i] := by simp [hlt]
      have hdrop : ops.toList.drop i = ops[i] :: ops.toList.drop (i + 1) := by
        rw [List.drop_eq_getElem_cons (by simpa using hlt)]; simp
      rw [hdrop] at h
      have hl1 : listed.getD i true = false := (mem_ready.1 hi).1
      have hnext : ∀ a w, wpList P ops Qc (ops.toList.drop (i + 1)) a w → wpAny P .any ops Qc fuel (listed.setIfInBounds i true) a w := fun a w hw => by
        refine ih _ (i + 1) a w (by omega) (by simp [hs]) (by have := unl_set hlt hs hl1; omega) (fun x hx => ?_) hw
        by_cases hxi : i = x
        · subst hxi
          simp [Array.getD, hs, hx]
        · rw [getD_set_ne _ hxi, hl x hx]; omega
      unfold wpOp
      rw [hoi]
      unfold wpList at h
      simp only
      split
      · rename_i hw
        rw [if_pos hw] at h
        exact h.imp (Oper.wp_mono hnext) id
      · rename_i hw
        rw [if_neg hw] at h
        exact hnext _ _ h
end
end Go.AM
end
section
set_option linter.unusedVariables false
set_option linter.unusedSimpArgs false
namespace Go.AM
section
variable {P : Program} {ge : GEnv} {st : St} {Q : Exit → St → Prop} {ops : Array Oper}
theorem Rep.same {G : Gh} {s s' : St} {a : Act} {w : World} (hr : Rep P ge G s a w) (hn : s'.n = s.n) (hh : s'.h = s.h) (ht : ∀ t, lk s'.tm t = lk s.tm t) : Rep P ge G s' a w :=
  ⟨by rw [hh]; exact hr.rh, fun t => by rw [ht]; exact hr.tm t, by rw [hn]; exact hr.n, hr.d⟩
structure DInv (ops : Array Oper) (k : Nat) (st0 : St) (vs : List V) (listed : Array Bool) (S : St) : Prop where
  n : S.n = st0.n
  h : S.h = st0.h
  one : ∀ (i : Nat) (o : Oper) (t : Nat), i < k → ops[i]? = some o → o.dst = some t → listed.getD i false = true → lk S.tm t = vs.getD i .junk
  old : ∀ (t : Nat), (∀ (i : Nat) (o : Oper), i < k → ops[i]? = some o → listed.getD i false = true → o.dst ≠ some t) → lk S.tm t = lk st0.tm t
  closed : ∀ (j : Nat) (o : Oper), ops[j]? = some o → listed.getD j false = true → ∀ e ∈ o.after, Region.binds .any e = true → listed.getD e.on false = true
  size : listed.size = ops.size
theorem take_get {ops : Array Oper} {k i : Nat} {o : Oper} (hi : i < k) (h : ops[i]? = some o) : (ops.toList.take k)[i]? = some o := by
  rw [List.getElem?_take_of_lt hi]; simpa using h
theorem get_take {ops : Array Oper} {k i : Nat} {o : Oper} (h : (ops.toList.take k)[i]? = some o) : i < k ∧ ops[i]? = some o := by
  rw [List.getElem?_take] at h
  split at h
  · rename_i hi; exact ⟨hi, by simpa using h⟩
  · cases h
theorem apart_take {k : Nat} (hd : DrawOk ops k) : Apart (ops.toList.take k) := fun i j o o' t hij h1 h2 hdst => by
  obtain ⟨a1, a2⟩ := get_take h1
  obtain ⟨b1, b2⟩ := get_take h2
  exact (hd.apart i j o o' t a1 b1 (by omega) a2 b2 hdst).1
theorem apart_mono {l : List Oper} (h : Apart l) (m : Nat) : Apart (l.take m) := fun i j o o' t hij h1 h2 => by
  rw [List.getElem?_take] at h1 h2
  split at h1 <;> split at h2 <;> first | exact h i j o o' t hij h1 h2 | (cases h1; done) | (cases h2; done)
/-- What is looked at is the same as in order. -/
theorem DInv.look {k : Nat} {st0 S : St} {vs : List V} {listed : Array Bool} (hd : DrawOk ops k) (hrun : Run P ge ops st0 (ops.toList.take k) vs) (hI : DInv ops k st0 vs listed S)
    {i : Nat} {o : Oper} (hi : i < k) (ho : ops[i]? = some o) (hready : i ∈ Region.ready .any ops listed) :
    ∀ t ∈ o.looksAt ops, lk S.tm t = lk (fin st0 ((ops.toList.take k).take i) (vs.take i)).tm t := by
  intro t ht
  obtain ⟨hni, o', ho', haft⟩ := mem_ready.1 hready
  rw [ho] at ho'; cases ho'
  have hlt := (Array.getElem?_eq_some_iff.1 ho).1
  rw [getD_tf hI.size hlt] at hni
  have hap := apart_take hd
  by_cases hw : ∃ j oj, j < i ∧ ops[j]? = some oj ∧ oj.dst = some t
  · obtain ⟨j, oj, hji, hoj, hdst⟩ := hw
    have hb := (hd.apart j i oj o t (by omega) hi (by omega) hoj ho hdst).2 ht
    have hl : listed.getD j false = true := by
      rcases hb with hb | hb
      · obtain ⟨e, he, hbi, rfl⟩ := beforeB_spec hb
        exact haft e he hbi
      · obtain ⟨e, he, hbi, rfl⟩ := beforeB_spec hb
        have := hd.down j oj hoj e he hbi
        omega
    rw [hI.one j oj t (by omega) hoj hdst hl]
    have h1 : ((ops.toList.take k).take i)[j]? = some oj := by rw [List.getElem?_take_of_lt hji]; exact take_get (by omega) hoj
    rw [fin_new _ _ _ j oj t (by simp [hrun.len]) (apart_mono hap i) h1 hdst]
    simp [List.getD, List.getElem?_take_of_lt hji]
  · have h1 : lk (fin st0 ((ops.toList.take k).take i) (vs.take i)).tm t = lk st0.tm t := by
      refine fin_old _ _ _ t fun x hx hdx => ?_
      obtain ⟨j, hj⟩ := List.getElem?_of_mem hx
      rw [List.getElem?_take] at hj
      split at hj
      · rename_i hji
        exact hw ⟨j, x, hji, (get_take hj).2, hdx⟩
      · cases hj
    rw [h1]
    refine hI.old t fun j oj hjk hoj hlj hdst => ?_
    rcases Nat.lt_trichotomy j i with h2 | h2 | h2
    · exact hw ⟨j, oj, h2, hoj, hdst⟩
    · subst h2; rw [hni] at hlj; cases hlj
    · rcases (hd.apart j i oj o t hjk hi (by omega) hoj ho hdst).2 ht with hb | hb
      · obtain ⟨e, he, hbi, rfl⟩ := beforeB_spec hb
        have := hd.down i o ho e he hbi
        omega
      · obtain ⟨e, he, hbi, rfl⟩ := beforeB_spec hb
        rw [hI.closed j oj hoj hlj e he hbi] at hni; cases hni
theorem DInv.fin {k : Nat} {st0 S : St} {vs : List V} {listed : Array Bool} (hd : DrawOk ops k) (hrun : Run P ge ops st0 (ops.toList.take k) vs) (hI : DInv ops k st0 vs listed S)
    (hall : ∀ i, i < k → i < ops.size → listed.getD i false = true) : ∀ t, lk (fin st0 (ops.toList.take k) vs).tm t = lk S.tm t := by
  intro t
  by_cases hw : ∃ i o, i < k ∧ ops[i]? = some o ∧ o.dst = some t
  · obtain ⟨i, o, hi, ho, hdst⟩ := hw
    rw [hI.one i o t hi ho hdst (hall i hi (Array.getElem?_eq_some_iff.1 ho).1)]
    exact fin_new _ _ _ i o t hrun.len (apart_take hd) (take_get hi ho) hdst
  · rw [hI.old t fun i o hi ho _ hdst => hw ⟨i, o, hi, ho, hdst⟩]
    refine fin_old _ _ _ t fun x hx hdx => ?_
    obtain ⟨j, hj⟩ := List.getElem?_of_mem hx
    obtain ⟨h1, h2⟩ := get_take hj
    exact hw ⟨j, x, h1, h2, hdx⟩
theorem wpOp_of_AS {G : Gh} {S S' : St} {a : Act} {w : World} {o : Oper} {i : Nat} {Qc : Exit → Act → World → Prop} {K : Act → World → Prop} (ho : ops[i]? = some o)
    (h : AS P ge ops [o] (fun e s => e = .normal ∧ s = S') S) (hr : Rep P ge G S a w) (hK : ∀ G' a' w', Rep P ge G' S' a' w' → Ext G S.h w G' S'.h w' → K a' w') : wpOp P ops Qc i K a w := by
  have h1 := h G a w hr
  have hk : ∀ a' w', wpList P ops (CPost P ge (fun e s => e = .normal ∧ s = S') G S.h w) [] a' w' → K a' w' := fun a' w' h => by
    unfold wpList at h
    obtain ⟨G', s, ⟨_, rfl⟩, r, x⟩ := h
    exact hK G' a' w' r x
  have hq : ∀ e a' w', e ≠ .normal → ¬ CPost P ge (fun e s => e = .normal ∧ s = S') G S.h w e a' w' := fun e a' w' hne ⟨_, _, ⟨h, _⟩, _⟩ => hne h
  unfold wpOp
  rw [ho]
  unfold wpList at h1
  simp only
  split
  · rename_i hw
    rw [if_pos hw] at h1
    rcases h1 with h1 | ⟨_, a0, w0, h1⟩
    · refine .inl ?_
      unfold Oper.wp at h1 ⊢
      generalize (execOp a.eval o).run P w = r at *
      cases r with
      | ok n w' =>
        cases n <;> simp only [Oper.upon] at h1 ⊢ <;> first
          | exact hk _ _ h1
          | exact Calls.mono h1 (fun e w'' he => by
              cases e <;> first
                | exact hk _ _ he
                | exact absurd he (hq _ _ _ (by simp))
                | (obtain ⟨_, _, he⟩ := he; exact absurd he (hq _ _ _ (by simp))))
          | exact Rows.mono h1 (fun _ _ he => hk _ _ he)
      | halt x w' => cases x <;> simp only [Oper.upon] at h1 ⊢ <;> exact absurd h1 (hq _ _ _ (by simp))
    · exact absurd h1 (hq _ _ _ (by simp))
  · rename_i hw
    rw [if_neg hw] at h1
    exact hk _ _ h1
theorem wpAny_draw {k : Nat} {st0 : St} {vs : List V} {G0 : Gh} {w0 : World} (hd : DrawOk ops k) (hrun : Run P ge ops st0 (ops.toList.take k) vs) (htail : AS P ge ops (ops.toList.drop k) Q (fin st0 (ops.toList.take k) vs)) :
    ∀ (fuel : Nat) (listed : Array Bool) (S : St) (G : Gh) (a : Act) (w : World), DInv ops k st0 vs listed S → unl ops listed ≤ fuel → (∀ j, k ≤ j → j < ops.size → listed.getD j false = false) →
      Rep P ge G S a w → Ext G0 st0.h w0 G S.h w → wpAny P .any ops (CPost P ge Q G0 st0.h w0) fuel listed a w := by
  intro fuel
  induction fuel with
  | zero =>
    intro listed S G a w hI hf hk hr hx
    have hall : ∀ i, i < ops.size → listed.getD i false = true := fun i hi => by
      have : ((List.range ops.size).filter fun j => !listed.getD j true) = [] := List.eq_nil_of_length_eq_zero (Nat.le_zero.1 hf)
      have := List.filter_eq_nil_iff.1 this i (List.mem_range.2 hi)
      rw [← getD_tf hI.size hi]; simpa using this
    have hs := hI.fin hd hrun fun i _ hi => hall i hi
    have h1 := htail G a w (hr.same (by rw [(fin_n _ _ _).1, hI.n]) (by rw [(fin_n _ _ _).2, hI.h]) hs)
    rw [(fin_n _ _ _).2, ← hI.h] at h1
    have hks : ops.size ≤ k := by
      rcases Nat.lt_or_ge k ops.size with h2 | h2
      · have := hk k (Nat.le_refl _) h2; rw [hall k h2] at this; cases this
      · exact h2
    refine wpAny_tail hd 0 listed k a w (Nat.le_refl _) hI.size hf (fun i hi => ⟨fun _ => by omega, fun _ => hall i hi⟩) ?_
    exact wpList_mono' (fun _ _ _ hp => hp.mono hx fun _ _ h => h) h1
  | succ fuel ih =>
    intro listed S G a w hI hf hk hr hx
    by_cases hall : ∀ i, i < k → i < ops.size → listed.getD i false = true
    · have hs := hI.fin hd hrun hall
      have h1 := htail G a w (hr.same (by rw [(fin_n _ _ _).1, hI.n]) (by rw [(fin_n _ _ _).2, hI.h]) hs)
      rw [(fin_n _ _ _).2, ← hI.h] at h1
      refine wpAny_tail hd (fuel + 1) listed k a w (Nat.le_refl _) hI.size hf (fun i hi => ⟨fun h => ?_, fun h => hall i h hi⟩) (wpList_mono' (fun _ _ _ hp => hp.mono hx fun _ _ h => h) h1)
      rcases Nat.lt_or_ge i k with h2 | h2
      · exact h2
      · rw [hk i h2 hi] at h; cases h
    · have hlow : ∀ i, i ∈ Region.ready .any ops listed → i < k := fun i hi => by
        rcases Nat.lt_or_ge i k with h2 | h2
        · exact h2
        · exfalso
          refine hall fun j hj hjs => ?_
          obtain ⟨h1, o, h3, h4⟩ := mem_ready.1 hi
          exact tail_listed (L := fun x => listed.getD x false = true) hI.closed h4 (hd.tail i o h3 h2) j (by omega)
      refine ⟨fun hrdy => ?_, fun i hi => ?_⟩
      · exfalso
        -- the first one that is not listed is ready
        have key : ∀ (m : Nat) (i : Nat), i < m → i < ops.size → listed.getD i false = true := by
          intro m
          induction m with
          | zero => intro i hi; omega
          | succ m ihm =>
            intro i hi hs
            rcases Nat.lt_or_ge i m with h1 | h1
            · exact ihm i h1 hs
            · have him : i = m := by omega
              subst him
              cases hh : listed.getD i false
              · have : i ∈ Region.ready .any ops listed := by
                  refine mem_ready.2 ⟨by rw [getD_tf hI.size hs]; exact hh, ops[i], by simp [hs], fun e he hb => ?_⟩
                  have := hd.down i ops[i] (by simp [hs]) e he hb
                  exact ihm e.on this (by omega)
                rw [hrdy] at this; cases this
              · rfl
        exact hall fun i hi hs => key (i + 1) i (by omega) hs
      · have hik := hlow i hi
        obtain ⟨hni, o, ho, haft⟩ := mem_ready.1 hi
        have hlt := (Array.getElem?_eq_some_iff.1 ho).1
        obtain ⟨hps, hdst⟩ := hrun.at (take_get hik ho)
        have hps' : PStep P ge ops S o (vs.getD i .junk) := hps.congr (by rw [(fin_n _ _ _).1, hI.n]) (by rw [(fin_n _ _ _).2, hI.h]) (fun t ht => hI.look hd hrun hik ho hi t ht)
        have hdst' : dstOk S.n o.dst = true := by rw [hI.n]; exact hdst
        have has : AS P ge ops [o] (fun e s => e = .normal ∧ s = { S with tm := putD o.dst (vs.getD i .junk) S.tm }) S := hps'.sound hdst' (AS_nil ⟨rfl, rfl⟩)
        refine wpOp_of_AS ho has hr fun G' a' w' hr' hx' => ?_
        refine ih _ { S with tm := putD o.dst (vs.getD i .junk) S.tm } G' a' w' ⟨hI.n, hI.h, ?_, ?_, ?_, by simp [hI.size]⟩ (by have := unl_set hlt hI.size hni; omega) ?_ hr' (hx.trans hx')
        · intro x ox t hxk hox hdx hlx
          show lk (putD o.dst _ S.tm) t = _
          rw [lk_putD]
          by_cases hxi : i = x
          · subst hxi; rw [ho] at hox; cases hox; rw [if_pos hdx]
          · rw [getD_set_ne _ hxi] at hlx
            rw [if_neg (fun hod => (hd.apart i x o ox t hik hxk hxi ho hox hod).1 hdx)]
            exact hI.one x ox t hxk hox hdx hlx
        · intro t ht
          show lk (putD o.dst _ S.tm) t = _
          rw [lk_putD, if_neg (ht i o hik ho (by simp [Array.getD, hI.size, hlt]))]
          refine hI.old t fun x ox hxk hox hlx => ht x ox hxk hox (getD_set_true hlx)
        · intro x ox hox hlx e he hb
          by_cases hxi : i = x
          · subst hxi; rw [ho] at hox; cases hox
            exact getD_set_true (haft e he hb)
          · rw [getD_set_ne _ hxi] at hlx
            exact getD_set_true (hI.closed x ox hox hlx e he hb)
        · intro j hj hjs
          rw [getD_set_ne _ (by omega)]
          exact hk j hj hjs
theorem Rep.drawn {G : Gh} {a : Act} {w : World} (hr : Rep P ge G st a w) (n : Nat) : ∃ G', Rep P ge G' st a { w with drawn := n } ∧ Ext G st.h w G' st.h { w with drawn := n } := by
  have kept : Kept G w G { w with drawn := n } := ⟨⟨Nat.le_refl _, fun _ _ => rfl, rfl, ⟨rfl, rfl⟩⟩, fun _ _ => rfl, hr.rh.fzlt⟩
  obtain ⟨h1, h2⟩ := kept.rh hr.rh
  exact ⟨_, ⟨h1, fun t => (hr.tm t).mono h2.le, hr.n, hr.d⟩, h2⟩
/-- A region that draws its order: pure operations, k of them, and a chain behind them. -/
theorem AW_region_draw {id k : Nat} {vs : List V} (hm : P.follows .mixedOrders = true) (hd : drawOk ops k = true) (hrun : Run P ge ops st (ops.toList.take k) vs) (htail : AS P ge ops (ops.toList.drop k) Q (fin st (ops.toList.take k) vs)) :
    AW P ge (.region id ops true) Q st := by
  intro G a w hr
  refine wp_region_any hm ?_
  obtain ⟨G', hr', hx⟩ := hr.drawn (w.drawn + 1)
  have hrep : ∀ i, (Array.replicate ops.size false).getD i false = false := fun i => by
    simp only [Array.getD_eq_getD_getElem?, Array.getElem?_replicate]; split <;> rfl
  refine wpAny_draw (drawOk_spec hd) hrun htail _ _ st G' a _ ⟨rfl, rfl, ?_, fun _ _ => rfl, ?_, by simp⟩ ?_ (fun j _ _ => hrep j) hr' hx
  · intro i o t _ _ _ h; rw [hrep] at h; cases h
  · intro j o _ h; rw [hrep] at h; cases h
  · unfold unl; exact Nat.le_trans (List.length_filter_le _ _) (by simp)
end
end Go.AM
end
