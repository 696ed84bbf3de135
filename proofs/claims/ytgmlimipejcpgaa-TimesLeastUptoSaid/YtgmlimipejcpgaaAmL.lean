/-
  YtgmlimipejcpgaaAmL: a step of the proof of a law of the program: what this text proves holds under the hypotheses that its theorems name, and no others.
-/
import Derived.Test.YtgmlimipejcpgaaAmK
import Derived.Orders
/-! AM, part L: regions that draw their order: pure operations, then a chain. -/
set_option linter.unusedVariables false
set_option linter.unusedSimpArgs false
namespace Go.AM
section
variable {P : Program} {ge : GEnv} {st st' : St} {Q : Exit → St → Prop} {ops : Array Oper}

theorem evs_congr {tm tm' : List (Nat × V)} : ∀ (l : List Operand), (∀ x ∈ l, ev ge tm' x = ev ge tm x) → evs ge tm' l = evs ge tm l
  | [], _ => rfl
  | x :: r, h => by simp only [evs, h x (List.mem_cons_self ..), evs_congr r fun y hy => h y (List.mem_cons_of_mem _ hy)]
theorem partsV_congr {tm tm' : List (Nat × V)} : ∀ (l : List (Nat × Operand)), (∀ x ∈ l, ev ge tm' x.2 = ev ge tm x.2) → partsV ge tm' l = partsV ge tm l
  | [], _ => rfl
  | (i, x) :: r, h => by
    have h1 := h (i, x) (List.mem_cons_self ..)
    simp only at h1
    simp only [partsV, h1, partsV_congr r fun y hy => h y (List.mem_cons_of_mem _ hy)]

/-- An operation looks at its operands alone. -/
theorem op_congr {op : Op} (hs : stillOp op = true) (hh : st'.h = st.h) (he : ∀ x ∈ op.operands, ev ge st'.tm x = ev ge st.tm x) (ho : opOk P ge st op) :
    opOk P ge st' op ∧ (opVal P ge st' op).1 = (opVal P ge st op).1 := by
  unfold stillOp at hs
  split at hs
  case h_1 x => simp [Op.operands, -ev] at he; simp only [opOk, opVal]; rw [he]; exact ⟨trivial, rfl⟩
  case h_2 x => simp [Op.operands, -ev] at he; simp only [opOk, opVal]; rw [he]; exact ⟨trivial, rfl⟩
  case h_3 a b c => simp [Op.operands, -ev] at he; simp only [opOk, opVal] at ho ⊢; obtain ⟨e1, e2, e3⟩ := he; rw [e1, e2, e3]; exact ⟨ho, rfl⟩
  case h_4 T parts =>
    have e : partsV ge st'.tm parts.toList = partsV ge st.tm parts.toList := partsV_congr _ fun x hx => he x.2 (by simp only [Op.operands]; simp; exact ⟨x.1, by simpa using hx⟩)
    simp only [opOk, opVal] at ho ⊢; rw [e]; exact ⟨ho, rfl⟩
  case h_5 e x => simp [Op.operands, -ev] at he; simp only [opOk, opVal] at ho ⊢; rw [he, hh]; exact ⟨ho, rfl⟩
  case h_6 x => simp [Op.operands, -ev] at he; simp only [opOk, opVal] at ho ⊢; rw [he]; exact ⟨ho, rfl⟩
  case h_7 op T x y T' => simp [Op.operands, -ev] at he; obtain ⟨e1, e2⟩ := he; simp only [opOk, opVal] at ho ⊢; rw [e1, e2]; exact ⟨ho, rfl⟩
  case h_8 op T x => simp [Op.operands, -ev] at he; simp only [opOk, opVal] at ho ⊢; rw [he]; exact ⟨ho, rfl⟩
  case h_9 s e x => simp [Op.operands, -ev] at he; simp only [opOk, opVal] at ho ⊢; rw [he]; exact ⟨ho, rfl⟩
  case h_10 s x f => simp [Op.operands, -ev] at he; simp only [opOk, opVal] at ho ⊢; rw [he]; exact ⟨ho, rfl⟩
  case h_11 s x y => simp [Op.operands, -ev] at he; obtain ⟨e1, e2⟩ := he; simp only [opOk, opVal] at ho ⊢; rw [e1, e2, hh]; exact ⟨ho, rfl⟩
  case h_12 s x y => simp [Op.operands, -ev] at he; obtain ⟨e1, e2⟩ := he; simp only [opOk, opVal] at ho ⊢; rw [e1, e2]; exact ⟨ho, rfl⟩
  case h_13 x i => simp [Op.operands, -ev] at he; simp only [opOk, opVal] at ho ⊢; rw [he]; exact ⟨ho, rfl⟩
  case h_14 f A C =>
    have e1 : evs ge st'.tm A.toList = evs ge st.tm A.toList := evs_congr _ fun x hx => he x (by simp only [Op.operands]; simp; exact .inl (by simpa using hx))
    have e2 : evs ge st'.tm C.toList = evs ge st.tm C.toList := evs_congr _ fun x hx => he x (by simp only [Op.operands]; simp; exact .inr (by simpa using hx))
    simp only [opOk, opVal]; rw [e1, e2]; exact ⟨trivial, rfl⟩
  case h_15 T x lo hi =>
    have ex := he x (by simp [Op.operands])
    have e1 : ∀ n, bndV ge st'.tm lo n = bndV ge st.tm lo n := fun n => by
      cases lo with
      | none => rfl
      | some y => unfold bndV; simp only; rw [he y (by simp [Op.operands])]
    have e2 : ∀ n, bndV ge st'.tm hi n = bndV ge st.tm hi n := fun n => by
      cases hi with
      | none => rfl
      | some y => unfold bndV; simp only; rw [he y (by simp [Op.operands])]
    have e3 : bndOk ge st'.tm lo = bndOk ge st.tm lo := by
      cases lo with
      | none => rfl
      | some y => unfold bndOk; simp only; rw [he y (by simp [Op.operands])]
    have e4 : bndOk ge st'.tm hi = bndOk ge st.tm hi := by
      cases hi with
      | none => rfl
      | some y => unfold bndOk; simp only; rw [he y (by simp [Op.operands])]
    simp only [opOk, opVal, sliceGood, sliceVal] at ho ⊢
    simp only [ex, e1, e2, e3, e4, hh]
    exact ⟨ho, trivial⟩
  case h_16 xs ts =>
    simp only [opOk, opVal] at ho ⊢
    obtain ⟨h1, h2, h3⟩ := ho
    have ex := he (xs.getD 0 default) (by
      simp only [Op.operands, Call.operands]
      have : 0 < xs.size := by omega
      simp [Array.getD, this])
    rw [ex]; exact ⟨⟨h1, h2, h3⟩, rfl⟩
  case h_17 xs ts =>
    simp only [opOk, opVal] at ho ⊢
    obtain ⟨h1, h2, h3⟩ := ho
    have ex := he (xs.getD 0 default) (by
      simp only [Op.operands, Call.operands]
      have : 0 < xs.size := by omega
      simp [Array.getD, this])
    have ey := he (xs.getD 1 default) (by
      simp only [Op.operands, Call.operands]
      have : 1 < xs.size := by omega
      simp [Array.getD, this])
    rw [ex, ey]; exact ⟨⟨h1, h2, h3⟩, rfl⟩
  case h_18 xs ts =>
    simp only [opOk, opVal] at ho ⊢
    obtain ⟨h1, h2, h3⟩ := ho
    have ex := he (xs.getD 0 default) (by
      simp only [Op.operands, Call.operands]
      have : 0 < xs.size := by omega
      simp [Array.getD, this])
    have ey := he (xs.getD 1 default) (by
      simp only [Op.operands, Call.operands]
      have : 1 < xs.size := by omega
      simp [Array.getD, this])
    rw [ex, ey]; exact ⟨⟨h1, h2, h3⟩, rfl⟩
  case h_19 => cases hs

def CallStep (P : Program) (ge : GEnv) (st : St) (op : Op) (v : V) : Prop :=
  ∃ x xs ts f A C, op = .call { callee := .value x, args := xs, argTypes := ts } ∧ ev ge st.tm x = .fn (.func f) A C ∧ PCall P ge f (A ++ xs.toList.map (ev ge st.tm) ++ C) v ∧
    V.isFs (A ++ xs.toList.map (ev ge st.tm) ++ C) = true ∧ v.plain = true
def Core (P : Program) (ge : GEnv) (st : St) (op : Op) (v : V) : Prop := (stillOp op = true ∧ opOk P ge st op ∧ v = (opVal P ge st op).1) ∨ CallStep P ge st op v

/-- An operation that leaves a value and nothing else. -/
def PStep (P : Program) (ge : GEnv) (ops : Array Oper) (st : St) (o : Oper) (v : V) : Prop := match o.guard with
  | none => Core P ge st o.op v
  | some (j, want) => ∃ dj, gdst ops j = some dj ∧ dj < st.n ∧ gOk (lk st.tm dj) = true ∧ (gB (lk st.tm dj) want = true → Core P ge st o.op v) ∧ (gB (lk st.tm dj) want = false → v = .void)

theorem Core.congr {op : Op} {v : V} (hh : st'.h = st.h) (he : ∀ x ∈ op.operands, ev ge st'.tm x = ev ge st.tm x) (hc : Core P ge st op v) : Core P ge st' op v := by
  rcases hc with ⟨h1, h2, h3⟩ | ⟨x, xs, ts, f, A, C, rfl, h1, h2, h3, h4⟩
  · obtain ⟨h4, h5⟩ := op_congr h1 hh he h2
    exact .inl ⟨h1, h4, h3.trans h5.symm⟩
  · have e1 : xs.toList.map (ev ge st'.tm) = xs.toList.map (ev ge st.tm) := List.map_congr_left fun y hy => he y (by simp [Op.operands, Call.operands]; right; simpa using hy)
    refine .inr ⟨x, xs, ts, f, A, C, rfl, ?_, ?_, ?_, h4⟩
    · rw [he x (by simp [Op.operands, Call.operands])]; exact h1
    · rw [e1]; exact h2
    · rw [e1]; exact h3

theorem ev_congr {o : Oper} (h : ∀ t ∈ o.looksAt ops, lk st'.tm t = lk st.tm t) : ∀ x ∈ o.op.operands, ev ge st'.tm x = ev ge st.tm x := by
  intro x hx
  cases x with
  | tmp t =>
    refine h t ?_
    unfold Oper.looksAt
    exact List.mem_append_left _ (List.mem_filterMap.2 ⟨.tmp t, by simpa using hx, rfl⟩)
  | const _ => rfl
  | global _ => rfl
  | func _ => rfl

theorem PStep.congr {o : Oper} {v : V} (hn : st'.n = st.n) (hh : st'.h = st.h) (he : ∀ t ∈ o.looksAt ops, lk st'.tm t = lk st.tm t) (hc : PStep P ge ops st o v) : PStep P ge ops st' o v := by
  have hev := ev_congr (ge := ge) he
  unfold PStep at hc ⊢
  split at hc
  · exact hc.congr hh hev
  · rename_i j want hg
    obtain ⟨dj, h1, h2, h3, h4, h5⟩ := hc
    have hl : lk st'.tm dj = lk st.tm dj := he dj (by
      unfold Oper.looksAt
      refine List.mem_append_right _ ?_
      rw [hg]
      unfold gdst at h1
      simp only [h1]; simp)
    refine ⟨dj, h1, by rw [hn]; exact h2, by rw [hl]; exact h3, fun h => (h4 (by rw [← hl]; exact h)).congr hh hev, fun h => h5 (by rw [← hl]; exact h)⟩

theorem Core.sound {o : Oper} {rest : List Oper} {v : V} (hg : o.guard = none) (hd : dstOk st.n o.dst = true) (hc : Core P ge st o.op v) (h : AS P ge ops rest Q { st with tm := putD o.dst v st.tm }) : AS P ge ops (o :: rest) Q st := by
  rcases hc with ⟨h1, h2, rfl⟩ | ⟨x, xs, ts, f, A, C, h0, h1, h2, h3, h4⟩
  · have := opS_of_ok (P := P) (ge := ge) (st := st) (d := o.dst) (t := o.type) (p := o.pos) (af := o.after) (g := o.guard) h2
    rw [still_spec h1] at this
    exact AS_op hg hd this h
  · obtain ⟨d, op, t, p, af, g⟩ := o
    simp only at h0 hg hd h
    subst h0; subst hg
    exact AS_pcall h1 hd h2 h3 h4 h

theorem PStep.sound {o : Oper} {rest : List Oper} {v : V} (hd : dstOk st.n o.dst = true) (hc : PStep P ge ops st o v) (h : AS P ge ops rest Q { st with tm := putD o.dst v st.tm }) : AS P ge ops (o :: rest) Q st := by
  unfold PStep at hc
  split at hc
  · rename_i hg; exact hc.sound hg hd h
  · rename_i j want hg
    obtain ⟨dj, h1, h2, h3, h4, h5⟩ := hc
    refine AS_guard_cases hg h1 h2 h3 hd (fun hb => (h4 hb).sound (o := { o with guard := none }) rfl hd h) (fun hb => ?_)
    rw [h5 hb] at h; exact h

/-- A run of pure operations, in order: what they leave. -/
def Run (P : Program) (ge : GEnv) (ops : Array Oper) : St → List Oper → List V → Prop
  | _, [], [] => True
  | st, o :: r, v :: vs => dstOk st.n o.dst = true ∧ PStep P ge ops st o v ∧ Run P ge ops { st with tm := putD o.dst v st.tm } r vs
  | _, _, _ => False
def fin (st : St) : List Oper → List V → St
  | o :: r, v :: vs => fin { st with tm := putD o.dst v st.tm } r vs
  | _, _ => st

theorem Run.len : ∀ {l : List Oper} {vs : List V} {st : St}, Run P ge ops st l vs → vs.length = l.length
  | [], [], _, _ => rfl
  | [], _ :: _, _, h => h.elim
  | _ :: _, [], _, h => h.elim
  | o :: r, v :: vs, st, h => by simp [Run.len h.2.2]
theorem fin_n : ∀ (l : List Oper) (vs : List V) (st : St), (fin st l vs).n = st.n ∧ (fin st l vs).h = st.h
  | [], _, _ => ⟨rfl, rfl⟩
  | _ :: _, [], _ => ⟨rfl, rfl⟩
  | o :: r, v :: vs, st => by simp only [fin]; exact fin_n r vs _
theorem lk_putD {d : Option Tmp} {v : V} {tm : List (Nat × V)} {t : Nat} : lk (putD d v tm) t = if d = some t then v else lk tm t := by
  cases d with
  | none => simp [putD]
  | some u => simp [putD, lk]
theorem fin_old : ∀ (l : List Oper) (vs : List V) (st : St) (t : Nat), (∀ o ∈ l, o.dst ≠ some t) → lk (fin st l vs).tm t = lk st.tm t
  | [], _, _, _, _ => rfl
  | _ :: _, [], _, _, _ => rfl
  | o :: r, v :: vs, st, t, h => by
    simp only [fin]
    rw [fin_old r vs _ t fun o ho => h o (List.mem_cons_of_mem _ ho), lk_putD, if_neg (h o (List.mem_cons_self ..))]
def Apart (l : List Oper) : Prop := ∀ (i j : Nat) (o o' : Oper) (t : Nat), i < j → l[i]? = some o → l[j]? = some o' → o.dst = some t → o'.dst ≠ some t
theorem Apart.tail {o : Oper} {l : List Oper} (h : Apart (o :: l)) : Apart l := fun i j a b t hij h1 h2 => h (i + 1) (j + 1) a b t (by omega) (by simpa using h1) (by simpa using h2)
theorem fin_new : ∀ (l : List Oper) (vs : List V) (st : St) (i : Nat) (o : Oper) (t : Nat), vs.length = l.length → Apart l → l[i]? = some o → o.dst = some t → lk (fin st l vs).tm t = vs.getD i .junk
  | [], _, _, _, _, _, _, _, h, _ => by simp at h
  | _ :: _, [], _, _, _, _, h, _, _, _ => by simp at h
  | o :: r, v :: vs, st, 0, o', t, hl, ha, ho, hd => by
    simp at ho; subst ho
    simp only [fin]
    rw [fin_old r vs _ t ?_, lk_putD, if_pos hd]
    · simp
    · intro o' ho'
      obtain ⟨j, hj⟩ := List.getElem?_of_mem ho'
      exact ha 0 (j + 1) o o' t (by omega) (by simp) (by simpa using hj) hd
  | o :: r, v :: vs, st, i + 1, o', t, hl, ha, ho, hd => by
    simp only [fin]
    rw [fin_new r vs _ i o' t (by simpa using hl) ha.tail (by simpa using ho) hd]
    simp
theorem Run.at : ∀ {l : List Oper} {vs : List V} {st : St} {i : Nat} {o : Oper}, Run P ge ops st l vs → l[i]? = some o →
    PStep P ge ops (fin st (l.take i) (vs.take i)) o (vs.getD i .junk) ∧ dstOk st.n o.dst = true
  | [], _, _, _, _, _, h => by simp at h
  | _ :: _, [], _, _, _, h, _ => h.elim
  | o :: r, v :: vs, st, 0, o', h, ho => by
    simp at ho; subst ho
    simp only [List.take_zero, fin]
    exact ⟨by simpa using h.2.1, h.1⟩
  | o :: r, v :: vs, st, i + 1, o', h, ho => by
    obtain ⟨h1, h2⟩ := Run.at (i := i) h.2.2 (by simpa using ho)
    simp only [List.take_succ_cons, fin]
    exact ⟨by simpa using h1, h2⟩
end
end Go.AM
