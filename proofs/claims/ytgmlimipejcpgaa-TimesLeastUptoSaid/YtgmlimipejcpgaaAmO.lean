/-
  YtgmlimipejcpgaaAmO: a step of the proof of a law of the program: what this text proves holds under the hypotheses that its theorems name, and no others.
-/
import Derived.Test.YtgmlimipejcpgaaAmN
/-! AM, part O: the walk of a region that draws its order. -/
set_option linter.unusedVariables false
set_option linter.unusedSimpArgs false
namespace Go.AM
section
variable {P : Program} {ge : GEnv} {st : St} {Q : Exit → St → Prop} {ops : Array Oper} {K : St → Prop}
variable {d : Option Tmp} {t : TypeId} {p : String} {af : Array Edge}

/-- A walk of pure operations. -/
def AP (P : Program) (ge : GEnv) (ops : Array Oper) (K : St → Prop) : List Oper → St → Prop
  | [], st => K st
  | o :: r, st => ∃ v, dstOk st.n o.dst = true ∧ PStep P ge ops st o v ∧ AP P ge ops K r { st with tm := putD o.dst v st.tm }
theorem AP.run : ∀ {l : List Oper} {st : St}, AP P ge ops K l st → ∃ vs, Run P ge ops st l vs ∧ K (fin st l vs)
  | [], st, h => ⟨[], trivial, h⟩
  | o :: r, st, ⟨v, h1, h2, h3⟩ =>
    let ⟨vs, h4, h5⟩ := h3.run
    ⟨v :: vs, ⟨h1, h2, h4⟩, h5⟩

mutual
def APx (P : Program) (ge : GEnv) (ops : Array Oper) (K : St → Prop) : List Oper → St → Prop
  | [], st => K st
  | o :: rest, st =>
    match o.guard with
    | none =>
      if stillOp o.op = true then
        dstOk st.n o.dst = true ∧ opOk P ge st o.op ∧ APx P ge ops K rest ⟨st.n, putD o.dst (opVal P ge st o.op).1 st.tm, st.h⟩
      else AP P ge ops K (o :: rest) st
    | some (j, want) =>
      match gdst ops j with
      | none => False
      | some dj => dj < st.n ∧ gOk (lk st.tm dj) = true ∧ dstOk st.n o.dst = true ∧ APg P ge ops K (gB (lk st.tm dj) want) o rest st
  termination_by l _ => 2 * l.length
def APg (P : Program) (ge : GEnv) (ops : Array Oper) (K : St → Prop) (b : Bool) (o : Oper) (rest : List Oper) (st : St) : Prop :=
  (b = true → if stillOp o.op = true then opOk P ge st o.op ∧ APx P ge ops K rest ⟨st.n, putD o.dst (opVal P ge st o.op).1 st.tm, st.h⟩
           else AP P ge ops K ({ o with guard := none } :: rest) st) ∧
  (b = false → APx P ge ops K rest ⟨st.n, putD o.dst .void st.tm, st.h⟩)
  termination_by 2 * rest.length + 1
end
@[simp] theorem APx_nil : APx P ge ops K [] st = K st := by rw [APx]
@[simp] theorem APx_plain {rest : List Oper} {op : Op} : APx P ge ops K (⟨d, op, t, p, af, none⟩ :: rest) st =
    if stillOp op = true then dstOk st.n d = true ∧ opOk P ge st op ∧ APx P ge ops K rest ⟨st.n, putD d (opVal P ge st op).1 st.tm, st.h⟩ else AP P ge ops K (⟨d, op, t, p, af, none⟩ :: rest) st := by rw [APx]
@[simp] theorem APx_guard {rest : List Oper} {op : Op} {j : Nat} {want : Bool} : APx P ge ops K (⟨d, op, t, p, af, some (j, want)⟩ :: rest) st =
    match gdst ops j with
    | none => False
    | some dj => dj < st.n ∧ gOk (lk st.tm dj) = true ∧ dstOk st.n d = true ∧ APg P ge ops K (gB (lk st.tm dj) want) ⟨d, op, t, p, af, some (j, want)⟩ rest st := by rw [APx]
@[simp] theorem APg_true {rest : List Oper} {op : Op} {gg : Option (Nat × Bool)} : APg P ge ops K true ⟨d, op, t, p, af, gg⟩ rest st =
    if stillOp op = true then opOk P ge st op ∧ APx P ge ops K rest ⟨st.n, putD d (opVal P ge st op).1 st.tm, st.h⟩ else AP P ge ops K (⟨d, op, t, p, af, none⟩ :: rest) st := by rw [APg]; simp
@[simp] theorem APg_false {rest : List Oper} {op : Op} {gg : Option (Nat × Bool)} : APg P ge ops K false ⟨d, op, t, p, af, gg⟩ rest st = APx P ge ops K rest ⟨st.n, putD d .void st.tm, st.h⟩ := by rw [APg]; simp
theorem APg_split {rest : List Oper} {o : Oper} {b : Bool} (h1 : b = true → APg P ge ops K true o rest st) (h2 : b = false → APg P ge ops K false o rest st) : APg P ge ops K b o rest st := by
  cases b
  · exact h2 rfl
  · exact h1 rfl
theorem APg_split_not {rest : List Oper} {o : Oper} {b : Bool} (h1 : b = false → APg P ge ops K true o rest st) (h2 : b = true → APg P ge ops K false o rest st) : APg P ge ops K (!b) o rest st := by
  cases b
  · exact h1 rfl
  · exact h2 rfl
theorem APg_split_dec {rest : List Oper} {o : Oper} {b : Prop} [Decidable b] (h1 : b → APg P ge ops K true o rest st) (h2 : ¬ b → APg P ge ops K false o rest st) : APg P ge ops K (decide b) o rest st := by
  by_cases h : b
  · rw [decide_eq_true h]; exact h1 h
  · rw [decide_eq_false h]; exact h2 h
theorem APg_split_notdec {rest : List Oper} {o : Oper} {b : Prop} [Decidable b] (h1 : ¬ b → APg P ge ops K true o rest st) (h2 : b → APg P ge ops K false o rest st) : APg P ge ops K (!decide b) o rest st :=
  APg_split_not (fun h => h1 (of_decide_eq_false h)) (fun h => h2 (of_decide_eq_true h))

theorem AP_of_APx : ∀ {l : List Oper} {st : St}, APx P ge ops K l st → AP P ge ops K l st
  | [], st, h => by rw [APx] at h; exact h
  | o :: rest, st, h => by
    rw [APx] at h
    split at h
    · rename_i hg
      split at h
      · rename_i hp
        obtain ⟨h1, h2, h3⟩ := h
        exact ⟨_, h1, by unfold PStep; rw [hg]; exact .inl ⟨hp, h2, rfl⟩, AP_of_APx h3⟩
      · exact h
    · rename_i j want hg
      split at h
      · exact h.elim
      · rename_i dj hdj
        obtain ⟨h1, h2, h3, h4⟩ := h
        rw [APg] at h4
        obtain ⟨h4, h5⟩ := h4
        cases hgb : gB (lk st.tm dj) want
        · exact ⟨.void, h3, by unfold PStep; rw [hg]; exact ⟨dj, hdj, h1, h2, fun h => (by rw [hgb] at h; cases h), fun _ => rfl⟩, AP_of_APx (h5 hgb)⟩
        · have h6 := h4 hgb
          split at h6
          · rename_i hp
            obtain ⟨h7, h8⟩ := h6
            exact ⟨_, h3, by unfold PStep; rw [hg]; exact ⟨dj, hdj, h1, h2, fun _ => .inl ⟨hp, h7, rfl⟩, fun h => (by rw [hgb] at h; cases h)⟩, AP_of_APx h8⟩
          · obtain ⟨v, h7, h8, h9⟩ := h6
            refine ⟨v, h3, ?_, h9⟩
            unfold PStep at h8 ⊢
            rw [hg]
            exact ⟨dj, hdj, h1, h2, fun _ => h8, fun h => (by rw [hgb] at h; cases h)⟩

theorem AP_call1 {rest : List Oper} {x : Operand} {xs : Array Operand} {ts : Array TypeId} {f : Nat} {A C args : List V} {r : V}
    (hx : ev ge st.tm x = .fn (.func f) A C) (ha : A ++ evs ge st.tm xs.toList ++ C = args) (hc : PCall P ge f args r) (hf : V.isFs args = true) (hp : r.plain = true) (hd : dstOk st.n d = true)
    (h : APx P ge ops K rest ⟨st.n, putD d r st.tm, st.h⟩) :
    AP P ge ops K (⟨d, .call { callee := .value x, args := xs, argTypes := ts }, t, p, af, none⟩ :: rest) st := by
  subst ha
  rw [evs_eq] at hc hf
  exact ⟨r, hd, .inr ⟨x, xs, ts, f, A, C, rfl, hx, hc, hf, hp⟩, AP_of_APx h⟩

theorem AW_region_APx (k : Nat) {id : Nat} (hm : P.follows .mixedOrders = true) (hd : drawOk ops k = true) (h : APx P ge ops (AO P ge ops Q (ops.toList.drop k)) (ops.toList.take k) st) : AW P ge (.region id ops true) Q st := by
  obtain ⟨vs, h1, h2⟩ := (AP_of_APx h).run
  exact AW_region_draw hm hd h1 (AS_of_AO h2)
end
attribute [simp] stillOp
end Go.AM
namespace Go.AM
theorem AWh {P : Program} {ge : GEnv} {c : Code} {Q : Exit → St → Prop} {K : St → Prop} {s : St} (h : ∀ s, AW P ge c Q s → K s) (h1 : AW P ge c Q s) : K s := h s h1
end Go.AM
