/-
  YtbgooadmonnjaaaGreatDoorRc10: steps of the proof of a law of the program: what these texts prove holds under the hypotheses that their theorems name, and no others.
-/
import Derived.Test.YtbgooadmonnjaaaGreatDoorRc09
import Derived.Scope
import Derived.ChangeSlices
import Derived.Below
section
set_option linter.unusedVariables false
set_option linter.unusedSimpArgs false
namespace Go.AM
section
variable {P : Program} {ge : GEnv} {st : St} {Q : Exit → St → Prop} {ops : Array Oper} {K : St → Prop}
variable {d : Option Tmp} {t : TypeId} {p : String} {af : Array Edge}
/-- A walk of pure operations. -/
def AP (P : Program) (ge : GEnv) (ops : Array Oper) (K : St → Prop) : List Oper → St → Prop
  | [], st => K st
  | o :: r, st => ∃ v, dstOk st.n o.dst = true ∧ PStep P ge ops st o v ∧ AP P ge ops K r { st with tm := putD o.dst v st.tm }
theorem AP.run : ∀ {l : List Oper} {st : St}, AP P ge ops K l st → ∃ vs, Run P ge ops st l vs ∧ K (fin st l vs)
  | [], st, h => ⟨[], trivial, h⟩
  | o :: r, st, ⟨v, h1, h2, h3⟩ =>
    let ⟨vs, h4, h5⟩ := h3.run
    ⟨v :: vs, ⟨h1, h2, h4⟩, h5⟩
mutual
def APx (P : Program) (ge : GEnv) (ops : Array Oper) (K : St → Prop) : List Oper → St → Prop
  | [], st => K st
  | o :: rest, st =>
    match o.guard with
    | none =>
      if stillOp o.op = true then
        dstOk st.n o.dst = true ∧ opOk P ge st o.op ∧ APx P ge ops K rest ⟨st.n, putD o.dst (opVal P ge st o.op).1 st.tm, st.h⟩
      else AP P ge ops K (o :: rest) st
    | some (j, want) =>
      match gdst ops j with
      | none => False
      | some dj => dj < st.n ∧ gOk (lk st.tm dj) = true ∧ dstOk st.n o.dst = true ∧ APg P ge ops K (gB (lk st.tm dj) want) o rest st
  termination_by l _ => 2 * l.length
def APg (P : Program) (ge : GEnv) (ops : Array Oper) (K : St → Prop) (b : Bool) (o : Oper) (rest : List Oper) (st : St) : Prop :=
  (b = true → if stillOp o.op = true then opOk P ge st o.op ∧ APx P ge ops K rest ⟨st.n, putD o.dst (opVal P ge st o.op).1 st.tm, st.h⟩
           else AP P ge ops K ({ o with guard := none } :: rest) st) ∧
  (b = false → APx P ge ops K rest ⟨st.n, putD o.dst .void st.tm, st.h⟩)
  termination_by 2 * rest.length + 1
end
@[simp] theorem APx_nil : APx P ge ops K [] st = K st := by rw [APx]
@[simp] theorem APx_plain {rest : List Oper} {op : Op} : APx P ge ops K (⟨d, op, t, p, af, none⟩ :: rest) st =
    if stillOp op = true then dstOk st.n d = true ∧ opOk P ge st op ∧ APx P ge ops K rest ⟨st.n, putD d (opVal P ge st op).1 st.tm, st.h⟩ else AP P ge ops K (⟨d, op, t, p, af, none⟩ :: rest) st := by rw [APx]
@[simp] theorem APx_guard {rest : List Oper} {op : Op} {j : Nat} {want : Bool} : APx P ge ops K (⟨d, op, t, p, af, some (j, want)⟩ :: rest) st =
    match gdst ops j with
    | none => False
    | some dj => dj < st.n ∧ gOk (lk st.tm dj) = true ∧ dstOk st.n d = true ∧ APg P ge ops K (gB (lk st.tm dj) want) ⟨d, op, t, p, af, some (j, want)⟩ rest st := by rw [APx]
@[simp] theorem APg_true {rest : List Oper} {op : Op} {gg : Option (Nat × Bool)} : APg P ge ops K true ⟨d, op, t, p, af, gg⟩ rest st =
    if stillOp op = true then opOk P ge st op ∧ APx P ge ops K rest ⟨st.n, putD d (opVal P ge st op).1 st.tm, st.h⟩ else AP P ge ops K (⟨d, op, t, p, af, none⟩ :: rest) st := by rw [APg]; simp
@[simp] theorem APg_false {rest : List Oper} {op : Op} {gg : Option (Nat × Bool)} : APg P ge ops K false ⟨d, op, t, p, af, gg⟩ rest st = APx P ge ops K rest ⟨st.n, putD d .void st.tm, st.h⟩ := by rw [APg]; simp
theorem APg_split {rest : List Oper} {o : Oper} {b : Bool} (h1 : b = true → APg P ge ops K true o rest st) (h2 : b = false → APg P ge ops K false o rest st) : APg P ge ops K b o rest st := by
  cases b
  · exact h2 rfl
  · exact h1 rfl
theorem APg_split_not {rest : List Oper} {o : Oper} {b : Bool} (h1 : b = false → APg P ge ops K true o rest st) (h2 : b = true → APg P ge ops K false o rest st) : APg P ge ops K (!b) o rest st := by
  cases b
  · exact h1 rfl
  · exact h2 rfl
theorem APg_split_dec {rest : List Oper} {o : Oper} {b : Prop} [Decidable b] (h1 : b → APg P ge ops K true o rest st) (h2 : ¬ b → APg P ge ops K false o rest st) : APg P ge ops K (decide b) o rest st := by
  by_cases h : b
  · rw [decide_eq_true h]; exact h1 h
  · rw [decide_eq_false h]; exact h2 h
theorem APg_split_notdec {rest : List Oper} {o : Oper} {b : Prop} [Decidable b] (h1 : ¬ b → APg P ge ops K true o rest st) (h2 : b → APg P ge ops K false o rest st) : APg P ge ops K (!decide b) o rest st :=
  APg_split_not (fun h => h1 (of_decide_eq_false h)) (fun h => h2 (of_decide_eq_true h))
theorem AP_of_APx : ∀ {l : List Oper} {st : St}, APx P ge ops K l st → AP P ge ops K l st
  | [], st, h => by rw [APx] at h; exact h
  | o :: rest, st, h => by
    rw [APx] at h
    split at h
    · rename_i hg
      split at h
      · rename_i hp
        obtain ⟨h1, h2, h3⟩ := h
        exact ⟨_, h1, by unfold PStep; rw [hg]; exact .inl ⟨hp, h2, rfl⟩, AP_of_APx h3⟩
      · exact h
    · rename_i j want hg
      split at h
      · exact h.elim
      · rename_i dj hdj
        obtain ⟨h1, h2, h3, h4⟩ := h
        rw [APg] at h4
        obtain ⟨h4, h5⟩ := h4
        cases hgb : gB (lk st.tm dj) want
        · exact ⟨.void, h3, by unfold PStep; rw [hg]; exact ⟨dj, hdj, h1, h2, fun h => (by rw [hgb] at h; cases h), fun _ => rfl⟩, AP_of_APx (h5 hgb)⟩
        · have h6 := h4 hgb
          split at h6
          · rename_i hp
            obtain ⟨h7, h8⟩ := h6
            exact ⟨_, h3, by unfold PStep; rw [hg]; exact ⟨dj, hdj, h1, h2, fun _ => .inl ⟨hp, h7, rfl⟩, fun h => (by rw [hgb] at h; cases h)⟩, AP_of_APx h8⟩
          · obtain ⟨v, h7, h8, h9⟩ := h6
            refine ⟨v, h3, ?_, h9⟩
            unfold PStep at h8 ⊢
            rw [hg]
            exact ⟨dj, hdj, h1, h2, fun _ => h8, fun h => (by rw [hgb] at h; cases h)⟩
theorem aP1 {rest : List Oper} {x : Operand} {xs : Array Operand} {ts : Array TypeId} {f : Nat} {A C args : List V} {r : V}
    (hx : ev ge st.tm x = .fn (.func f) A C) (ha : A ++ evs ge st.tm xs.toList ++ C = args) (hc : PCall P ge f args r) (hf : V.isFs args = true) (hp : r.plain = true) (hd : dstOk st.n d = true)
    (h : APx P ge ops K rest ⟨st.n, putD d r st.tm, st.h⟩) :
    AP P ge ops K (⟨d, .call { callee := .value x, args := xs, argTypes := ts }, t, p, af, none⟩ :: rest) st := by
  subst ha
  rw [evs_eq] at hc hf
  exact ⟨r, hd, .inr (.inl ⟨x, xs, ts, f, A, C, rfl, hx, hc, hf, hp⟩), AP_of_APx h⟩
/-- A slice that is built frozen, where the order is drawn. -/
theorem AP_lit {rest : List Oper} {T : TypeId} {len : Nat} {parts : Array (Nat × Operand)} (hd : dstOk st.n d = true) (hb : bsOk P ge st T len parts)
    (h : APx P ge ops K rest ⟨st.n, putD d (.vec (rowsV (List.replicate len (zeroD P (elemOf P T))) (partsV ge st.tm parts.toList)) len) st.tm, st.h⟩) :
    AP P ge ops K (⟨d, .buildSlice T len parts, t, p, af, none⟩ :: rest) st :=
  ⟨_, hd, .inr (.inr (.inl ⟨T, len, parts, rfl, hb, rfl⟩)), AP_of_APx h⟩
theorem aX (k : Nat) {id : Nat} (hm : P.follows .mixedOrders = true) (hd : drawOk ops k = true) (h : APx P ge ops (AO P ge ops Q (ops.toList.drop k)) (ops.toList.take k) st) : AW P ge (.region id ops true) Q st := by
  obtain ⟨vs, h1, h2⟩ := (AP_of_APx h).run
  exact AW_region_draw hm hd h1 (AS_of_AO h2)
end
attribute [simp] stillOp
end Go.AM
namespace Go.AM
theorem AWh {P : Program} {ge : GEnv} {c : Code} {Q : Exit → St → Prop} {K : St → Prop} {s : St} (h : ∀ s, AW P ge c Q s → K s) (h1 : AW P ge c Q s) : K s := h s h1
end Go.AM
end
section
set_option linter.unusedVariables false
namespace Go.AM
section
variable {P : Program} {ge : GEnv} {st : St} {Q : Exit → St → Prop}
def SScope (Q : Exit → St → Prop) : Exit → St → Prop
  | .goto _, _ => False
  | e, st => Q e st
theorem AW_label {l : Nat} (h : Q .normal st) : AW P ge (.label l) Q st := fun G _ w hr => wp_label ⟨G, st, h, hr, .refl _ _ _⟩
theorem AW_scope {c : Code} (h : AW P ge c (SScope Q) st) : AW P ge (.scope c) Q st := by
  intro G a w hr
  refine wp_scope_straight (wp_mono (h G a w hr) ?_)
  rintro e a' w' ⟨G', s', q, r, x⟩
  cases e <;> simp only [SScope, Exit.noGoto] at q ⊢
  all_goals exact ⟨G', s', q, r, x⟩
theorem SScope_normal (h : Q .normal st) : SScope Q .normal st := h
theorem SScope_ret (h : Q .ret st) : SScope Q .ret st := h
theorem SScope_exit {id : Nat} (h : Q (.exit id) st) : SScope Q (.exit id) st := h
end
class Step (g : Prop) (n : outParam Prop) : Prop where
  by1 : n → g
class Split (g : Prop) (a b x y : outParam Prop) : Prop where
  by2 : (a → x) → (b → y) → g
section
variable {P : Program} {ge : GEnv} {st : St} {Q : Exit → St → Prop} {K : St → Prop} {c : Code} {id : Nat} {ops : Array Oper}
instance : Step (AW P ge (.block id c) Q st) (AW P ge c (SBlock id Q) st) := ⟨AW_block⟩
instance : Step (AW P ge .skip Q st) (Q .normal st) := ⟨AW_skip⟩
instance : Step (AW P ge (.exit id) Q st) (Q (.exit id) st) := ⟨AW_exit⟩
instance : Step (AW P ge .ret Q st) (Q .ret st) := ⟨AW_ret⟩
instance : Step (AW P ge (.scope c) Q st) (AW P ge c (SScope Q) st) := ⟨AW_scope⟩
instance : Step (AW P ge (.label id) Q st) (Q .normal st) := ⟨AW_label⟩
instance : Step (SScope Q .normal st) (Q .normal st) := ⟨SScope_normal⟩
instance : Step (SScope Q .ret st) (Q .ret st) := ⟨SScope_ret⟩
instance : Step (SScope Q (.exit id) st) (Q (.exit id) st) := ⟨SScope_exit⟩
instance : Step (SThen K Q .normal st) (K st) := ⟨SThen_normal⟩
instance : Step (SThen K Q .ret st) (Q .ret st) := ⟨SThen_ret⟩
instance : Step (SThen K Q (.exit id) st) (Q (.exit id) st) := ⟨SThen_exit⟩
instance : Step (SBlock id Q .normal st) (Q .normal st) := ⟨SBlock_normal⟩
instance : Step (SBlock id Q .ret st) (Q .ret st) := ⟨SBlock_ret⟩
instance : Step (SBlock id Q (.exit id) st) (Q .normal st) := ⟨SBlock_exit⟩
variable {rest : List Oper} {o : Oper} {b : Bool} {p : Prop} [Decidable p]
instance (priority := 1300) : Split (AOg P ge ops Q (!decide p) o rest st) (¬ p) p (AOg P ge ops Q true o rest st) (AOg P ge ops Q false o rest st) := ⟨AOg_split_notdec⟩
instance (priority := 1200) : Split (AOg P ge ops Q (decide p) o rest st) p (¬ p) (AOg P ge ops Q true o rest st) (AOg P ge ops Q false o rest st) := ⟨AOg_split_dec⟩
instance (priority := 1100) : Split (AOg P ge ops Q (!b) o rest st) (b = false) (b = true) (AOg P ge ops Q true o rest st) (AOg P ge ops Q false o rest st) := ⟨AOg_split_not⟩
instance : Split (AOg P ge ops Q b o rest st) (b = true) (b = false) (AOg P ge ops Q true o rest st) (AOg P ge ops Q false o rest st) := ⟨AOg_split⟩
instance (priority := 1300) : Split (APg P ge ops K (!decide p) o rest st) (¬ p) p (APg P ge ops K true o rest st) (APg P ge ops K false o rest st) := ⟨APg_split_notdec⟩
instance (priority := 1200) : Split (APg P ge ops K (decide p) o rest st) p (¬ p) (APg P ge ops K true o rest st) (APg P ge ops K false o rest st) := ⟨APg_split_dec⟩
instance (priority := 1100) : Split (APg P ge ops K (!b) o rest st) (b = false) (b = true) (APg P ge ops K true o rest st) (APg P ge ops K false o rest st) := ⟨APg_split_not⟩
instance : Split (APg P ge ops K b o rest st) (b = true) (b = false) (APg P ge ops K true o rest st) (APg P ge ops K false o rest st) := ⟨APg_split⟩
theorem cc {x : Operand} {t e : Code} {c : Bool} (hc : ev ge st.tm x = .bool c) (ht : c = true → AW P ge t Q st) (hf : c = false → AW P ge e Q st) : AW P ge (.cond x t e) Q st := AW_cond hc ht hf
/-- Where a condition leads. -/
def Br (c : Bool) (a b : Prop) : Prop := (c = true → a) ∧ (c = false → b)
class Fork (g : Prop) (a b x y : outParam Prop) : Prop where
  by2 : (a → x) → (b → y) → g
theorem cz {x : Operand} {t e : Code} {c : Bool} (hc : ev ge st.tm x = .bool c) (h : Br c (AW P ge t Q st) (AW P ge e Q st)) : AW P ge (.cond x t e) Q st := AW_cond hc h.1 h.2
variable {x y : Prop}
instance : Step (Br true x y) x := ⟨fun h => ⟨fun _ => h, fun h => nomatch h⟩⟩
instance : Step (Br false x y) y := ⟨fun h => ⟨fun h => (nomatch h), fun _ => h⟩⟩
instance (priority := 1300) : Fork (Br (!decide p) x y) (¬ p) p x y := ⟨fun h1 h2 => ⟨fun h => h1 (by simpa using h), fun h => h2 (by simpa using h)⟩⟩
instance (priority := 1200) : Fork (Br (decide p) x y) p (¬ p) x y := ⟨fun h1 h2 => ⟨fun h => h1 (by simpa using h), fun h => h2 (by simpa using h)⟩⟩
instance (priority := 1100) : Fork (Br (!b) x y) (b = false) (b = true) x y := ⟨fun h1 h2 => ⟨fun h => h1 (by simpa using h), fun h => h2 (by simpa using h)⟩⟩
instance : Fork (Br b x y) (b = true) (b = false) x y := ⟨fun h1 h2 => ⟨h1, h2⟩⟩
end
end Go.AM
end
section
set_option linter.unusedVariables false
set_option linter.unusedSimpArgs false
namespace Go.AM
section
variable {P : Program} {ge : GEnv} {st : St} {Q : Exit → St → Prop} {G : Gh} {w : World}
theorem Rep_nilrow {a : Act} (hr : Rep P ge G st a w) (s : Nat) (T : TypeId) (hs : lk st.tm s = .nils) (h0 : 0 < szOf P T) :
    ∃ G', Rep P ge G' { st with tm := (s, .ref st.h.length 0 0 0) :: st.tm, h := st.h ++ [.row T 0 0 true []] } a w ∧ Ext G st.h w G' (st.h ++ [.row T 0 0 true []]) w := by
  have hk : ∀ k', (G.push none (szOf P T) 0).at G.n (.row T 0 0 true []) = some k' → w.heap.size ≤ k' := fun k' h => by
    simp [Gh.at, Gh.push] at h
  have hrb : RB P (G.push none (szOf P T) 0) w G.n (.row T 0 0 true []) := ⟨by simp [Gh.push], Nat.zero_le _, by simp [Gh.push, h0], .inl ⟨by simp [Gh.push], rfl⟩⟩
  have rh := hr.rh.push (.refl w) hrb hk
  have ext := Ext.push hr.rh (.refl w) hk
  refine ⟨_, ⟨rh, fun t => ?_, hr.n, hr.d⟩, ext⟩
  simp only [lk]
  split
  · rename_i hst
    subst hst
    have h1 := hr.tm s
    rw [hs] at h1
    generalize a.tmps.getD s undef = cv at h1 ⊢
    cases h1
    rw [hr.rh.n]
    exact .refn (by simp [Gh.push]) (by simp [Gh.push]) (by simp [Gh.push])
  · exact (hr.tm t).mono ext.le
def blOk (n : Nat) : List B → List B → Prop
  | [], _ => True
  | _ :: _, [] => False
  | x :: r, y :: r' => (x = .dead ∨ (y = x ∧ x.lt n)) ∧ blOk n r r'
theorem blOk_spec {n : Nat} : ∀ {l l' : List B}, blOk n l l' → ∀ (b : Nat) (x : B), l[b]? = some x → x = .dead ∨ (l'[b]? = some x ∧ x.lt n)
  | [], _, _, _, _, h => by simp at h
  | _ :: _, [], h, _, _, _ => h.elim
  | x :: r, y :: r', h, 0, z, hz => by
    simp at hz; subst hz
    rcases h.1 with h | ⟨rfl, h⟩
    · exact .inl h
    · exact .inr ⟨by simp, h⟩
  | x :: r, y :: r', h, b + 1, z, hz => by
    have := blOk_spec h.2 b z (by simpa using hz)
    simpa using this
/-- Weakening, by computation. -/
theorem Weak.mk' {st st' : St} (hn : st'.n = st.n) (hl : st'.h.length ≤ st.h.length) (ht : ∀ p ∈ st'.tm, lk st.tm p.1 = p.2 ∧ p.2.lt st'.h.length = true) (hb : blOk st'.h.length st'.h st.h) : Weak st st' := ⟨hn, hl, ht, blOk_spec hb⟩
theorem AW_nilrow {c : Code} (s : Nat) (T : TypeId) (hs : lk st.tm s = .nils) (h0 : 0 < szOf P T) (h : AW P ge c Q { st with tm := (s, .ref st.h.length 0 0 0) :: st.tm, h := st.h ++ [.row T 0 0 true []] }) : AW P ge c Q st := by
  intro G a w hr
  obtain ⟨G', hr', ext⟩ := Rep_nilrow hr s T hs h0
  exact wp_mono (h G' a w hr') fun _ _ _ hp => hp.mono ext fun _ _ h => h
end
attribute [simp] blOk B.lt
end Go.AM
end
section
set_option linter.unusedVariables false
set_option linter.unusedSimpArgs false
namespace Go.AM
section
variable {P : Program} {ge : GEnv}
def RetG (P : Program) (rs : Array ResultVar) (Q : V → List B → Prop) (h0 : List B) (e : Exit) (s : St) : Prop :=
  (e = .normal ∨ e = .ret) ∧ ∃ v h', RetV P s rs.toList v ∧ Q v h' ∧ v.lt h'.length = true ∧ Leaves h0 s.h h'
theorem gB1 {f : Nat} {fn : Func} {code : Code} {args : List V} {h : List B} {Q : V → List B → Prop} (hf : P.funcs[f]? = some fn) (hb : fn.body = some code) (hname : fn.name ≠ "runtime.NumGoroutine") {n : Nat} (hn : fn.ntmps = n) (hl : args.length ≤ n) {rs : Array ResultVar} (hrs : fn.results = rs)
    (body : AW P ge code (RetG P rs Q h) ⟨n, argTm 0 args, h⟩) : GCall P ge f args h Q := by
  subst hn; subst hrs
  exact GCall_of_body hf hb hname hl body
theorem retg1 {st : St} {t : Nat} {Q : V → List B → Prop} {h0 h' : List B} (hq : Q (lk st.tm t) h') (hv : (lk st.tm t).lt h'.length = true) (hl : Leaves h0 st.h h') : RetG P #[.tmp t] Q h0 .ret st := ⟨.inr rfl, _, h', rfl, hq, hv, hl⟩
theorem Leaves.refl {h : List B} : Leaves h h h := ⟨Nat.le_refl _, Nat.le_refl _, fun b x hx => .inr ⟨hx, .inl hx⟩⟩
theorem Weak.tail {st : St} {tm : List (Nat × V)} {a e x : List B} (hh : st.h = a ++ (e ++ x)) (ht : ∀ p ∈ tm, lk st.tm p.1 = p.2 ∧ p.2.lt (a ++ e).length = true) (ha : ∀ y ∈ a, y.lt (a ++ e).length) (he : ∀ y ∈ e, y.lt (a ++ e).length) :
    Weak st ⟨st.n, tm, a ++ e⟩ := by
  refine ⟨rfl, by rw [hh]; simp, ht, fun b y hy => .inr ⟨?_, ?_⟩⟩
  · have hlt := (List.getElem?_eq_some_iff.1 hy).1
    rw [hh, ← List.append_assoc, List.getElem?_append_left hlt]; exact hy
  · rcases List.mem_append.1 (List.mem_of_getElem? hy) with h | h
    · exact ha y h
    · exact he y h
theorem GCall.imp {f : Nat} {args : List V} {h : List B} {Q : V → List B → Prop} (hc : GCall P ge f args h Q) {args' : List V} {h' : List B} (e1 : args = args') (e2 : h = h') : GCall P ge f args' h' Q := by subst e1; subst e2; exact hc
theorem V.lts_mono {n m : Nat} (h : n ≤ m) {vs : List V} (hv : V.lts n vs = true) : V.lts m vs = true := by
  have := B.lt_mono (x := .var vs) h hv
  exact this
end
attribute [simp] Leaves.refl
end Go.AM
end
section
set_option linter.unusedVariables false
set_option linter.unusedSimpArgs false
namespace Go.AM
/-- All that is there is frozen for the call. -/
def Gall (w : World) : Gh := { fz := fun k => match w.heap[k]? with | some (.cells arr _ _) => arr.size | _ => 0, n := 0, gm := fun _ => 0, m := fun _ _ => none, sz := fun _ => 0, cap := fun _ _ => 0 }
theorem Gall_cell {w : World} {k o : Nat} {v : Value} (h : w.cell? ⟨k, o, none⟩ = some v) : o < (Gall w).fz k := by
  unfold World.cell? at h
  simp only [Gall]
  split at h
  · rename_i c _ _ hk
    simp only at hk
    rw [hk]
    simp at h
    exact (Array.getElem?_eq_some_iff.1 h).1
  · cases h
theorem cell_spot {w : World} {a : Addr} {v : Value} (h : w.cell? a = some v) : a = ⟨a.block, a.off, none⟩ := by
  obtain ⟨b, o, s⟩ := a
  unfold World.cell? at h
  split at h
  · cases s with
    | none => rfl
    | some _ => simp at h
  · cases h
theorem add_none (b o n : Nat) : Addr.add ⟨b, o, none⟩ n = ⟨b, o + n, none⟩ := by
  unfold Addr.add; split
  · rename_i h; subst h; rfl
  · rfl
theorem GE_all {ge : GEnv} {w : World} (hge : ∀ g cs, ge g = some cs → R (Gall w) w true (.fp cs 0) (.pointer (some ⟨g, 0, none⟩))) : GE ge (Gall w) w :=
  ⟨fun k hk => by simp only [Gall]; rw [Array.getElem?_eq_none hk], hge⟩
/-- Cells, and what stands for them. -/
def RdCells (w : World) (vs : List V) (cs : List Value) : Prop := vs.length = cs.length ∧ ∀ (i : Nat) (v : V), vs[i]? = some v → (cs.getD i undef).oneCell' = true ∧ R (Gall w) w true v (cs.getD i undef)
section
variable {P : Program} {T : TypeId}
theorem RdCells.one {w : World} {v : V} {c : Value} (ho : c.oneCell' = true) (hr : R (Gall w) w true v c) : RdCells w [v] [c] :=
  ⟨rfl, fun i u hu => by
    cases i with
    | zero => simp at hu; subst hu; exact ⟨ho, hr⟩
    | succ i => simp at hu⟩
theorem mapM_get {α β : Type} {g : α → Option β} : ∀ {l : List α} {r : List β}, l.mapM g = some r → r.length = l.length ∧ ∀ (i : Nat) (a : α), l[i]? = some a → g a = r[i]?
  | [], r, h => by simp at h; subst h; exact ⟨rfl, fun i a ha => by simp at ha⟩
  | b :: l, r, h => by
    rw [List.mapM_cons] at h
    cases hb : g b with
    | none => rw [hb] at h; simp at h
    | some c =>
      rw [hb] at h
      simp only [Option.pure_def, Option.bind_eq_bind, Option.bind_some] at h
      cases hl : l.mapM g with
      | none => rw [hl] at h; simp at h
      | some r' =>
        rw [hl] at h
        simp at h
        subst h
        obtain ⟨h1, h2⟩ := mapM_get hl
        refine ⟨by simp [h1], fun i a ha => ?_⟩
        cases i with
        | zero => simp at ha; subst ha; simp [hb]
        | succ i => simpa using h2 i a (by simpa using ha)
theorem cells_get {w : World} {a : Addr} {n : Nat} {cs : List Value} (h : w.cells? 0 a n = some cs) : cs.length = n ∧ ∀ i, i < n → w.cell? (a.add i) = some (cs.getD i undef) := by
  unfold World.cells? at h
  rw [if_pos (Nat.zero_le _)] at h
  obtain ⟨h1, h2⟩ := mapM_get h
  simp at h1
  refine ⟨h1, fun i hi => ?_⟩
  have := h2 i i (by rw [List.getElem?_range hi])
  rw [this]
  have hlt : i < cs.length := by omega
  simp [List.getD, List.getElem?_eq_getElem hlt]
theorem RdCells.append {w : World} {a b : List V} {cs : List Value} {n : Nat} (hn : a.length = n) (h1 : RdCells w a (cs.take n)) (h2 : RdCells w b (cs.drop n)) : RdCells w (a ++ b) cs := by
  have hl : n ≤ cs.length := by have := h1.1; rw [hn, List.length_take] at this; omega
  refine ⟨by rw [List.length_append, h2.1, hn, List.length_drop]; omega, fun i v hv => ?_⟩
  rcases Nat.lt_or_ge i a.length with h | h
  · rw [List.getElem?_append_left h] at hv
    have := h1.2 i v hv
    have e : (cs.take n).getD i undef = cs.getD i undef := by simp [List.getD, List.getElem?_take_of_lt (show i < n by omega)]
    rw [e] at this; exact this
  · rw [List.getElem?_append_right h] at hv
    have := h2.2 _ v hv
    have e : (cs.drop n).getD (i - a.length) undef = cs.getD i undef := by
      simp only [List.getD, List.getElem?_drop]
      congr 2; omega
    rw [e] at this; exact this
/-- What a law's contract gives the row. -/
theorem law_calls {ge : GEnv} {f : Nat} {args : List V} {cargs : Array Value} {W : World} (hc : PCall P ge f args (.bool true)) (ha : ArgsR (Gall W) W true args cargs) (hg : GE ge (Gall W) W) :
    Calls P f cargs W fun e W' => e = .returned (.bool true) ∧ RowKit.Below W.heap.size W W' := by
  refine (hc.2 (Gall W) W cargs ha hg).mono ?_
  rintro e w' ⟨c, G', rfl, hk, hr⟩
  have h1 : R G' w' true (.bool true) c := hr
  cases h1
  exact ⟨rfl, hk.grow.os, hk.grow.out.2, hk.grow.out.1, hk.grow.size, fun k hk' => hk.grow.old k hk'⟩
end
end Go.AM
end
section
set_option linter.unusedVariables false
set_option linter.unusedSimpArgs false
namespace Go.AM
/-- A measure of what is read, and its bound. -/
structure Bk where
  bk : (H : Type) → DataW H → Nat
  N : Nat
  len : ∀ {H : Type} (es sp : List (DataW H)), bk H (.slice es sp) ≤ N → es.length ≤ N ∧ ∀ d ∈ es, bk H d ≤ N
  agg : ∀ {H : Type} (ps : List (DataW H)), bk H (.agg ps) ≤ N → ∀ d ∈ ps, bk H d ≤ N
  str : ∀ {H : Type} (b : List UInt8), bk H (.lit (.string b)) ≤ N → b.length ≤ N
/-- Whatever a reading of this type within the bound gives stands for data of this shape. -/
def RdN (K : Bk) (P : Program) (T : TypeId) {α : Type} (f : α → List V) (ok : α → Prop) : Prop :=
  ∀ (H : Type) (enc : TypeId × Value → H) (w : World) (held : Bool) (fuel : Nat) (cs : List Value) (x : DataW H × List MemPlace), DataW.trod enc P w 0 (fun _ => true) held fuel T cs = some x → K.bk H x.1 ≤ K.N → ∃ a, ok a ∧ RdCells w (f a) cs
section
variable {P : Program} {T : TypeId} {K : Bk}
theorem RdN.map {α β : Type} {f : α → List V} {ok : α → Prop} {f' : β → List V} {ok' : β → Prop} (h : RdN K P T f ok) (g : α → β) (hf : ∀ a, f' (g a) = f a) (hok : ∀ a, ok a → ok' (g a)) : RdN K P T f' ok' :=
  fun H enc w held fuel cs x hx hbk => let ⟨a, h1, h2⟩ := h H enc w held fuel cs x hx hbk; ⟨g a, hok a h1, by rw [hf]; exact h2⟩
theorem RdN_int {k : IntKind} (ht : P.underlying T = some (.int k)) : RdN K P T (fun n : Int => [V.int k n]) (fun n => (Lit.int k n).wf = true) :=
  fun H enc w held fuel cs x hx hbk => by
    obtain ⟨n, rfl, _, hw⟩ := DataW.trod_int ht hx
    exact ⟨n, hw, .one rfl .int⟩
theorem RdN_bool (ht : P.underlying T = some .bool) : RdN K P T (fun b : Bool => [V.bool b]) (fun _ => True) :=
  fun H enc w held fuel cs x hx hbk => by
    obtain ⟨b, rfl, _⟩ := DataW.trod_bool ht hx
    exact ⟨b, trivial, .one rfl .bool⟩
theorem RdN_string (ht : P.underlying T = some .string) : RdN K P T (fun s : ByteArray => [V.str s]) (fun s => s.size ≤ maxLen ∧ s.size ≤ K.N) :=
  fun H enc w held fuel cs x hx hbk => by
    obtain ⟨s, rfl, rfl, hs⟩ := DataW.trod_string ht hx
    exact ⟨s, ⟨hs, by have := K.str _ hbk; simpa using this⟩, .one rfl .str⟩
theorem RdN_slice {e : TypeId} {α : Type} {f : α → List V} {ok : α → Prop} (ht : P.underlying T = some (.slice e)) (hc : 0 < P.cellsOf e) (he : RdN K P e f ok) (hlen : ∀ a, (f a).length = P.cellsOf e) :
    RdN K P T (fun l : List α => [V.vec (l.map f) l.length]) (fun l => l.length ≤ K.N ∧ ∀ a ∈ l, ok a) :=
  fun H enc w held fuel cs x hx hbk => by
    rcases DataW.trod_slice ht hx with ⟨rfl, _⟩ | ⟨a, len, cap, elems, rest, n, _, rfl, rfl, _, hl, hm, hel, hget, _, _⟩
    · refine ⟨[], ?_⟩
      show (([] : List α).length ≤ K.N ∧ ∀ a ∈ ([] : List α), ok a) ∧ RdCells w [V.vec [] 0] [_]
      exact ⟨⟨Nat.zero_le _, fun a ha => (by cases ha)⟩, .one rfl (.emp (Nat.zero_le _))⟩
    obtain ⟨hbl, hbm⟩ := K.len _ _ hbk
    rw [List.length_map] at hbl
    -- element by element
    have each : ∀ i, i < len → ∃ (y : α), ok y ∧ ∃ ecs : List Value, w.cells? 0 (a.add (i * P.cellsOf e)) (P.cellsOf e) = some ecs ∧ RdCells w (f y) ecs := fun i hi => by
      have h1 := hget i hi
      rw [List.getElem?_eq_getElem (by omega)] at h1
      cases hcs : w.cells? 0 (a.add (i * P.cellsOf e)) (P.cellsOf e) with
      | none => rw [hcs] at h1; simp at h1
      | some ecs =>
        rw [hcs] at h1
        simp only [Option.bind_some] at h1
        obtain ⟨y, h2, h3⟩ := he H enc w held n ecs _ h1 (hbm _ (List.mem_map_of_mem (List.getElem_mem (by omega))))
        exact ⟨y, h2, ecs, rfl, h3⟩
    have hlist : ∀ m, m ≤ len → ∃ l : List α, l.length = m ∧ (∀ a ∈ l, ok a) ∧ ∀ (i : Nat) (y : α), l[i]? = some y → ∃ ecs : List Value, w.cells? 0 (a.add (i * P.cellsOf e)) (P.cellsOf e) = some ecs ∧ RdCells w (f y) ecs := by
      intro m
      induction m with
      | zero => intro _; exact ⟨[], rfl, fun a ha => (by cases ha), fun i y hy => by simp at hy⟩
      | succ m ih =>
        intro hm'
        obtain ⟨l, h1, h2, h3⟩ := ih (by omega)
        obtain ⟨y, h4, h5⟩ := each m (by omega)
        refine ⟨l ++ [y], by simp [h1], fun z hz => ?_, fun i z hz => ?_⟩
        · rcases List.mem_append.1 hz with h | h
          · exact h2 z h
          · simp at h; subst h; exact h4
        · rcases Nat.lt_or_ge i l.length with h | h
          · rw [List.getElem?_append_left h] at hz; exact h3 i z hz
          · rw [List.getElem?_append_right h] at hz
            have h0 : i - l.length = 0 := by
              rcases Nat.eq_zero_or_pos (i - l.length) with h | h
              · exact h
              · rw [List.getElem?_eq_none (by simp; omega)] at hz; cases hz
            rw [h0] at hz; simp at hz; subst hz
            have : i = m := by omega
            subst this; exact h5
    obtain ⟨l, h1, h2, h3⟩ := hlist len (Nat.le_refl _)
    refine ⟨l, ⟨by omega, h2⟩, .one rfl ?_⟩
    rcases Nat.eq_zero_or_pos len with hz | hz
    · have : l = [] := List.eq_nil_of_length_eq_zero (by omega)
      subst this; subst hz
      exact .emp hm
    -- the address has no spot
    have hspot : a = ⟨a.block, a.off, none⟩ := by
      obtain ⟨ecs, h4, _⟩ := h3 0 l[0] (List.getElem?_eq_getElem (by omega))
      have h5 := (cells_get h4).2 0 hc
      have h6 := cell_spot h5
      have h7 := congrArg Addr.spot h6
      simp [Addr.add] at h7
      obtain ⟨b, o, s⟩ := a
      simp at h7; subst h7; rfl
    obtain ⟨ab, ao, asp⟩ := a
    have has : asp = none := by have := congrArg Addr.spot hspot; simpa using this
    subst has
    have hcell : ∀ (i : Nat) (y : List V) (j : Nat) (v : V), (l.map f)[i]? = some y → y[j]? = some v → ∃ c, w.cell? ⟨ab, ao + (i * P.cellsOf e + j), none⟩ = some c ∧ c.oneCell' = true ∧ R (Gall w) w true v c := by
      intro i y j v hy hv
      rw [List.getElem?_map] at hy
      obtain ⟨z, hz, rfl⟩ := Option.map_eq_some_iff.1 hy
      obtain ⟨ecs, h4, h5⟩ := h3 i z hz
      obtain ⟨h6, h7⟩ := cells_get h4
      have hj : j < P.cellsOf e := by have := (List.getElem?_eq_some_iff.1 hv).1; rw [hlen] at this; exact this
      have h8 := h7 j hj
      have h9 := h5.2 j v hv
      refine ⟨_, ?_, h9.1, h9.2⟩
      rw [← h8, add_none, add_none, Nat.add_assoc]
    rw [← h1]
    refine .vec (sz := P.cellsOf e) (by simp) (by simp; omega) hm (fun i y hy => ?_) (fun i y j v hy hv => ?_) (fun i y j v hy hv => ?_) (fun i y j v hy hv => ?_)
    · rw [List.getElem?_map] at hy
      obtain ⟨z, hz, rfl⟩ := Option.map_eq_some_iff.1 hy
      exact hlen z
    · obtain ⟨c, h4, h5, h6⟩ := hcell i y j v hy hv
      exact ⟨by rw [h4]; rfl, Gall_cell h4⟩
    · obtain ⟨c, h4, h5, h6⟩ := hcell i y j v hy hv
      unfold cellD; rw [h4]; exact h5
    · obtain ⟨c, h4, h5, h6⟩ := hcell i y j v hy hv
      unfold cellD; rw [h4]; exact h6
/-- A struct's fields from one on. -/
def RdNs (K : Bk) (P : Program) (tot : Nat) (fs : List Field) (off : Nat) {α : Type} (f : α → List V) (ok : α → Prop) : Prop :=
  ∀ (H : Type) (enc : TypeId × Value → H) (w : World) (held : Bool) (n : Nat) (cs : List Value) (xs : List (DataW H × List MemPlace)), cs.length = tot → xs.length = fs.length →
    (∀ (i : Nat) (g : Field), fs[i]? = some g → DataW.trod enc P w 0 (fun _ => true) held n g.type ((cs.drop g.offset).take (P.cellsOf g.type)) = xs[i]?) → (∀ x ∈ xs, K.bk H x.1 ≤ K.N) → ∃ a, ok a ∧ RdCells w (f a) (cs.drop off)
theorem RdNs_nil {tot off : Nat} (h : off = tot) : RdNs K P tot [] off (fun _ : Unit => []) (fun _ => True) :=
  fun H enc w held n cs xs hl _ _ _ => ⟨(), trivial, by rw [List.drop_eq_nil_of_le (by omega)]; exact ⟨rfl, fun i v hv => by simp at hv⟩⟩
theorem rC {tot off sz : Nat} {fd : Field} {fs : List Field} {α β : Type} {f : α → List V} {ok : α → Prop} {g : β → List V} {ok' : β → Prop} (ho : fd.offset = off) (hs : P.cellsOf fd.type = sz) (h : RdN K P fd.type f ok) (hlen : ∀ a, (f a).length = sz)
    (h' : RdNs K P tot fs (off + sz) g ok') : RdNs K P tot (fd :: fs) off (fun p : α × β => f p.1 ++ g p.2) (fun p => ok p.1 ∧ ok' p.2) :=
  fun H enc w held n cs xs hl hxl hx hb => by
    cases xs with
    | nil => simp at hxl
    | cons x xs =>
      have h0 := hx 0 fd rfl
      obtain ⟨a, h1, h2⟩ := h H enc w held n _ x h0 (hb x (.head _))
      obtain ⟨b, h3, h4⟩ := h' H enc w held n cs xs hl (by simpa using hxl) (fun i g hg => by simpa using hx (i + 1) g (by simpa using hg)) (fun y hy => hb y (.tail _ hy))
      rw [ho, hs] at h2
      rw [← List.drop_drop] at h4
      exact ⟨(a, b), ⟨h1, h3⟩, .append (hlen a) h2 h4⟩
theorem RdN_struct {fs : Array Field} {tot : Nat} {α : Type} {f : α → List V} {ok : α → Prop} (ht : P.underlying T = some (.struct fs)) (hc : P.cellsOf T = tot) (h : RdNs K P tot fs.toList 0 f ok) : RdN K P T f ok :=
  fun H enc w held fuel cs x hx hbk => by
    obtain ⟨xs, n, _, rfl, h1, h2, h3⟩ := DataW.trod_struct ht hx
    obtain ⟨a, h4, h5⟩ := h H enc w held n cs xs (by rw [h1, hc]) (by simpa using h2) (fun i g hg => h3 i g (by simpa using hg)) (fun y hy => K.agg _ hbk _ (List.mem_map_of_mem hy))
    exact ⟨a, h4, by simpa using h5⟩
/-- An argument of one cell. -/
theorem RdN.arg {α : Type} {f : α → V} {ok : α → Prop} (h : RdN K P T (fun a => [f a]) ok) {H : Type} {enc : TypeId × Value → H} {w : World} {held : Bool} {v : Value} {d : DataW H} {ps : List MemPlace}
    (ht : DataW.Trod enc P w 0 (fun _ => true) held T v d ps) (hv : v.cells = #[v]) (hbk : K.bk H d ≤ K.N) : ∃ a, ok a ∧ R (Gall w) w true (f a) v := by
  obtain ⟨fuel, hf⟩ := ht
  rw [hv] at hf
  obtain ⟨a, h1, h2⟩ := h H enc w held fuel _ _ hf hbk
  exact ⟨a, h1, (h2.2 0 _ rfl).2⟩
/-- An argument that is a struct. -/
theorem RdN.aggArg {α : Type} {f : α → List V} {ok : α → Prop} (h : RdN K P T f ok) {H : Type} {enc : TypeId × Value → H} {w : World} {held : Bool} {cs : Array Value} {d : DataW H} {ps : List MemPlace}
    (ht : DataW.Trod enc P w 0 (fun _ => true) held T (.agg cs) d ps) (hbk : K.bk H d ≤ K.N) : ∃ a, ok a ∧ R (Gall w) w true (.agg (f a)) (.agg cs) := by
  obtain ⟨fuel, hf⟩ := ht
  obtain ⟨a, h1, h2⟩ := h H enc w held fuel _ _ hf hbk
  have e : ∀ i, (Value.agg cs).cells.toList.getD i undef = cs.getD i undef := fun i => by simp [Value.cells, List.getD, Array.getD_eq_getD_getElem?]
  refine ⟨a, h1, .agg (by have := h2.1; simpa [Value.cells] using this.symm) (fun i v hv => ?_) (fun i v hv => ?_)⟩
  · have := (h2.2 i v hv).1; rw [e] at this; exact this
  · have := (h2.2 i v hv).2; rw [e] at this; exact this
end
end Go.AM
end
section
set_option linter.unusedVariables false
namespace Go.AM
section
variable {P : Program} {ge : GEnv} {st : St} {Q : Exit → St → Prop}
def SMeet (S : St) (Q : Exit → St → Prop) : Exit → St → Prop
  | .normal, s => Weak s S ∧ S.h.length = s.h.length
  | e, s => Q e s
theorem AW_mid {id : Nat} {ops : Array Oper} {b : Bool} {y z : Code} (S : St) (h1 : AW P ge (.seq (.region id ops b) y) (SMeet S Q) st) (h2 : AW P ge z Q S) :
    AW P ge (.seq (.seq (.region id ops b) y) z) Q st := by
  refine AW_seq (h1.mono fun e s h => ?_)
  cases e <;> simp only [SMeet, SThen] at h ⊢
  case normal => exact h2.weak h.1 h.2
  all_goals exact h
/-- Held back from a walk. -/
structure Hold (p : Prop) : Prop where
  mk' ::
  get : p
theorem Hold.mk {p : Prop} (h : Hold p) : p := h.get
theorem Hold.out {p : Prop} (h : p) : Hold p := ⟨h⟩
theorem SMeet_normal {S s : St} (h : Weak s S) (hl : S.h.length = s.h.length) : SMeet S Q .normal s := ⟨h, hl⟩
end
end Go.AM
end
section
set_option linter.unusedVariables false
set_option linter.unusedSimpArgs false
namespace Go.AM
/-- The temps of a state that stay. -/
def pickTm (tm : List (Nat × V)) : List Nat → List (Nat × V)
  | [] => []
  | t :: r => (t, lk tm t) :: pickTm tm r
section
variable {P : Program} {ge : GEnv} {st : St} {Q : Exit → St → Prop}
/-- The state at the head of a loop: the index, what turns, what stays. -/
def headSt (st : St) (L : List Nat) (vs : List (Nat × V)) (h : List B) : St := ⟨st.n, vs ++ pickTm st.tm L, h⟩
/-- A loop whose head is told by what turns (vs, H) and the temps that stay (L). -/
theorem aL {σ : Type} (L : List Nat) (vs : σ → List (Nat × V)) (H : σ → List B) (I : σ → Prop) (μ : σ → Nat) {c : Code} (x0 : σ) (h0 : I x0)
    (hst : Weak st (headSt st L (vs x0) (H x0))) (hlen : ∀ x, I x → (H x).length = st.h.length)
    (round : ∀ x, I x → AW P ge c (SThen (fun s => ∃ x', I x' ∧ μ x' < μ x ∧ Weak s (headSt st L (vs x') (H x'))) Q) (headSt st L (vs x) (H x))) : AW P ge (.loop c) Q st :=
  AW_loop (fun x => headSt st L (vs x) (H x)) I μ h0 hst hlen round
/-- A loop over a list, element by element, told by a function of the rest of the list. -/
theorem AW_range {α acc ρ : Type} (l : List α) (ti : Nat) (L : List Nat) (vs : acc → List (Nat × V)) (H : acc → List B) (J : Nat → acc → Prop) (F : List α → acc → ρ) {c : Code} (a0 : acc) {r : ρ}
    (hr : F l a0 = r) (hJ : J 0 a0) (hst : Weak st (headSt st L ((ti, .int .i64 ((0 : Nat) : Int)) :: vs a0) (H a0))) (hlen : ∀ i a, J i a → (H a).length = st.h.length)
    (body : ∀ (i : Nat) (a : acc) (x : α), l[i]? = some x → (hlt : i < l.length) → l[i] = x → J i a → F (x :: l.drop (i + 1)) a = r →
      AW P ge c (SThen (fun s => ∃ a', F (l.drop (i + 1)) a' = r ∧ J (i + 1) a' ∧ Weak s (headSt st L ((ti, .int .i64 ((i + 1 : Nat) : Int)) :: vs a') (H a'))) Q) (headSt st L ((ti, .int .i64 (i : Int)) :: vs a) (H a)))
    (done : ∀ a, J l.length a → F [] a = r → AW P ge c (SThen (fun _ => False) Q) (headSt st L ((ti, .int .i64 (l.length : Int)) :: vs a) (H a))) : AW P ge (.loop c) Q st := by
  refine AW_loop (fun x : Nat × acc => headSt st L ((ti, .int .i64 (x.1 : Int)) :: vs x.2) (H x.2)) (fun x => x.1 ≤ l.length ∧ J x.1 x.2 ∧ F (l.drop x.1) x.2 = r) (fun x => l.length - x.1) (x0 := (0, a0))
    ⟨Nat.zero_le _, hJ, hr⟩ hst (fun x hx => hlen x.1 x.2 hx.2.1) ?_
  rintro ⟨i, a⟩ ⟨h1, h2, h3⟩
  simp only at h1 h2 h3
  rcases Nat.lt_or_ge i l.length with hlt | hge
  · have hx : l[i]? = some l[i] := List.getElem?_eq_getElem hlt
    rw [List.drop_eq_getElem_cons hlt] at h3
    refine (body i a l[i] hx hlt rfl h2 h3).mono fun e s h => ?_
    cases e <;> simp only [SThen] at h ⊢
    case normal =>
      obtain ⟨a', k1, k2, k3⟩ := h
      exact ⟨(i + 1, a'), ⟨hlt, k2, k1⟩, by simp only; omega, k3⟩
    all_goals exact h
  · have hi : i = l.length := by omega
    subst hi
    rw [List.drop_of_length_le (Nat.le_refl _)] at h3
    refine (done a h2 h3).mono fun e s h => ?_
    cases e <;> simp only [SThen] at h ⊢
    all_goals first | exact h.elim | exact h
/-- A loop over a list that only looks. -/
theorem aS1 {α ρ : Type} (l : List α) (ti : Nat) (L : List Nat) (F : List α → ρ) {c : Code} {r : ρ} (hr : F l = r) (hst : Weak st (headSt st L [(ti, .int .i64 ((0 : Nat) : Int))] st.h))
    (body : ∀ (i : Nat) (x : α), l[i]? = some x → (hlt : i < l.length) → l[i] = x → F (x :: l.drop (i + 1)) = r →
      AW P ge c (SThen (fun s => F (l.drop (i + 1)) = r ∧ Weak s (headSt st L [(ti, .int .i64 ((i + 1 : Nat) : Int))] st.h)) Q) (headSt st L [(ti, .int .i64 (i : Int))] st.h))
    (done : F [] = r → AW P ge c (SThen (fun _ => False) Q) (headSt st L [(ti, .int .i64 (l.length : Int))] st.h)) : AW P ge (.loop c) Q st :=
  AW_range l ti L (fun _ : Unit => []) (fun _ => st.h) (fun _ _ => True) (fun l _ => F l) () hr trivial hst (fun _ _ _ => rfl)
    (fun i _ x h1 h2 h3 _ h4 => (body i x h1 h2 h3 h4).mono fun e s h => by
      cases e <;> simp only [SThen] at h ⊢
      case normal => exact ⟨(), h.1, trivial, h.2⟩
      all_goals exact h) (fun _ _ h => done h)
end
mutual
def V.trim : V → V
  | .vec xs len => .vec (V.trimR len xs) len
  | .agg cs => .agg (V.trims cs)
  | .tup cs => .tup (V.trims cs)
  | .fp cs off => .fp (V.trims cs) off
  | .fn f a b => .fn f (V.trims a) (V.trims b)
  | .ifc t v => .ifc t (V.trim v)
  | v => v
def V.trims : List V → List V
  | [] => []
  | v :: r => V.trim v :: V.trims r
def V.trimR : Nat → List (List V) → List (List V)
  | 0, _ => []
  | _ + 1, [] => []
  | n + 1, x :: r => V.trims x :: V.trimR n r
end
theorem trims_eq : ∀ cs : List V, V.trims cs = cs.map V.trim
  | [] => rfl
  | v :: r => by rw [V.trims, List.map_cons, trims_eq r]
theorem trimR_eq : ∀ (n : Nat) (xs : List (List V)), V.trimR n xs = (xs.take n).map V.trims
  | 0, xs => by simp [V.trimR]
  | n + 1, [] => by simp [V.trimR]
  | n + 1, x :: r => by rw [V.trimR, List.take_succ_cons, List.map_cons, trimR_eq n r]
theorem R.trim {G : Gh} {w : World} {fr : Bool} {v : V} {c : Value} (h : R G w fr v c) : R G w fr v.trim c := by
  have tg : ∀ {cs : List V} {j : Nat} {v : V}, (V.trims cs)[j]? = some v → ∃ u, cs[j]? = some u ∧ v = u.trim := fun {cs j v} hv => by
    rw [trims_eq, List.getElem?_map] at hv
    obtain ⟨u, h1, h2⟩ := Option.map_eq_some_iff.1 hv
    exact ⟨u, h1, h2.symm⟩
  have rg : ∀ {xs : List (List V)} {n i : Nat} {x : List V}, (V.trimR n xs)[i]? = some x → ∃ y, xs[i]? = some y ∧ x = V.trims y := fun {xs n i x} hx => by
    rw [trimR_eq, List.getElem?_map] at hx
    obtain ⟨y, h1, h2⟩ := Option.map_eq_some_iff.1 hx
    rw [List.getElem?_take] at h1
    split at h1
    · exact ⟨y, h1, h2.symm⟩
    · cases h1
  induction h with
  | emp h => exact .emp h
  | @vec _ _ _ _ _ _ sz h1 h2 h3 hl hc ho hr ih =>
    refine .vec (sz := sz) (by rw [trimR_eq, List.length_map, List.length_take]; omega) (by rw [trimR_eq, List.length_map, List.length_take]; omega) h3 (fun i x hx => ?_) (fun i x j v hx hv => ?_) (fun i x j v hx hv => ?_) (fun i x j v hx hv => ?_)
    · obtain ⟨y, h4, rfl⟩ := rg hx; rw [trims_eq, List.length_map]; exact hl i y h4
    · obtain ⟨y, h4, rfl⟩ := rg hx; obtain ⟨u, h5, rfl⟩ := tg hv; exact hc i y j u h4 h5
    · obtain ⟨y, h4, rfl⟩ := rg hx; obtain ⟨u, h5, rfl⟩ := tg hv; exact ho i y j u h4 h5
    · obtain ⟨y, h4, rfl⟩ := rg hx; obtain ⟨u, h5, rfl⟩ := tg hv; exact ih i y j u h4 h5
  | fp hc ho hr ih =>
    refine .fp (fun j v hv => ?_) (fun j v hv => ?_) (fun j v hv => ?_)
    · obtain ⟨u, h5, rfl⟩ := tg hv; exact hc j u h5
    · obtain ⟨u, h5, rfl⟩ := tg hv; exact ho j u h5
    · obtain ⟨u, h5, rfl⟩ := tg hv; exact ih j u h5
  | agg hs ho hr ih =>
    refine .agg (by rw [trims_eq, List.length_map]; exact hs) (fun i v hv => ?_) (fun i v hv => ?_)
    · obtain ⟨u, h5, rfl⟩ := tg hv; exact ho i u h5
    · obtain ⟨u, h5, rfl⟩ := tg hv; exact ih i u h5
  | tup hs hr ih =>
    refine .tup (by rw [trims_eq, List.length_map]; exact hs) (fun i v hv => ?_)
    obtain ⟨u, h5, rfl⟩ := tg hv; exact ih i u h5
  | fn hs hr hs' hr' ih ih' =>
    refine .fn (by rw [trims_eq, List.length_map]; exact hs) (fun i v hv => ?_) (by rw [trims_eq, List.length_map]; exact hs') (fun i v hv => ?_)
    · obtain ⟨u, h5, rfl⟩ := tg hv; exact ih i u h5
    · obtain ⟨u, h5, rfl⟩ := tg hv; exact ih' i u h5
  | ifc hr ih => exact .ifc ih
  | junk => exact .junk
  | void => exact .void
  | bool => exact .bool
  | int => exact .int
  | str => exact .str
  | nils => exact .nils
  | nilp => exact .nilp
  | nilf => exact .nilf
  | nilm => exact .nilm
  | nili => exact .nili
  | ref hb hg hm hle => exact .ref hb hg hm hle
  | refn hb hg hm => exact .refn hb hg hm
  | ptr hb hm => exact .ptr hb hm
  | ep hb hg hm => exact .ep hb hg hm
  | mp hb hm => exact .mp hb hm
/-- A row of one's own, frozen. -/
theorem PCall.freeze {P : Program} {ge : GEnv} {f : Nat} {args : List V} {T : TypeId} {xs : List (List V)} (hc : PCall P ge f args (.own T xs)) : PCall P ge f args (.vec xs xs.length) := by
  refine ⟨hc.1, fun G w cargs ha hg => (hc.2 G w cargs ha hg).mono ?_⟩
  rintro e w' ⟨c, G', rfl, kept, h0, ⟨rfl, rfl⟩ | ⟨k, cap, arr, rfl, hb, hh, hfz, hs, hl, hcm, hlen, hc⟩⟩
  · exact ⟨_, G', rfl, kept, .emp (Nat.zero_le _)⟩
  · have hk : k < w'.heap.size := by
      rcases Nat.lt_or_ge k w'.heap.size with h | h
      · exact h
      · rw [Array.getElem?_eq_none h] at hh; cases hh
    have hle : ∀ j, G'.fz j ≤ (if j = k then arr.size else G'.fz j) := fun j => by
      split
      · rename_i h; subst h; omega
      · exact Nat.le_refl _
    refine ⟨_, G'.withFz fun j => if j = k then arr.size else G'.fz j, rfl, ⟨kept.grow, fun j hj => ?_, fun j hj => ?_⟩, ?_⟩
    · show (if j = k then arr.size else G'.fz j) = G.fz j
      rw [if_neg (by omega)]; exact kept.fz j hj
    · show (if j = k then arr.size else G'.fz j) = 0
      rw [if_neg (by omega)]; exact kept.fzlt j hj
    · have hlt : ∀ (i : Nat) (x : List V) (j : Nat) (v : V), xs[i]? = some x → x[j]? = some v → i * szOf P T + j < arr.size := fun i x j v hx hv => by
        have h1 := hlen i x hx
        have h2 : i < xs.length := (List.getElem?_eq_some_iff.1 hx).1
        have h3 : j < x.length := (List.getElem?_eq_some_iff.1 hv).1
        have h4 : (i + 1) * szOf P T ≤ cap * szOf P T := Nat.mul_le_mul_right _ (by omega)
        rw [hs]; rw [Nat.add_mul] at h4; omega
      have hcd : ∀ (o : Nat), o < arr.size → w'.cell? ⟨k, o, none⟩ = some (arr.getD o undef) := fun o ho => arr_cell hh ho
      have hd : ∀ (o : Nat), o < arr.size → cellD w' k o = arr.getD o undef := fun o ho => by unfold cellD; rw [hcd o ho]; rfl
      refine R.vec (sz := szOf P T) (Nat.le_refl _) hl hcm hlen (fun i x j v hx hv => ?_) (fun i x j v hx hv => ?_) (fun i x j v hx hv => ?_)
      · have := hlt i x j v hx hv
        rw [Nat.zero_add]
        refine ⟨by rw [hcd _ this]; rfl, ?_⟩
        show _ < if k = k then arr.size else G'.fz k
        rw [if_pos rfl]; exact this
      · rw [Nat.zero_add, hd _ (hlt i x j v hx hv)]; exact (hc i x j v hx hv).1
      · rw [Nat.zero_add, hd _ (hlt i x j v hx hv)]; exact ((hc i x j v hx hv).2).fz hle
attribute [simp] pickTm headSt
end Go.AM
end
