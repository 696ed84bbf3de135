/-
  YtbgooadmonnjaaaGreatDoorRc03: steps of the proof of a law of the program: what these texts prove holds under the hypotheses that their theorems name, and no others.
-/
import Derived.Test.YtbgooadmonnjaaaGreatDoorRc02
section
set_option linter.unusedVariables false
set_option linter.unusedSimpArgs false
namespace Go.AM
def Callable (P : Program) (f : Nat) : Prop := ∃ fn, P.funcs[f]? = some fn ∧ fn.body.isSome = true ∧ fn.name ≠ "runtime.NumGoroutine"
/-- A row of one's own among the results. -/
def OwnR (P : Program) (G : Gh) (w : World) (base : Nat) (T : TypeId) (xs : List (List V)) (c : Value) : Prop :=
  0 < szOf P T ∧ ((c = .slice none 0 0 ∧ xs = []) ∨ ∃ k cap arr, c = .slice (some ⟨k, 0, none⟩) xs.length cap ∧ base ≤ k ∧ w.heap[k]? = some (.cells arr T (0, 0)) ∧ G.fz k = 0 ∧
    arr.size = cap * szOf P T ∧ xs.length ≤ cap ∧ cap ≤ maxLen ∧ (∀ (i : Nat) (x : List V), xs[i]? = some x → x.length = szOf P T) ∧
    ∀ (i : Nat) (x : List V) (j : Nat) (v : V), xs[i]? = some x → x[j]? = some v → (arr.getD (i * szOf P T + j) undef).oneCell' = true ∧ R G w true v (arr.getD (i * szOf P T + j) undef))
def blkOf : Value → Option Nat
  | .slice (some a) _ _ => some a.block
  | _ => none
def RO1 (P : Program) (G : Gh) (w : World) (base : Nat) : V → Value → Prop
  | .own T xs, c => OwnR P G w base T xs c
  | v, c => R G w true v c
def V.isOwn : V → Bool
  | .own .. => true
  | _ => false
/-- Results: frozen values, rows of one's own, several of these. -/
def RO (P : Program) (G : Gh) (w : World) (base : Nat) : V → Value → Prop
  | .tup vs, c => ∃ arr : Array Value, c = .tuple arr ∧ arr.size = vs.length ∧ (∀ (i : Nat) (v : V), vs[i]? = some v → RO1 P G w base v (arr.getD i undef)) ∧
      ∀ (i j : Nat) (u v : V) (k : Nat), vs[i]? = some u → vs[j]? = some v → u.isOwn = true → v.isOwn = true → blkOf (arr.getD i undef) = some k → blkOf (arr.getD j undef) = some k → i = j
  | v, c => RO1 P G w base v c
structure GE (ge : GEnv) (G : Gh) (w : World) : Prop where
  fzlt : ∀ k, w.heap.size ≤ k → G.fz k = 0
  ge : ∀ g cs, ge g = some cs → R G w true (.fp cs 0) (.pointer (some ⟨g, 0, none⟩))
/-- What a pure call leaves of memory: all that was there is as it was. -/
structure Kept (G : Gh) (w : World) (G' : Gh) (w' : World) : Prop where
  grow : WGrow w w'
  fz : ∀ k, k < w.heap.size → G'.fz k = G.fz k
  fzlt : ∀ k, w'.heap.size ≤ k → G'.fz k = 0
def ArgsR (G : Gh) (w : World) (fr : Bool) (args : List V) (cargs : Array Value) : Prop :=
  cargs.size = args.length ∧ ∀ (i : Nat) (v : V), args[i]? = some v → R G w fr v (cargs.getD i undef)
def PCall (P : Program) (ge : GEnv) (f : Nat) (args : List V) (r : V) : Prop :=
  Callable P f ∧ ∀ (G : Gh) (w : World) (cargs : Array Value), ArgsR G w true args cargs → GE ge G w →
    Calls P f cargs w fun e w' => ∃ c G', e = .returned c ∧ Kept G w G' w' ∧ RO P G' w' w.heap.size r c
def GCall (P : Program) (ge : GEnv) (f : Nat) (args : List V) (h : List B) (Q : V → List B → Prop) : Prop :=
  Callable P f ∧ ∀ (G : Gh) (w : World) (cargs : Array Value), ArgsR G w false args cargs → RH P ge G h w →
    Calls P f cargs w fun e w' => ∃ c G' v h', e = .returned c ∧ Q v h' ∧ RH P ge G' h' w' ∧ R G' w' false v c ∧ Ext G h w G' h' w'
section
variable {P : Program} {ge : GEnv} {st : St} {G : Gh} {w w' : World} {Q : Exit → St → Prop}
variable {d : Option Tmp} {t : TypeId} {p : String} {af : Array Edge}
theorem run_call {ρ : Operand → Value} {x : Operand} {xs : Array Operand} {ts : Array TypeId} {f : Nat} {A C : Array Value} (hf : Callable P f) (hx : ρ x = .func (.func f) A C)
    {g : Option (Nat × Bool)} {w : World} :
    (execOp ρ ⟨d, .call { callee := .value x, args := xs, argTypes := ts }, t, p, af, g⟩).run P w = .ok (.enter f (A ++ xs.map ρ ++ C)) w := by
  obtain ⟨fn, h1, h2, h3⟩ := hf
  have h4 : fn.body.isNone = false := by cases hb : fn.body <;> simp [hb] at h2 ⊢
  simp only [execOp, resolve, Deferred.ofValue, hx, Sem.run_bind, Sem.run_pure, Result.andThen_ok, invoke, callFunc, run_program, h1]
  rw [if_neg (by simpa using h3), if_neg (by simp [h4])]
  rfl
theorem append_getD (A B : Array Value) (i : Nat) : (A ++ B).getD i undef = if i < A.size then A.getD i undef else B.getD (i - A.size) undef := by
  simp only [Array.getD_eq_getD_getElem?, Array.getElem?_append]
  split <;> rfl
theorem ArgsR.append {fr : Bool} {a b : List V} {c e : Array Value} (h : ArgsR G w fr a c) (h' : ArgsR G w fr b e) : ArgsR G w fr (a ++ b) (c ++ e) := by
  refine ⟨by simp [h.1, h'.1], fun i v hv => ?_⟩
  rw [append_getD, h.1]
  split
  · rename_i hi; rw [List.getElem?_append_left hi] at hv; exact h.2 i v hv
  · rename_i hi; rw [List.getElem?_append_right (by omega)] at hv; exact h'.2 _ v hv
theorem ArgsR.ops {a : Act} (hr : Rep P ge G st a w) (xs : Array Operand) : ArgsR G w false (xs.toList.map (ev ge st.tm)) (xs.map a.eval) := by
  refine ⟨by simp, fun i v hv => ?_⟩
  rw [List.getElem?_map] at hv
  obtain ⟨x, hx, rfl⟩ := Option.map_eq_some_iff.1 hv
  have hx' : xs[i]? = some x := by simpa using hx
  rw [Array.getD_eq_getD_getElem?, Array.getElem?_map, hx']
  exact hr.ev x
theorem inv_fn {f : Fn} {A C : List V} {c : Value} {fr : Bool} (h : R G w fr (.fn f A C) c) : ∃ A' C', c = .func f A' C' ∧ ArgsR G w fr A A' ∧ ArgsR G w fr C C' := by
  cases h with
  | fn hs hr hs' hr' => exact ⟨_, _, rfl, ⟨hs, hr⟩, ⟨hs', hr'⟩⟩
/-- A call, by a general contract. -/
theorem AS_gcall {ops : Array Oper} {rest : List Oper} {x : Operand} {xs : Array Operand} {ts : Array TypeId} {f : Nat} {A C : List V} {K : V → List B → Prop}
    (hx : ev ge st.tm x = .fn (.func f) A C) (hd : dstOk st.n d = true) (hc : GCall P ge f (A ++ xs.toList.map (ev ge st.tm) ++ C) st.h K)
    (h : ∀ v h', K v h' → AS P ge ops rest Q { st with tm := putD d v st.tm, h := h' }) :
    AS P ge ops (⟨d, .call { callee := .value x, args := xs, argTypes := ts }, t, p, af, none⟩ :: rest) Q st := by
  intro G a w hr
  have hvx := hr.ev x
  rw [hx] at hvx
  obtain ⟨A', C', hcx, hA, hC⟩ := inv_fn hvx
  have hargs := (hA.append (ArgsR.ops hr xs)).append hC
  refine wpList_plain rfl fun K' hK' => ?_
  unfold Oper.wp
  rw [run_call hc.1 hcx]
  refine (hc.2 G w _ hargs hr.rh).mono ?_
  rintro e w1 ⟨c, G', v, h', rfl, hq, rh, hv, ext⟩
  refine hK' _ _ ?_
  exact wpList_mono' (fun _ _ _ hp => hp.mono ext fun _ _ h => h) (h v h' hq G' _ w1 (hr.put ext.le rh d (dstOk_spec hd) hv))
def Gh.withFz (G : Gh) (fz : Nat → Nat) : Gh := { G with fz := fz }
theorem Kept.le {G' : Gh} {h : List B} (rh : RH P ge G h w) (k : Kept G w G' w') : GLe G w (G.withFz G'.fz) w' where
  fz j := by
    rcases Nat.lt_or_ge j w.heap.size with h1 | h1
    · show G.fz j ≤ G'.fz j; rw [k.fz j h1]; exact Nat.le_refl _
    · rw [rh.fzlt j h1]; exact Nat.zero_le _
  cells j o ho := k.grow.cell (fz_lt rh ho)
  n := Nat.le_refl _
  gm _ _ := Nat.le_refl _
  m _ _ _ _ := rfl
  sz _ _ := rfl
  cap _ _ _ _ := rfl
theorem Kept.rh {G' : Gh} {h : List B} (rh : RH P ge G h w) (k : Kept G w G' w') : RH P ge (G.withFz G'.fz) h w' ∧ Ext G h w (G.withFz G'.fz) h w' := by
  have le := k.le rh
  constructor
  · refine ⟨rh.n, ?_, ?_, k.fzlt, fun g cs hg => (rh.ge g cs hg).mono le⟩
    · intro b x hx
      refine RB.keep le (by have := (List.getElem?_eq_some_iff.1 hx).1; rw [rh.n] at this; exact this) rfl (fun j hj => ?_) (rh.bl b x hx)
      have hlt := at_lt rh hx hj
      exact ⟨k.grow.old j hlt, k.fz j hlt⟩
    · intro b b' x x' j hx hx' e1 e2
      refine rh.inj b b' x x' j hx hx' ?_ ?_
      · cases x <;> exact e1
      · cases x' <;> exact e2
  · refine ⟨le, k.grow.size, fun j hj _ => ⟨k.grow.old j hj, k.fz j hj⟩, fun b x j hx hj => .inr ⟨b, x, hx, ?_⟩, k.grow.os, k.grow.out⟩
    cases x <;> exact hj
/-- A result that is no row of one's own. -/
def V.plain : V → Bool
  | .own .. => false
  | .tup vs => vs.all fun v => !v.isOwn
  | _ => true
theorem RO.plain {base : Nat} {r : V} {c : Value} (h : RO P G w base r c) (hp : r.plain = true) : R G w true r c := by
  cases r
  case own => simp [V.plain] at hp
  case tup vs =>
    obtain ⟨arr, rfl, hs, hr, _⟩ := h
    refine .tup hs fun i v hv => ?_
    have h1 := hr i v hv
    simp only [V.plain, List.all_eq_true, Bool.not_eq_true'] at hp
    have h2 := hp v (List.mem_of_getElem? hv)
    cases v <;> first | exact h1 | (simp [V.isOwn] at h2)
  all_goals exact h
theorem GCall_of_PCall {f : Nat} {args : List V} {r : V} (hc : PCall P ge f args r) (hf : V.isFs args = true) (hp : r.plain = true) (h : List B) :
    GCall P ge f args h fun v h' => v = r ∧ h' = h := by
  refine ⟨hc.1, fun G w cargs ha hr => ?_⟩
  have ha' : ArgsR G w true args cargs := ⟨ha.1, fun i v hv => (ha.2 i v hv).frozen (V.isFs_get hf i v hv)⟩
  refine (hc.2 G w cargs ha' ⟨hr.fzlt, hr.ge⟩).mono ?_
  rintro e w' ⟨c, G', rfl, kept, ro⟩
  obtain ⟨h1, h2⟩ := kept.rh hr
  exact ⟨c, G.withFz G'.fz, r, h, rfl, ⟨rfl, rfl⟩, h1, ((ro.plain hp).monoT (G' := G.withFz G'.fz) (fun k => Nat.le_refl (G'.fz k)) (fun _ _ _ => rfl) rfl).weak rfl, h2⟩
/-- A row that is a call's result, as a block. -/
theorem RB_own {G' : Gh} {T : TypeId} {xs : List (List V)} {c : Value} {base : Nat} (hro : OwnR P G' w' base T xs c) :
    ∃ k cap, c = (match k with | some k => .slice (some ⟨k, 0, none⟩) xs.length cap | none => .slice none 0 0) ∧ (∀ j, k = some j → base ≤ j) ∧ (k = none → xs = []) ∧ (∀ j, k = some j → xs.length ≤ cap) ∧
      ∀ G2 : Gh, G2.fz = G'.fz → RB P (G2.push k (szOf P T) cap) w' G2.n (.row T 0 0 true xs) := by
  obtain ⟨h0, ⟨rfl, rfl⟩ | ⟨k, cap, arr, rfl, hb, hh, hfz, hs, hl, hcm, hlen, hc⟩⟩ := hro
  · exact ⟨none, 0, rfl, fun j h => by simp at h, fun _ => rfl, fun j h => by simp at h, fun G2 h2 => ⟨by simp [Gh.push], Nat.zero_le _, by simp [Gh.push, h0], .inl ⟨by simp [Gh.push], rfl⟩⟩⟩
  · refine ⟨some k, cap, rfl, fun j h => (by cases h; exact hb), fun h => (by cases h), fun j _ => hl, fun G2 h2 => ⟨by simp [Gh.push], Nat.zero_le _, by simp [Gh.push, h0], .inr ⟨k, arr, by simp [Gh.push], hh, ?_, ?_, ?_, ?_, ?_, ?_⟩⟩⟩
    · show G2.fz k ≤ _; rw [h2, hfz]; exact Nat.zero_le _
    · simp [Gh.push, hs]
    · simp [Gh.push, hl]
    · simp [Gh.push, hcm]
    · simpa [Gh.push] using hlen
    · intro i x j v hx hv
      have := hc i x j v hx hv
      simp only [Gh.push, if_true]
      exact ⟨this.1, this.2.monoT (fun _ => by show G'.fz _ ≤ G2.fz _; rw [h2]; exact Nat.le_refl _) (fun _ _ _ => rfl) rfl⟩
theorem GCall_own {f : Nat} {args : List V} {T : TypeId} {xs : List (List V)} (hc : PCall P ge f args (.own T xs)) (hf : V.isFs args = true) (h : List B) :
    GCall P ge f args h fun v h' => v = .ref h.length 0 0 xs.length ∧ h' = h ++ [.row T 0 0 true xs] := by
  refine ⟨hc.1, fun G w cargs ha hr => ?_⟩
  have ha' : ArgsR G w true args cargs := ⟨ha.1, fun i v hv => (ha.2 i v hv).frozen (V.isFs_get hf i v hv)⟩
  refine (hc.2 G w cargs ha' ⟨hr.fzlt, hr.ge⟩).mono ?_
  rintro e w' ⟨c, G', rfl, kept, ro⟩
  obtain ⟨h1, h2⟩ := kept.rh hr
  obtain ⟨k, cap, hcv, hk1, hk2, hk3, hrb⟩ := RB_own ro
  have hk : ∀ k', ((G.withFz G'.fz).push k (szOf P T) cap).at (G.withFz G'.fz).n (.row T 0 0 true xs) = some k' → w.heap.size ≤ k' := fun k' h => by
    simp [Gh.at, Gh.push] at h; exact hk1 _ h
  -- the block, seen from the world ahead of the call
  have hpush : RH P ge ((G.withFz G'.fz).push k (szOf P T) cap) (h ++ [.row T 0 0 true xs]) w' ∧ Ext G h w ((G.withFz G'.fz).push k (szOf P T) cap) (h ++ [.row T 0 0 true xs]) w' := by
    have le1 : GLe (G.withFz G'.fz) w' ((G.withFz G'.fz).push k (szOf P T) cap) w' := GLe.push h1 (.refl w') _ _ _
    have part : ∀ {b y}, (h ++ [B.row T 0 0 true xs])[b]? = some y → (h[b]? = some y ∧ b < G.n) ∨ (b = G.n ∧ y = .row T 0 0 true xs) := fun {b y} hy => by
      rcases Nat.lt_or_ge b h.length with h3 | h3
      · rw [List.getElem?_append_left h3] at hy; exact .inl ⟨hy, by rw [← hr.n]; exact h3⟩
      · rw [List.getElem?_append_right h3] at hy
        have h4 : b - h.length = 0 := by
          rcases Nat.eq_zero_or_pos (b - h.length) with h | h
          · exact h
          · rw [List.getElem?_eq_none (by simp; omega)] at hy; cases hy
        rw [h4] at hy; simp at hy
        exact .inr ⟨by rw [← hr.n]; omega, hy.symm⟩
    have atp : ∀ {b y}, b < G.n → ((G.withFz G'.fz).push k (szOf P T) cap).at b y = G.at b y := fun {b y} hb => by
      have hne : b ≠ (G.withFz G'.fz).n := by show b ≠ G.n; omega
      rw [at_push hne]; cases y <;> rfl
    constructor
    · refine ⟨by simp [Gh.push, Gh.withFz, hr.n], ?_, ?_, h1.fzlt, fun g cs hg => (h1.ge g cs hg).mono le1⟩
      · intro b y hy
        rcases part hy with ⟨hy, hb⟩ | ⟨rfl, rfl⟩
        · refine RB.keep le1 hb ?_ (fun j hj => ⟨rfl, rfl⟩) (h1.bl b y hy)
          show (if b = G.n then 0 else G.gm b) = G.gm b
          rw [if_neg (Nat.ne_of_lt hb)]
        · exact hrb (G.withFz G'.fz) rfl
      · intro b b' y y' j hy hy' e1 e2
        rcases part hy with ⟨oy, hb⟩ | ⟨rfl, rfl⟩ <;> rcases part hy' with ⟨oy', hb'⟩ | ⟨rfl, rfl⟩
        · rw [atp hb] at e1; rw [atp hb'] at e2; exact hr.inj b b' y y' j oy oy' e1 e2
        · rw [atp hb] at e1; have := at_lt hr oy e1; have := hk j e2; omega
        · rw [atp hb'] at e2; have := at_lt hr oy' e2; have := hk j e1; omega
        · rfl
    · refine ⟨h2.le.trans le1, kept.grow.size, fun j hj _ => ⟨kept.grow.old j hj, kept.fz j hj⟩, fun b y j hy hj => ?_, kept.grow.os, kept.grow.out⟩
      rcases part hy with ⟨hy, hb⟩ | ⟨rfl, rfl⟩
      · rw [atp hb] at hj; exact .inr ⟨b, y, hy, hj⟩
      · exact .inl (hk j hj)
  refine ⟨c, _, _, _, rfl, ⟨rfl, rfl⟩, hpush.1, ?_, hpush.2⟩
  rw [hr.n]
  cases k with
  | none =>
    simp only at hcv
    subst hcv
    rw [hk2 rfl]
    exact .refn (by simp [Gh.push, Gh.withFz]) (by simp [Gh.push, Gh.withFz]) (by simp [Gh.push, Gh.withFz])
  | some k =>
    simp only at hcv
    subst hcv
    have := R.ref (G := (G.withFz G'.fz).push (some k) (szOf P T) cap) (w := w') (b := G.n) (g := 0) (off := 0) (len := xs.length) (k := k) (by simp [Gh.push, Gh.withFz]) (by simp [Gh.push, Gh.withFz]) (by simp [Gh.push, Gh.withFz])
      (by simp [Gh.push, Gh.withFz]; exact hk3 k rfl)
    simpa [Gh.push, Gh.withFz] using this
/-- A call, by a pure contract whose result is frozen. -/
theorem AS_pcall {ops : Array Oper} {rest : List Oper} {x : Operand} {xs : Array Operand} {ts : Array TypeId} {f : Nat} {A C : List V} {r : V}
    (hx : ev ge st.tm x = .fn (.func f) A C) (hd : dstOk st.n d = true) (hc : PCall P ge f (A ++ xs.toList.map (ev ge st.tm) ++ C) r) (hf : V.isFs (A ++ xs.toList.map (ev ge st.tm) ++ C) = true) (hp : r.plain = true)
    (h : AS P ge ops rest Q { st with tm := putD d r st.tm }) :
    AS P ge ops (⟨d, .call { callee := .value x, args := xs, argTypes := ts }, t, p, af, none⟩ :: rest) Q st :=
  AS_gcall hx hd (GCall_of_PCall hc hf hp st.h) (by rintro v h' ⟨rfl, rfl⟩; exact h)
theorem AS_ocall {ops : Array Oper} {rest : List Oper} {x : Operand} {xs : Array Operand} {ts : Array TypeId} {f : Nat} {A C : List V} {T : TypeId} {rs : List (List V)}
    (hx : ev ge st.tm x = .fn (.func f) A C) (hd : dstOk st.n d = true) (hc : PCall P ge f (A ++ xs.toList.map (ev ge st.tm) ++ C) (.own T rs)) (hf : V.isFs (A ++ xs.toList.map (ev ge st.tm) ++ C) = true)
    (h : AS P ge ops rest Q { st with tm := putD d (.ref st.h.length 0 0 rs.length) st.tm, h := st.h ++ [.row T 0 0 true rs] }) :
    AS P ge ops (⟨d, .call { callee := .value x, args := xs, argTypes := ts }, t, p, af, none⟩ :: rest) Q st :=
  AS_gcall hx hd (GCall_own hc hf st.h) (by rintro v h' ⟨rfl, rfl⟩; exact h)
def B.lt (n : Nat) : B → Prop
  | .dead => True
  | .var cs => V.lts n cs = true
  | .row _ _ _ flat xs => flat = true ∨ ∀ x ∈ xs, V.lts n x = true
  | .map _ => True
structure Weak (st st' : St) : Prop where
  n : st'.n = st.n
  len : st'.h.length ≤ st.h.length
  tm : ∀ p ∈ st'.tm, lk st.tm p.1 = p.2 ∧ p.2.lt st'.h.length = true
  bl : ∀ (b : Nat) (x : B), st'.h[b]? = some x → x = .dead ∨ (st.h[b]? = some x ∧ x.lt st'.h.length)
theorem lk_mem {tm : List (Nat × V)} {t : Nat} {v : V} (h : lk tm t = v) (hv : v ≠ .junk) : (t, v) ∈ tm := by
  induction tm with
  | nil => exact absurd h.symm (by simpa [lk] using hv)
  | cons a r ih =>
    obtain ⟨s, u⟩ := a
    simp only [lk] at h
    split at h
    · rename_i e; subst e; subst h; exact List.mem_cons_self
    · exact List.mem_cons_of_mem _ (ih h)
theorem RB.cut {b n : Nat} {x : B} (hx : RB P G w b x) (hl : x.lt n) : RB P (G.cut n) w b x := by
  cases x with
  | dead => trivial
  | var cs =>
    obtain ⟨h0, k, arr, T, hm, hh, hf, hs, hc⟩ := hx
    exact ⟨h0, k, arr, T, hm, hh, hf, hs, fun i v hv => ⟨(hc i v hv).1, (hc i v hv).2.cut (V.lts_get hl i v hv)⟩⟩
  | row T g fzn flat xs =>
    obtain ⟨h0, hfx, hsz, h⟩ := hx
    refine ⟨h0, hfx, hsz, ?_⟩
    rcases h with h | ⟨k, arr, hm, hh, hf, hs, hl', hcm, hlen, hc⟩
    · exact .inl h
    · refine .inr ⟨k, arr, hm, hh, hf, hs, hl', hcm, hlen, fun i x j v hx hv => ⟨(hc i x j v hx hv).1, ?_⟩⟩
      have h1 := (hc i x j v hx hv).2
      rcases hl with rfl | hl
      · exact h1.monoT (G' := G.cut n) (fun k => Nat.le_refl (G.fz k)) (fun _ _ _ => rfl) rfl
      · exact h1.cut (V.lts_get (hl x (List.mem_of_getElem? hx)) j v hv)
  | map es =>
    obtain ⟨h0, k, ents, clock, hm, hh, hs, hc⟩ := hx
    exact ⟨h0, k, ents, clock, hm, hh, hs, fun i e c he hc' => ⟨(hc i e c he hc').1.monoT (G' := G.cut n) (fun k => Nat.le_refl (G.fz k)) (fun _ _ _ => rfl) rfl, (hc i e c he hc').2.monoT (G' := G.cut n) (fun k => Nat.le_refl (G.fz k)) (fun _ _ _ => rfl) rfl⟩⟩
theorem Weak.rep {st' : St} (hw : Weak st st') {a : Act} (hr : Rep P ge G st a w) : Rep P ge (G.cut st'.h.length) st' a w := by
  refine ⟨⟨rfl, ?_, ?_, hr.rh.fzlt, ?_⟩, ?_, by rw [hw.n]; exact hr.n, hr.d⟩
  · intro b x hx
    rcases hw.bl b x hx with rfl | ⟨h1, h2⟩
    · trivial
    · exact (hr.rh.bl b x h1).cut h2
  · intro b b' x x' k hx hx' e1 e2
    rcases hw.bl b x hx with rfl | ⟨h1, _⟩
    · cases e1
    · rcases hw.bl b' x' hx' with rfl | ⟨h2, _⟩
      · cases e2
      · exact hr.rh.inj b b' x x' k h1 h2 (by cases x <;> exact e1) (by cases x' <;> exact e2)
  · intro g cs hg
    exact (hr.rh.ge g cs hg).monoT (G' := G.cut st'.h.length) (fun k => Nat.le_refl (G.fz k)) (fun _ _ _ => rfl) rfl
  · intro t
    by_cases hj : lk st'.tm t = .junk
    · rw [hj]; exact .junk
    · obtain ⟨h1, h2⟩ := hw.tm (t, lk st'.tm t) (lk_mem rfl hj)
      have h3 := hr.tm t
      simp only at h1 h2
      rw [h1] at h3
      exact h3.cut h2
theorem Ext.cut {G0 : Gh} {h0 : List B} {w0 : World} {st' : St} (hw : Weak st st') (e : Ext G0 h0 w0 G st.h w) (hn : G0.n ≤ st'.h.length) : Ext G0 h0 w0 (G.cut st'.h.length) st'.h w where
  le := ⟨e.le.fz, e.le.cells, hn, e.le.gm, e.le.m, e.le.sz, e.le.cap⟩
  size := e.size
  frame := e.frame
  fresh b x k hx hk := by
    rcases hw.bl b x hx with rfl | ⟨h1, _⟩
    · cases hk
    · exact e.fresh b x k h1 (by cases x <;> exact hk)
  os := e.os
  out := e.out
theorem AW.weak {st' : St} {c : Code} (hw : Weak st st') (hl : st'.h.length = st.h.length) (h : AW P ge c Q st') : AW P ge c Q st := by
  intro G a w hr
  have hr' := hw.rep hr
  refine wp_mono (h _ a w hr') fun e a' w' hp => ?_
  obtain ⟨G', s', q, r, x⟩ := hp
  exact ⟨G', s', q, r, (Ext.cut hw (.refl G st.h w) (by rw [hl, hr.rh.n]; exact Nat.le_refl _)).trans x⟩
/-- A loop, by a family of states at its head. -/
theorem AW_loop {σ : Type} (S : σ → St) (I : σ → Prop) (μ : σ → Nat) {c : Code} {x0 : σ} (h0 : I x0) (hst : Weak st (S x0)) (hlen : ∀ x, I x → (S x).h.length = st.h.length)
    (round : ∀ x, I x → AW P ge c (SThen (fun s => ∃ x', I x' ∧ μ x' < μ x ∧ Weak s (S x')) Q) (S x)) : AW P ge (.loop c) Q st := by
  intro G0 a0 w0 hr0 b k cs
  have key : ∀ (n : Nat) (x : σ) (G : Gh) (a : Act) (w : World), μ x = n → I x → Rep P ge G (S x) a w → Ext G0 st.h w0 G (S x).h w →
      ∃ e a' w', CPost P ge Q G0 st.h w0 e a' w' ∧ Arrives P (lone (b.at a (.code c :: .inLoop c :: k)) cs w) b k cs e a' w' := by
    intro n
    induction n using Nat.strongRecOn with
    | _ n ih =>
      intro x G a w hn hI hr hx
      obtain ⟨e, a1, w1, hq, harr⟩ := round x hI G a w hr b (.inLoop c :: k) cs
      obtain ⟨G', s, q, r, ex⟩ := hq
      cases e with
      | normal =>
        obtain ⟨x', hI', hlt, hw⟩ := q
        have hl : (S x').h.length = st.h.length := hlen x' hI'
        obtain ⟨e2, a2, w2, hq2, harr2⟩ := ih (μ x') (hn ▸ hlt) x' _ a1 w1 rfl hI' (hw.rep r) (Ext.cut hw (hx.trans ex) (by rw [hl, hr0.rh.n]; exact Nat.le_refl _))
        exact ⟨e2, a2, w2, hq2, .of_steps (Steps.trans harr (.one step_inLoop)) harr2⟩
      | exit id => exact ⟨_, a1, w1, ⟨G', s, q, r, hx.trans ex⟩, .pass (x := .inLoop c) rfl (fun _ _ => .inl (by simp)) harr⟩
      | goto l => exact ⟨_, a1, w1, ⟨G', s, q, r, hx.trans ex⟩, .pass (x := .inLoop c) rfl (fun _ _ => .inl (by simp)) harr⟩
      | ret => exact ⟨_, a1, w1, ⟨G', s, q, r, hx.trans ex⟩, .pass (x := .inLoop c) rfl (fun _ _ => .inl (by simp)) harr⟩
      | panic ch => exact ⟨_, a1, w1, ⟨G', s, q, r, hx.trans ex⟩, .pass (x := .inLoop c) rfl (fun _ _ => .inl (by simp)) harr⟩
      | outgrown => exact ⟨_, a1, w1, ⟨G', s, q, r, hx.trans ex⟩, .pass (x := .inLoop c) rfl (fun _ _ => .inl (by simp)) harr⟩
  obtain ⟨e, a', w', hq, harr⟩ := key _ x0 _ a0 w0 rfl h0 (hst.rep hr0) (Ext.cut hst (.refl _ _ _) (by rw [hlen x0 h0, hr0.rh.n]; exact Nat.le_refl _))
  exact ⟨e, a', w', hq, .of_steps (.one step_loop) harr⟩
end
end Go.AM
end
