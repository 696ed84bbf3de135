/-
  YtgmlimipejcpgaaAmB: a step of the proof of a law of the program: what this text proves holds under the hypotheses that its theorems name, and no others.
-/
import Derived.Test.YtgmlimipejcpgaaAmA
/-! AM, part B: the abstract heap and state, the rules of control. -/
set_option linter.unusedVariables false
set_option linter.unusedSimpArgs false
namespace Go.AM

inductive B where
  | dead
  | var (cells : List V)
  | row (T : TypeId) (g fzn : Nat) (flat : Bool) (xs : List (List V))
  | map (es : List (V × V))
  deriving Inhabited

abbrev GEnv := Nat → Option (List V)

def Gh.at (G : Gh) (b : Nat) : B → Option Nat
  | .dead => none
  | .var _ => G.m b 0
  | .row _ g _ _ _ => G.m b g
  | .map _ => G.m b 0

def szOf (P : Program) (t : TypeId) : Nat := ((P.info? t).map (·.size)).getD 0

def RB (P : Program) (G : Gh) (w : World) (b : Nat) : B → Prop
  | .dead => True
  | .var cells => G.gm b = 0 ∧ ∃ k arr T, G.m b 0 = some k ∧ w.heap[k]? = some (.cells arr T (0, 0)) ∧ G.fz k = 0 ∧ arr.size = cells.length ∧
      ∀ (i : Nat) (v : V), cells[i]? = some v → (arr.getD i undef).oneCell' = true ∧ R G w false v (arr.getD i undef)
  | .row T g fzn flat xs => G.gm b = g ∧ fzn ≤ xs.length ∧ (0 < G.sz b ∧ G.sz b = szOf P T) ∧ ((G.m b g = none ∧ xs = []) ∨ ∃ k arr, G.m b g = some k ∧ w.heap[k]? = some (.cells arr T (0, 0)) ∧ G.fz k ≤ fzn * G.sz b ∧
      arr.size = G.cap b g * G.sz b ∧ xs.length ≤ G.cap b g ∧ G.cap b g ≤ maxLen ∧ (∀ (i : Nat) (x : List V), xs[i]? = some x → x.length = G.sz b) ∧
      ∀ (i : Nat) (x : List V) (j : Nat) (v : V), xs[i]? = some x → x[j]? = some v → (arr.getD (i * G.sz b + j) undef).oneCell' = true ∧ R G w flat v (arr.getD (i * G.sz b + j) undef))
  | .map es => G.gm b = 0 ∧ ∃ k ents clock, G.m b 0 = some k ∧ w.heap[k]? = some (.map ents clock) ∧ ents.size = es.length ∧
      ∀ (i : Nat) (e : V × V) (c : MapEntry), es[i]? = some e → ents[i]? = some c → R G w true e.1 c.key ∧ R G w true e.2 c.val

structure RH (P : Program) (ge : GEnv) (G : Gh) (h : List B) (w : World) : Prop where
  n : h.length = G.n
  bl : ∀ (b : Nat) (x : B), h[b]? = some x → RB P G w b x
  inj : ∀ (b b' : Nat) (x x' : B) (k : Nat), h[b]? = some x → h[b']? = some x' → G.at b x = some k → G.at b' x' = some k → b = b'
  fzlt : ∀ k, w.heap.size ≤ k → G.fz k = 0
  ge : ∀ g cs, ge g = some cs → R G w true (.fp cs 0) (.pointer (some ⟨g, 0, none⟩))

structure St where
  n : Nat
  tm : List (Nat × V)
  h : List B

def lk : List (Nat × V) → Nat → V
  | [], _ => .junk
  | (s, v) :: r, t => if s = t then v else lk r t

def putD : Option Tmp → V → List (Nat × V) → List (Nat × V)
  | some d, v, tm => (d, v) :: tm
  | none, _, tm => tm

structure Rep (P : Program) (ge : GEnv) (G : Gh) (st : St) (a : Act) (w : World) : Prop where
  rh : RH P ge G st.h w
  tm : ∀ t, R G w false (lk st.tm t) (a.tmps.getD t undef)
  n : a.tmps.size = st.n
  d : a.defers = []

structure Ext (G : Gh) (h : List B) (w : World) (G' : Gh) (h' : List B) (w' : World) : Prop where
  le : GLe G w G' w'
  size : w.heap.size ≤ w'.heap.size
  frame : ∀ (k : Nat), k < w.heap.size → (∀ (b : Nat) (x : B), h[b]? = some x → G.at b x ≠ some k) → w'.heap[k]? = w.heap[k]? ∧ G'.fz k = G.fz k
  fresh : ∀ (b : Nat) (x : B) (k : Nat), h'[b]? = some x → G'.at b x = some k → w.heap.size ≤ k ∨ ∃ (b0 : Nat) (x0 : B), h[b0]? = some x0 ∧ G.at b0 x0 = some k
  os : w'.os = w.os
  out : w'.output = w.output ∧ w'.tape = w.tape

theorem Ext.refl (G : Gh) (h : List B) (w : World) : Ext G h w G h w :=
  ⟨.refl _ _, Nat.le_refl _, fun _ _ _ => ⟨rfl, rfl⟩, fun b x k hx hk => .inr ⟨b, x, hx, hk⟩, rfl, ⟨rfl, rfl⟩⟩

theorem Ext.trans {G G1 G2 : Gh} {h h1 h2 : List B} {w w1 w2 : World} (e : Ext G h w G1 h1 w1) (e' : Ext G1 h1 w1 G2 h2 w2) : Ext G h w G2 h2 w2 where
  le := e.le.trans e'.le
  size := Nat.le_trans e.size e'.size
  frame k hk hn := by
    obtain ⟨a1, a2⟩ := e.frame k hk hn
    obtain ⟨b1, b2⟩ := e'.frame k (Nat.lt_of_lt_of_le hk e.size) (fun b x hx hat => by
      rcases e.fresh b x k hx hat with h | ⟨b0, x0, h0, h1⟩
      · omega
      · exact hn b0 x0 h0 h1)
    exact ⟨b1.trans a1, b2.trans a2⟩
  fresh b x k hx hat := by
    rcases e'.fresh b x k hx hat with h | ⟨b0, x0, h0, h1⟩
    · exact .inl (Nat.le_trans e.size h)
    · exact e.fresh b0 x0 k h0 h1
  os := e'.os.trans e.os
  out := ⟨e'.out.1.trans e.out.1, e'.out.2.trans e.out.2⟩

/-- The post of the machine that an abstract post stands for. -/
def CPost (P : Program) (ge : GEnv) (Q : Exit → St → Prop) (G : Gh) (h : List B) (w : World) (e : Exit) (a' : Act) (w' : World) : Prop :=
  ∃ G' st', Q e st' ∧ Rep P ge G' st' a' w' ∧ Ext G h w G' st'.h w'

def AW (P : Program) (ge : GEnv) (c : Code) (Q : Exit → St → Prop) (st : St) : Prop :=
  ∀ G a w, Rep P ge G st a w → c.wp P (CPost P ge Q G st.h w) a w

def AS (P : Program) (ge : GEnv) (ops : Array Oper) (l : List Oper) (Q : Exit → St → Prop) (st : St) : Prop :=
  ∀ G a w, Rep P ge G st a w → wpList P ops (CPost P ge Q G st.h w) l a w

section
variable {P : Program} {ge : GEnv} {Q Q' : Exit → St → Prop} {st st' : St}

theorem CPost.mono {G G1 : Gh} {h h1 : List B} {w w1 : World} (e : Ext G h w G1 h1 w1) (hq : ∀ e st, Q e st → Q' e st) {ex : Exit} {a' : Act} {w' : World} (hp : CPost P ge Q G1 h1 w1 ex a' w') : CPost P ge Q' G h w ex a' w' :=
  let ⟨G', s', q, r, x⟩ := hp
  ⟨G', s', hq _ _ q, r, e.trans x⟩

theorem AW.mono {c : Code} (h : AW P ge c Q st) (hq : ∀ e st, Q e st → Q' e st) : AW P ge c Q' st :=
  fun G a w hr => wp_mono (h G a w hr) fun _ _ _ hp => hp.mono (.refl _ _ _) hq

def SThen (K : St → Prop) (Q : Exit → St → Prop) : Exit → St → Prop
  | .normal, st => K st
  | e, st => Q e st

theorem AW_seq {x y : Code} (h : AW P ge x (SThen (AW P ge y Q) Q) st) : AW P ge (.seq x y) Q st := by
  intro G a w hr
  refine wp_seq (wp_mono (h G a w hr) ?_)
  rintro e a' w' ⟨G', s', q, r, x⟩
  cases e <;> simp only [SThen, Exit.then] at q ⊢
  case normal => exact wp_mono (q G' a' w' r) fun _ _ _ hp => hp.mono x fun _ _ h => h
  all_goals exact ⟨G', s', q, r, x⟩

theorem AW_skip (h : Q .normal st) : AW P ge .skip Q st := fun G _ w hr => wp_skip ⟨G, st, h, hr, .refl _ _ _⟩
theorem AW_ret (h : Q .ret st) : AW P ge .ret Q st := fun G _ w hr => wp_ret ⟨G, st, h, hr, .refl _ _ _⟩
theorem AW_exit {id : Nat} (h : Q (.exit id) st) : AW P ge (.exit id) Q st := fun G _ w hr => wp_exit ⟨G, st, h, hr, .refl _ _ _⟩

def SBlock (id : Nat) (Q : Exit → St → Prop) : Exit → St → Prop
  | .exit id', st => if id' = id then Q .normal st else Q (.exit id') st
  | e, st => Q e st

theorem AW_block {id : Nat} {c : Code} (h : AW P ge c (SBlock id Q) st) : AW P ge (.block id c) Q st := by
  intro G a w hr
  refine wp_block (wp_mono (h G a w hr) ?_)
  rintro e a' w' ⟨G', s', q, r, x⟩
  cases e <;> simp only [SBlock, Exit.inBlock] at q ⊢
  case exit id' =>
    split
    · rename_i hid; rw [if_pos hid] at q; exact ⟨G', s', q, r, x⟩
    · rename_i hid; rw [if_neg hid] at q; exact ⟨G', s', q, r, x⟩
  all_goals exact ⟨G', s', q, r, x⟩

def V.ofCell : Value → V
  | .bool b => .bool b
  | .int k n => .int k n
  | .string s => .str s
  | .slice none 0 0 => .nils
  | .pointer none => .nilp
  | .nilFunc => .nilf
  | .map none => .nilm
  | .nilIface => .nili
  | _ => .junk
def V.ofValue : Value → V
  | .agg cs => if cs.toList.all (·.oneCell') then .agg (cs.toList.map V.ofCell) else .junk
  | v => V.ofCell v

theorem R.ofCell {G : Gh} {w : World} {fr : Bool} (v : Value) : R G w fr (V.ofCell v) v := by
  unfold V.ofCell
  split <;> constructor
theorem R.ofValue {G : Gh} {w : World} {fr : Bool} (v : Value) : R G w fr (V.ofValue v) v := by
  unfold V.ofValue
  split
  · rename_i cs
    split
    · rename_i h
      refine .agg (by simp) (fun i v hv => ?_) (fun i v hv => ?_)
      · rw [List.getElem?_map] at hv
        obtain ⟨x, hx, rfl⟩ := Option.map_eq_some_iff.1 hv
        have hx' : cs[i]? = some x := by simpa using hx
        rw [Array.getD_eq_getD_getElem?, hx']
        exact List.all_eq_true.1 h x (List.mem_of_getElem? hx)
      · rw [List.getElem?_map] at hv
        obtain ⟨x, hx, rfl⟩ := Option.map_eq_some_iff.1 hv
        have hx' : cs[i]? = some x := by simpa using hx
        rw [Array.getD_eq_getD_getElem?, hx']
        exact .ofCell x
    · exact .junk
  · exact .ofCell v

def ev (ge : GEnv) (tm : List (Nat × V)) : Operand → V
  | .tmp t => lk tm t
  | .const v => .ofValue v
  | .global g => match ge g with | some cs => .fp cs 0 | none => .junk
  | .func f => .fn (.func f) [] []

theorem Rep.ev {G : Gh} {a : Act} {w : World} (hr : Rep P ge G st a w) (x : Operand) : R G w false (ev ge st.tm x) (a.eval x) := by
  cases x with
  | tmp t => exact hr.tm t
  | const v => exact .ofValue v
  | global g =>
    simp only [AM.ev, Act.eval]
    split
    · rename_i cs h; exact (hr.rh.ge g cs h).weak rfl
    · exact .junk
  | func f => exact .fn rfl (fun i v h => by simp at h) rfl (fun i v h => by simp at h)

theorem R.inv_bool {G : Gh} {w : World} {fr b : Bool} {c : Value} (h : R G w fr (.bool b) c) : c = .bool b := by cases h; rfl
theorem R.inv_int {G : Gh} {w : World} {fr : Bool} {k : IntKind} {n : Int} {c : Value} (h : R G w fr (.int k n) c) : c = .int k n := by cases h; rfl
theorem R.inv_str {G : Gh} {w : World} {fr : Bool} {s : ByteArray} {c : Value} (h : R G w fr (.str s) c) : c = .string s := by cases h; rfl

theorem AW_cond {x : Operand} {t e : Code} {c : Bool} (hc : ev ge st.tm x = .bool c) (ht : c = true → AW P ge t Q st) (hf : c = false → AW P ge e Q st) : AW P ge (.cond x t e) Q st := by
  intro G a w hr
  have hx := hr.ev x
  rw [hc] at hx
  exact wp_cond_split hx.inv_bool (fun h => ht h G a w hr) (fun h => hf h G a w hr)

theorem AW_region {id : Nat} {ops : Array Oper} (h : AS P ge ops ops.toList Q st) : AW P ge (.region id ops false) Q st :=
  fun G a w hr => wp_region_list (h G a w hr)

theorem AS_nil {ops : Array Oper} (h : Q .normal st) : AS P ge ops [] Q st := fun G _ w hr => wpList_nil ⟨G, st, h, hr, .refl _ _ _⟩

theorem upon_mono {o : Oper} {a : Act} {K K' : Act → World → Prop} {Q Q' : Exit → Act → World → Prop} (hK : ∀ a w, K a w → K' a w) (hQ : ∀ e a w, Q e a w → Q' e a w) {r : Result Next}
    (h : o.upon P a K Q r) : o.upon P a K' Q' r := by
  have hout : LetsOut Q → LetsOut Q' := fun ⟨a, w, h⟩ => ⟨a, w, hQ _ _ _ h⟩
  cases r with
  | ok n w' =>
    cases n <;> simp only [Oper.upon] at h ⊢ <;> first
      | exact hK _ _ h
      | exact Calls.mono h (fun e w'' he => by cases e <;> first | exact hK _ _ he | exact hQ _ _ _ he | exact hout he)
      | exact Rows.mono h (fun _ _ he => hK _ _ he)
  | halt x w' => cases x <;> simp only [Oper.upon] at h ⊢ <;> exact hQ _ _ _ h

theorem wpList_mono' {ops : Array Oper} {Q Q' : Exit → Act → World → Prop} (hQ : ∀ e a w, Q e a w → Q' e a w) : ∀ {l : List Oper} {a : Act} {w : World}, wpList P ops Q l a w → wpList P ops Q' l a w
  | [], _, _, h => hQ _ _ _ h
  | o :: rest, a, w, h => by
    unfold wpList at h ⊢
    split
    · rename_i hw
      rw [if_pos hw] at h
      rcases h with h | ⟨h1, a0, w0, h2⟩
      · exact .inl (upon_mono (fun _ _ h => wpList_mono' hQ h) hQ h)
      · exact .inr ⟨h1, a0, w0, hQ _ _ _ h2⟩
    · rename_i hw
      rw [if_neg hw] at h
      exact wpList_mono' hQ h

/-- What one operation does: v is left, and the heap h'. -/
def OpS (P : Program) (ge : GEnv) (st : St) (o : Oper) (v : V) (h' : List B) : Prop :=
  ∀ G a w, Rep P ge G st a w → ∃ c G' w', ((execOp a.eval o).run P w = .ok (.value c) w' ∨ ((execOp a.eval o).run P w = .ok .skip w' ∧ c = undef)) ∧
    RH P ge G' h' w' ∧ R G' w' false v c ∧ Ext G st.h w G' h' w'

theorem getD_set (t : Array Value) (d i : Nat) (c : Value) (hd : d < t.size) : (t.setIfInBounds d c).getD i undef = if d = i then c else t.getD i undef := by
  simp only [Array.getD_eq_getD_getElem?, Array.getElem?_setIfInBounds]
  split
  · rename_i h; subst h; simp [hd]
  · rfl

theorem Rep.put {G G' : Gh} {a : Act} {w w' : World} (hr : Rep P ge G st a w) (le : GLe G w G' w') {h' : List B} (rh : RH P ge G' h' w') (d : Option Tmp) (hd : ∀ t, d = some t → t < st.n) {v : V} {c : Value} (hv : R G' w' false v c) :
    Rep P ge G' { st with tm := putD d v st.tm, h := h' } (a.put d c) w' := by
  cases d with
  | none => exact ⟨rh, fun t => (hr.tm t).mono le, hr.n, hr.d⟩
  | some t0 =>
    refine ⟨rh, fun t => ?_, ?_, hr.d⟩
    · have hlt : t0 < a.tmps.size := by rw [hr.n]; exact hd t0 rfl
      simp only [putD, lk, Act.put]
      rw [getD_set _ _ _ _ hlt]
      split
      · exact hv
      · exact (hr.tm t).mono le
    · simp only [Act.put, Array.size_setIfInBounds]; exact hr.n

def dstOk (n : Nat) : Option Tmp → Bool
  | none => true
  | some t => t < n
theorem dstOk_spec {n : Nat} {d : Option Tmp} (h : dstOk n d = true) : ∀ t, d = some t → t < n := by
  intro t ht; subst ht; simpa [dstOk] using h

theorem AS_op {ops : Array Oper} {o : Oper} {rest : List Oper} {v : V} {h' : List B} (hg : o.guard = none) (hd : dstOk st.n o.dst = true) (ho : OpS P ge st o v h')
    (h : AS P ge ops rest Q { st with tm := putD o.dst v st.tm, h := h' }) : AS P ge ops (o :: rest) Q st := by
  intro G a w hr
  obtain ⟨c, G', w', hrun, rh, hv, ext⟩ := ho G a w hr
  refine wpList_plain hg fun K hK => ?_
  have hfin : K (a.put o.dst c) w' := by
    refine hK _ _ ?_
    have h2 := h G' _ w' (hr.put ext.le rh o.dst (dstOk_spec hd) hv)
    exact wpList_mono' (fun _ _ _ hp => hp.mono ext fun _ _ h => h) h2
  unfold Oper.wp
  rcases hrun with hrun | ⟨hrun, rfl⟩
  · rw [hrun]; exact hfin
  · rw [hrun]; exact hfin
end
end Go.AM
