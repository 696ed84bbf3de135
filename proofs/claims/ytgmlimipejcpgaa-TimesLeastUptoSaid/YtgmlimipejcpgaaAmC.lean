/-
  YtgmlimipejcpgaaAmC: a step of the proof of a law of the program: what this text proves holds under the hypotheses that its theorems name, and no others.
-/
import Derived.Test.YtgmlimipejcpgaaAmB
import Derived.Laws.AppendOwn
import Derived.Laws.CopyRow
import Derived.Laws.Rows
import Derived.Laws.Entries
/-! AM, part C: the operations. -/
set_option linter.unusedVariables false
set_option linter.unusedSimpArgs false
namespace Go.AM

/-! ### Worlds that grow, ghosts that grow -/

structure WGrow (w w' : World) : Prop where
  size : w.heap.size ≤ w'.heap.size
  old : ∀ k, k < w.heap.size → w'.heap[k]? = w.heap[k]?
  os : w'.os = w.os
  out : w'.output = w.output ∧ w'.tape = w.tape

theorem WGrow.refl (w : World) : WGrow w w := ⟨Nat.le_refl _, fun _ _ => rfl, rfl, ⟨rfl, rfl⟩⟩
theorem WGrow.trans {w w1 w2 : World} (h : WGrow w w1) (h' : WGrow w1 w2) : WGrow w w2 :=
  ⟨Nat.le_trans h.size h'.size, fun k hk => (h'.old k (Nat.lt_of_lt_of_le hk h.size)).trans (h.old k hk), h'.os.trans h.os, ⟨h'.out.1.trans h.out.1, h'.out.2.trans h.out.2⟩⟩
theorem WGrow.alloc (w : World) (o : Obj) : WGrow w (w.alloc o) :=
  ⟨by simp, fun k hk => heap_alloc_old w o k hk, rfl, ⟨rfl, rfl⟩⟩
theorem WGrow.drew (w : World) : WGrow w w.drew := ⟨Nat.le_refl _, fun _ _ => rfl, rfl, ⟨rfl, rfl⟩⟩
theorem WGrow.cell {w w' : World} (h : WGrow w w') {k o : Nat} (hk : k < w.heap.size) : w'.cell? ⟨k, o, none⟩ = w.cell? ⟨k, o, none⟩ := by
  unfold World.cell?
  simp only [h.old k hk]

theorem cell_eq {w w' : World} {k o : Nat} (h : w'.heap[k]? = w.heap[k]?) : w'.cell? ⟨k, o, none⟩ = w.cell? ⟨k, o, none⟩ := by
  unfold World.cell?
  simp only [h]

/-- One more id. -/
def Gh.push (G : Gh) (k : Option Nat) (sz cap : Nat) : Gh :=
  { fz := G.fz, n := G.n + 1
    gm := fun b => if b = G.n then 0 else G.gm b
    m := fun b g => if b = G.n then k else G.m b g
    sz := fun b => if b = G.n then sz else G.sz b
    cap := fun b g => if b = G.n then cap else G.cap b g }

section
variable {P : Program} {ge : GEnv} {st : St} {G : Gh} {w w' : World}

theorem fz_lt {h : List B} (rh : RH P ge G h w) {k o : Nat} (ho : o < G.fz k) : k < w.heap.size := by
  rcases Nat.lt_or_ge k w.heap.size with h1 | h1
  · exact h1
  · rw [rh.fzlt k h1] at ho; omega

theorem GLe.push {h : List B} (rh : RH P ge G h w) (hw : WGrow w w') (k : Option Nat) (sz cap : Nat) : GLe G w (G.push k sz cap) w' where
  fz _ := Nat.le_refl _
  cells k o ho := hw.cell (fz_lt rh ho)
  n := Nat.le_succ _
  gm b hb := by simp only [Gh.push]; rw [if_neg (by omega)]; exact Nat.le_refl _
  m b g hb _ := by simp only [Gh.push]; rw [if_neg (by omega)]
  sz b hb := by simp only [Gh.push]; rw [if_neg (by omega)]
  cap b g hb _ := by simp only [Gh.push]; rw [if_neg (by omega)]

theorem GLe.grow {h : List B} (rh : RH P ge G h w) (hw : WGrow w w') : GLe G w G w' :=
  ⟨fun _ => Nat.le_refl _, fun k o ho => hw.cell (fz_lt rh ho), Nat.le_refl _, fun _ _ => Nat.le_refl _, fun _ _ _ _ => rfl, fun _ _ => rfl, fun _ _ _ _ => rfl⟩

/-- A block whose concrete block is as it was. -/
theorem RB.keep {G' : Gh} (le : GLe G w G' w') {b : Nat} {x : B} (hb : b < G.n) (hgm : G'.gm b = G.gm b) (hk : ∀ k, G.at b x = some k → w'.heap[k]? = w.heap[k]? ∧ G'.fz k = G.fz k) (h : RB P G w b x) : RB P G' w' b x := by
  cases x with
  | dead => trivial
  | var cells =>
    obtain ⟨h0, k, arr, T, hm, hh, hf, hs, hc⟩ := h
    obtain ⟨e1, e2⟩ := hk k hm
    exact ⟨hgm.trans h0, k, arr, T, by rw [le.m b 0 hb (Nat.zero_le _)]; exact hm, e1.trans hh, e2.trans hf, hs, fun i v hv => ⟨(hc i v hv).1, (hc i v hv).2.mono le⟩⟩
  | row T g fzn flat xs =>
    obtain ⟨h0, hfx, hsz, h⟩ := h
    have hg : g ≤ G.gm b := by omega
    refine ⟨hgm.trans h0, hfx, by rw [le.sz b hb]; exact hsz, ?_⟩
    rcases h with ⟨hn, hx⟩ | ⟨k, arr, hm, hh, hf, hs, hl, hcm, hlen, hc⟩
    · exact .inl ⟨by rw [le.m b g hb hg]; exact hn, hx⟩
    · obtain ⟨e1, e2⟩ := hk k hm
      refine .inr ⟨k, arr, by rw [le.m b g hb hg]; exact hm, e1.trans hh, ?_, ?_, ?_, ?_, ?_, ?_⟩
      · rw [e2, le.sz b hb]; exact hf
      · rw [le.sz b hb, le.cap b g hb hg]; exact hs
      · rw [le.cap b g hb hg]; exact hl
      · rw [le.cap b g hb hg]; exact hcm
      · rw [le.sz b hb]; exact hlen
      · rw [le.sz b hb]; exact fun i x j v hx hv => ⟨(hc i x j v hx hv).1, (hc i x j v hx hv).2.mono le⟩
  | map es =>
    obtain ⟨h0, k, ents, clock, hm, hh, hs, hc⟩ := h
    obtain ⟨e1, e2⟩ := hk k hm
    exact ⟨hgm.trans h0, k, ents, clock, by rw [le.m b 0 hb (Nat.zero_le _)]; exact hm, e1.trans hh, hs, fun i e c he hc' => ⟨(hc i e c he hc').1.mono le, (hc i e c he hc').2.mono le⟩⟩

theorem at_lt {h : List B} (rh : RH P ge G h w) {b k : Nat} {x : B} (hx : h[b]? = some x) (hk : G.at b x = some k) : k < w.heap.size := by
  have hb := rh.bl b x hx
  have key : ∀ {o : Obj}, w.heap[k]? = some o → k < w.heap.size := fun h => (Array.getElem?_eq_some_iff.1 h).1
  cases x with
  | dead => simp [Gh.at] at hk
  | var cells =>
    obtain ⟨_, k', arr, T, hm, hh, _⟩ := hb
    simp only [Gh.at] at hk; rw [hm] at hk; cases hk; exact key hh
  | row T g fzn flat xs =>
    simp only [Gh.at] at hk
    obtain ⟨_, _, _, ⟨hn, _⟩ | ⟨k', arr, hm, hh, _⟩⟩ := hb
    · rw [hn] at hk; cases hk
    · rw [hm] at hk; cases hk; exact key hh
  | map es =>
    obtain ⟨_, k', ents, clock, hm, hh, _⟩ := hb
    simp only [Gh.at] at hk; rw [hm] at hk; cases hk; exact key hh

theorem at_push {k : Option Nat} {sz cap b : Nat} {x : B} (hb : b ≠ G.n) : (G.push k sz cap).at b x = G.at b x := by
  cases x <;> simp [Gh.at, Gh.push, hb]

/-- A new block at the heap's end. -/
theorem RH.push {h : List B} (rh : RH P ge G h w) (hw : WGrow w w') {k : Option Nat} {sz cap : Nat} {x : B} (hx : RB P (G.push k sz cap) w' G.n x)
    (hk : ∀ k', (G.push k sz cap).at G.n x = some k' → w.heap.size ≤ k') : RH P ge (G.push k sz cap) (h ++ [x]) w' := by
  have le := GLe.push rh hw k sz cap
  have hlt : ∀ {b y}, h[b]? = some y → b < G.n := fun {b y} hy => by have := (List.getElem?_eq_some_iff.1 hy).1; rw [rh.n] at this; exact this
  have part : ∀ {b y}, (h ++ [x])[b]? = some y → (h[b]? = some y ∧ b < G.n) ∨ (b = G.n ∧ y = x) := fun {b y} hy => by
    rcases Nat.lt_or_ge b h.length with h1 | h1
    · rw [List.getElem?_append_left h1] at hy; exact .inl ⟨hy, hlt hy⟩
    · rw [List.getElem?_append_right h1] at hy
      have h2 : b - h.length = 0 := by
        rcases Nat.eq_zero_or_pos (b - h.length) with h | h
        · exact h
        · rw [List.getElem?_eq_none (by simp; omega)] at hy; cases hy
      rw [h2] at hy; simp at hy
      exact .inr ⟨by rw [← rh.n]; omega, hy.symm⟩
  refine ⟨by simp [Gh.push, rh.n], ?_, ?_, ?_, ?_⟩
  · intro b y hy
    rcases part hy with ⟨hy, hb⟩ | ⟨rfl, rfl⟩
    · refine RB.keep le hb (by simp only [Gh.push]; rw [if_neg (by omega)]) (fun k' hk' => ⟨hw.old _ (at_lt rh hy hk'), rfl⟩) (rh.bl b y hy)
    · exact hx
  · intro b b' y y' k' hy hy' h1 h2
    rcases part hy with ⟨oy, hb⟩ | ⟨rfl, rfl⟩ <;> rcases part hy' with ⟨oy', hb'⟩ | ⟨rfl, rfl⟩
    · rw [at_push (by omega)] at h1 h2; exact rh.inj b b' y y' k' oy oy' h1 h2
    · rw [at_push (by omega)] at h1
      have := at_lt rh oy h1; have := hk k' h2; omega
    · rw [at_push (by omega)] at h2
      have := at_lt rh oy' h2; have := hk k' h1; omega
    · rfl
  · intro k' hk'; exact rh.fzlt k' (Nat.le_trans hw.size hk')
  · intro g cs hg; exact (rh.ge g cs hg).mono le

theorem Ext.push {h : List B} (rh : RH P ge G h w) (hw : WGrow w w') {k : Option Nat} {sz cap : Nat} {x : B}
    (hk : ∀ k', (G.push k sz cap).at G.n x = some k' → w.heap.size ≤ k') : Ext G h w (G.push k sz cap) (h ++ [x]) w' where
  le := GLe.push rh hw k sz cap
  size := hw.size
  frame k' hk' _ := ⟨hw.old k' hk', rfl⟩
  fresh b y k' hy hat := by
    rcases Nat.lt_or_ge b h.length with h1 | h1
    · rw [List.getElem?_append_left h1] at hy
      have hb : b ≠ G.n := by rw [← rh.n]; omega
      rw [at_push hb] at hat
      exact .inr ⟨b, y, hy, hat⟩
    · rw [List.getElem?_append_right h1] at hy
      have h2 : b - h.length = 0 := by
        rcases Nat.eq_zero_or_pos (b - h.length) with h | h
        · exact h
        · rw [List.getElem?_eq_none (by simp; omega)] at hy; cases hy
      rw [h2] at hy; simp at hy; subst hy
      have : b = G.n := by rw [← rh.n]; omega
      subst this
      exact .inl (hk k' hat)
  os := hw.os
  out := hw.out

theorem Ext.grow {h : List B} (rh : RH P ge G h w) (hw : WGrow w w') : Ext G h w G h w' where
  le := GLe.grow rh hw
  size := hw.size
  frame k' hk' _ := ⟨hw.old k' hk', rfl⟩
  fresh b y k' hy hat := .inr ⟨b, y, hy, hat⟩
  os := hw.os
  out := hw.out
theorem RH.grow {h : List B} (rh : RH P ge G h w) (hw : WGrow w w') : RH P ge G h w' where
  n := rh.n
  bl b y hy := RB.keep (GLe.grow rh hw) (by have := (List.getElem?_eq_some_iff.1 hy).1; rw [rh.n] at this; exact this) rfl (fun k' hk' => ⟨hw.old _ (at_lt rh hy hk'), rfl⟩) (rh.bl b y hy)
  inj := rh.inj
  fzlt k' hk' := rh.fzlt k' (Nat.le_trans hw.size hk')
  ge g cs hg := (rh.ge g cs hg).mono (GLe.grow rh hw)

/-- An operation that touches no memory. -/
theorem OpS_pure {o : Oper} {v : V} (H : ∀ G a w, Rep P ge G st a w → ∃ c, (execOp a.eval o).run P w = .ok (.value c) w ∧ R G w false v c) : OpS P ge st o v st.h := by
  intro G a w hr
  obtain ⟨c, h1, h2⟩ := H G a w hr
  exact ⟨c, G, w, .inl h1, hr.rh, h2, .refl _ _ _⟩

/-! ### Moves -/
theorem S_move {d : Option Tmp} {x : Operand} {t : TypeId} {p : String} {af : Array Edge} {g : Option (Nat × Bool)} : OpS P ge st ⟨d, .move x, t, p, af, g⟩ (ev ge st.tm x) st.h :=
  OpS_pure fun G a w hr => ⟨_, rfl, hr.ev x⟩
theorem S_assign {d : Option Tmp} {x : Operand} {t : TypeId} {p : String} {af : Array Edge} {g : Option (Nat × Bool)} : OpS P ge st ⟨d, .assign x, t, p, af, g⟩ (ev ge st.tm x) st.h :=
  OpS_pure fun G a w hr => ⟨_, rfl, hr.ev x⟩

def pickV : V → V → V → V
  | .bool c, a, b => cond c a b
  | _, _, _ => .junk
def V.isBool : V → Bool
  | .bool _ => true
  | _ => false
theorem S_pick {d : Option Tmp} {x y z : Operand} {t : TypeId} {p : String} {af : Array Edge} {g : Option (Nat × Bool)} (h : (ev ge st.tm x).isBool = true) :
    OpS P ge st ⟨d, .pick x y z, t, p, af, g⟩ (pickV (ev ge st.tm x) (ev ge st.tm y) (ev ge st.tm z)) st.h :=
  OpS_pure fun G a w hr => by
    have hx := hr.ev x
    cases hv : ev ge st.tm x <;> rw [hv] at h hx <;> simp [V.isBool] at h
    rename_i c
    have hc := hx.inv_bool
    refine ⟨if c then a.eval y else a.eval z, ?_, ?_⟩
    · simp [execOp, hc, asBool]
    · cases c
      · exact hr.ev z
      · exact hr.ev y

/-! ### New variables -/
def bytesOf (P : Program) (t : TypeId) : Nat := ((P.info? t).map (·.bytes)).getD 0
def zeroOf (P : Program) (t : TypeId) : Option (List V) := ((P.info? t).bind (·.zero)).bind fun z => if z.cells.toList.all (·.oneCell') then some (z.cells.toList.map V.ofCell) else none

def V.cellsOf : V → List V
  | .agg cs => cs
  | v => [v]
def V.cellsOk : V → Bool
  | .agg _ => true
  | v => v.one

theorem cells_of {v : V} {c : Value} {fr : Bool} (hr : R G w fr v c) (h : v.cellsOk = true) :
    c.cells.size = v.cellsOf.length ∧ ∀ (i : Nat) (u : V), v.cellsOf[i]? = some u → (c.cells.getD i undef).oneCell' = true ∧ R G w fr u (c.cells.getD i undef) := by
  cases hr with
  | agg hs ho hr => exact ⟨hs, fun i u hu => ⟨ho i u hu, hr i u hu⟩⟩
  | _ =>
    first
    | (simp [V.cellsOk, V.one] at h; done)
    | (refine ⟨rfl, fun i u hu => ?_⟩
       cases i with
       | zero =>
         simp only [V.cellsOf, List.getElem?_cons_zero, Option.some.injEq] at hu
         subst hu
         refine ⟨rfl, ?_⟩
         simp only [Value.cells, Array.getD_eq_getD_getElem?, List.getElem?_toArray, List.getElem?_cons_zero, Option.getD_some]
         constructor <;> assumption
       | succ i => simp [V.cellsOf] at hu)

theorem RB_newVar (rh : RH P ge G st.h w) {T : TypeId} {arr : Array Value} {cs : List V} (hs : arr.size = cs.length)
    (hc : ∀ (i : Nat) (u : V), cs[i]? = some u → (arr.getD i undef).oneCell' = true ∧ R G w false u (arr.getD i undef)) :
    RB P (G.push (some w.heap.size) 1 1) (w.alloc (.cells arr T)) G.n (.var cs) := by
  refine ⟨by simp [Gh.push], w.heap.size, arr, T, by simp [Gh.push], heap_alloc_new w _, rh.fzlt _ (Nat.le_refl _), hs, fun i u hu => ⟨(hc i u hu).1, (hc i u hu).2.mono ?_⟩⟩
  exact GLe.push rh (.alloc w _) _ _ _

theorem OpS_newVar {o : Oper} {cs : List V} (H : ∀ G a w, Rep P ge G st a w → ∃ (arr : Array Value) (T : TypeId), (execOp a.eval o).run P w = .ok (.value (.pointer (some ⟨w.heap.size, 0, none⟩))) (w.alloc (.cells arr T)) ∧
      arr.size = cs.length ∧ ∀ (i : Nat) (u : V), cs[i]? = some u → (arr.getD i undef).oneCell' = true ∧ R G w false u (arr.getD i undef)) :
    OpS P ge st o (.ptr st.h.length 0) (st.h ++ [.var cs]) := by
  intro G a w hr
  obtain ⟨arr, T, h1, h2, h3⟩ := H G a w hr
  have hk : ∀ k', (G.push (some w.heap.size) 1 1).at G.n (.var cs) = some k' → w.heap.size ≤ k' := fun k' h => by
    simp [Gh.at, Gh.push] at h; omega
  refine ⟨_, G.push (some w.heap.size) 1 1, _, .inl h1, hr.rh.push (.alloc w _) (RB_newVar hr.rh h2 h3) hk, ?_, .push hr.rh (.alloc w _) hk⟩
  rw [hr.rh.n]
  exact .ptr (by simp [Gh.push]) (by simp [Gh.push])

theorem run_sizeOf {t : TypeId} {n : Nat} (h : szOf P t = n) (h0 : 0 < n) (w : World) : (sizeOf t).run P w = .ok n w := by
  unfold szOf at h
  cases hi : P.info? t with
  | none => rw [hi] at h; simp at h; omega
  | some i => rw [hi] at h; simp at h; simp [sizeOf, typeInfo, hi, h]
theorem run_zeroValue {t : TypeId} {zs : List V} (h : zeroOf P t = some zs) : ∃ z : Value, (∀ w, (zeroValue t).run P w = .ok z w) ∧ (P.info? t).bind (·.zero) = some z ∧ z.cells.size = zs.length ∧ z.cells.toList.all (·.oneCell') = true ∧
    ∀ (i : Nat) (u : V), zs[i]? = some u → (z.cells.getD i undef).oneCell' = true ∧ ∀ (G : Gh) (w : World) (fr : Bool), R G w fr u (z.cells.getD i undef) := by
  unfold zeroOf at h
  cases hi : P.info? t with
  | none => rw [hi] at h; simp at h
  | some i =>
    cases hz : i.zero with
    | none => rw [hi] at h; simp [hz] at h
    | some z =>
      rw [hi] at h
      simp only [Option.bind_some, hz] at h
      split at h
      · rename_i hone
        cases h
        refine ⟨z, fun w => by simp [zeroValue, typeInfo, hi, hz], by simp [hz], by simp, hone, fun i u hu => ?_⟩
        rw [List.getElem?_map] at hu
        obtain ⟨x, hx, rfl⟩ := Option.map_eq_some_iff.1 hu
        have hx' : z.cells[i]? = some x := by simpa using hx
        rw [Array.getD_eq_getD_getElem?, hx']
        exact ⟨List.all_eq_true.1 hone x (List.mem_of_getElem? hx), fun G w fr => .ofCell x⟩
      · cases h

theorem S_alloc {d : Option Tmp} {e : TypeId} {t : TypeId} {p : String} {af : Array Edge} {g : Option (Nat × Bool)} {zs : List V} (h : zeroOf P e = some zs) :
    OpS P ge st ⟨d, .alloc e, t, p, af, g⟩ (.ptr st.h.length 0) (st.h ++ [.var zs]) := by
  obtain ⟨z, h1, _, h2, _, h3⟩ := run_zeroValue h
  refine OpS_newVar fun G a w hr => ⟨z.cells, e, ?_, h2, fun i u hu => ⟨(h3 i u hu).1, (h3 i u hu).2 G w false⟩⟩
  simp [execOp, Instr.alloc, h1, newVar, newRow]

theorem S_box {d : Option Tmp} {e : TypeId} {x : Operand} {t : TypeId} {p : String} {af : Array Edge} {g : Option (Nat × Bool)} (h : (ev ge st.tm x).cellsOk = true) :
    OpS P ge st ⟨d, .box e x, t, p, af, g⟩ (.ptr st.h.length 0) (st.h ++ [.var (ev ge st.tm x).cellsOf]) := by
  refine OpS_newVar fun G a w hr => ⟨(a.eval x).cells, e, ?_, ?_⟩
  · simp [execOp, Instr.box, newVar, newRow]
  · exact cells_of (hr.ev x) h
end
end Go.AM
