/-
  YtgmlimipejcpgaaAmS: a step of the proof of a law of the program: what this text proves holds under the hypotheses that its theorems name, and no others.
-/
import Derived.Test.YtgmlimipejcpgaaAmR
import Derived.ChangeSlices
import Derived.Below
/-! AM, part S: what an argument's reading gives. -/
set_option linter.unusedVariables false
set_option linter.unusedSimpArgs false
namespace Go.AM

/-- All that is there is frozen for the call. -/
def Gall (w : World) : Gh := { fz := fun k => match w.heap[k]? with | some (.cells arr _ _) => arr.size | _ => 0, n := 0, gm := fun _ => 0, m := fun _ _ => none, sz := fun _ => 0, cap := fun _ _ => 0 }

theorem Gall_cell {w : World} {k o : Nat} {v : Value} (h : w.cell? ⟨k, o, none⟩ = some v) : o < (Gall w).fz k := by
  unfold World.cell? at h
  simp only [Gall]
  split at h
  · rename_i c _ _ hk
    simp only at hk
    rw [hk]
    simp at h
    exact (Array.getElem?_eq_some_iff.1 h).1
  · cases h
theorem cell_spot {w : World} {a : Addr} {v : Value} (h : w.cell? a = some v) : a = ⟨a.block, a.off, none⟩ := by
  obtain ⟨b, o, s⟩ := a
  unfold World.cell? at h
  split at h
  · cases s with
    | none => rfl
    | some _ => simp at h
  · cases h

theorem add_none (b o n : Nat) : Addr.add ⟨b, o, none⟩ n = ⟨b, o + n, none⟩ := by
  unfold Addr.add; split
  · rename_i h; subst h; rfl
  · rfl
theorem GE_all {ge : GEnv} {w : World} (hge : ∀ g cs, ge g = some cs → R (Gall w) w true (.fp cs 0) (.pointer (some ⟨g, 0, none⟩))) : GE ge (Gall w) w :=
  ⟨fun k hk => by simp only [Gall]; rw [Array.getElem?_eq_none hk], hge⟩

/-- Cells, and what stands for them. -/
def RdCells (w : World) (vs : List V) (cs : List Value) : Prop := vs.length = cs.length ∧ ∀ (i : Nat) (v : V), vs[i]? = some v → (cs.getD i undef).oneCell' = true ∧ R (Gall w) w true v (cs.getD i undef)

/-- Whatever a reading of this type gives stands for data of this shape. -/
def Rd (P : Program) (T : TypeId) {α : Type} (f : α → List V) (ok : α → Prop) : Prop :=
  ∀ (H : Type) (enc : TypeId × Value → H) (w : World) (held : Bool) (fuel : Nat) (cs : List Value) (x : DataW H × List MemPlace), DataW.trod enc P w 0 (fun _ => true) held fuel T cs = some x → ∃ a, ok a ∧ RdCells w (f a) cs

section
variable {P : Program} {T : TypeId}
theorem Rd.map {α β : Type} {f : α → List V} {ok : α → Prop} {f' : β → List V} {ok' : β → Prop} (h : Rd P T f ok) (g : α → β) (hf : ∀ a, f' (g a) = f a) (hok : ∀ a, ok a → ok' (g a)) : Rd P T f' ok' :=
  fun H enc w held fuel cs x hx => let ⟨a, h1, h2⟩ := h H enc w held fuel cs x hx; ⟨g a, hok a h1, by rw [hf]; exact h2⟩
theorem RdCells.one {w : World} {v : V} {c : Value} (ho : c.oneCell' = true) (hr : R (Gall w) w true v c) : RdCells w [v] [c] :=
  ⟨rfl, fun i u hu => by
    cases i with
    | zero => simp at hu; subst hu; exact ⟨ho, hr⟩
    | succ i => simp at hu⟩
theorem Rd_int {k : IntKind} (ht : P.underlying T = some (.int k)) : Rd P T (fun n : Int => [V.int k n]) (fun n => (Lit.int k n).wf = true) :=
  fun H enc w held fuel cs x hx => by
    obtain ⟨n, rfl, _, hw⟩ := DataW.trod_int ht hx
    exact ⟨n, hw, .one rfl .int⟩
theorem Rd_bool (ht : P.underlying T = some .bool) : Rd P T (fun b : Bool => [V.bool b]) (fun _ => True) :=
  fun H enc w held fuel cs x hx => by
    obtain ⟨b, rfl, _⟩ := DataW.trod_bool ht hx
    exact ⟨b, trivial, .one rfl .bool⟩
theorem Rd_string (ht : P.underlying T = some .string) : Rd P T (fun s : ByteArray => [V.str s]) (fun s => s.size ≤ maxLen) :=
  fun H enc w held fuel cs x hx => by
    obtain ⟨s, rfl, _, hs⟩ := DataW.trod_string ht hx
    exact ⟨s, hs, .one rfl .str⟩

theorem mapM_get {α β : Type} {g : α → Option β} : ∀ {l : List α} {r : List β}, l.mapM g = some r → r.length = l.length ∧ ∀ (i : Nat) (a : α), l[i]? = some a → g a = r[i]?
  | [], r, h => by simp at h; subst h; exact ⟨rfl, fun i a ha => by simp at ha⟩
  | b :: l, r, h => by
    rw [List.mapM_cons] at h
    cases hb : g b with
    | none => rw [hb] at h; simp at h
    | some c =>
      rw [hb] at h
      simp only [Option.pure_def, Option.bind_eq_bind, Option.bind_some] at h
      cases hl : l.mapM g with
      | none => rw [hl] at h; simp at h
      | some r' =>
        rw [hl] at h
        simp at h
        subst h
        obtain ⟨h1, h2⟩ := mapM_get hl
        refine ⟨by simp [h1], fun i a ha => ?_⟩
        cases i with
        | zero => simp at ha; subst ha; simp [hb]
        | succ i => simpa using h2 i a (by simpa using ha)

theorem cells_get {w : World} {a : Addr} {n : Nat} {cs : List Value} (h : w.cells? 0 a n = some cs) : cs.length = n ∧ ∀ i, i < n → w.cell? (a.add i) = some (cs.getD i undef) := by
  unfold World.cells? at h
  rw [if_pos (Nat.zero_le _)] at h
  obtain ⟨h1, h2⟩ := mapM_get h
  simp at h1
  refine ⟨h1, fun i hi => ?_⟩
  have := h2 i i (by rw [List.getElem?_range hi])
  rw [this]
  have hlt : i < cs.length := by omega
  simp [List.getD, List.getElem?_eq_getElem hlt]

theorem Rd_slice {e : TypeId} {α : Type} {f : α → List V} {ok : α → Prop} (ht : P.underlying T = some (.slice e)) (hc : 0 < P.cellsOf e) (he : Rd P e f ok) (hlen : ∀ a, (f a).length = P.cellsOf e) :
    Rd P T (fun l : List α => [V.vec (l.map f) l.length]) (fun l => ∀ a ∈ l, ok a) :=
  fun H enc w held fuel cs x hx => by
    rcases DataW.trod_slice ht hx with ⟨rfl, _⟩ | ⟨a, len, cap, elems, rest, n, _, rfl, _, _, hl, hm, hel, hget, _, _⟩
    · refine ⟨[], ?_⟩
      show (∀ a ∈ ([] : List α), ok a) ∧ RdCells w [V.vec [] 0] [_]
      exact ⟨fun a ha => (by cases ha), .one rfl (.emp (Nat.zero_le _))⟩
    -- element by element
    have each : ∀ i, i < len → ∃ (y : α), ok y ∧ ∃ ecs : List Value, w.cells? 0 (a.add (i * P.cellsOf e)) (P.cellsOf e) = some ecs ∧ RdCells w (f y) ecs := fun i hi => by
      have h1 := hget i hi
      rw [List.getElem?_eq_getElem (by omega)] at h1
      cases hcs : w.cells? 0 (a.add (i * P.cellsOf e)) (P.cellsOf e) with
      | none => rw [hcs] at h1; simp at h1
      | some ecs =>
        rw [hcs] at h1
        simp only [Option.bind_some] at h1
        obtain ⟨y, h2, h3⟩ := he H enc w held n ecs _ h1
        exact ⟨y, h2, ecs, rfl, h3⟩
    have hlist : ∀ m, m ≤ len → ∃ l : List α, l.length = m ∧ (∀ a ∈ l, ok a) ∧ ∀ (i : Nat) (y : α), l[i]? = some y → ∃ ecs : List Value, w.cells? 0 (a.add (i * P.cellsOf e)) (P.cellsOf e) = some ecs ∧ RdCells w (f y) ecs := by
      intro m
      induction m with
      | zero => intro _; exact ⟨[], rfl, fun a ha => (by cases ha), fun i y hy => by simp at hy⟩
      | succ m ih =>
        intro hm'
        obtain ⟨l, h1, h2, h3⟩ := ih (by omega)
        obtain ⟨y, h4, h5⟩ := each m (by omega)
        refine ⟨l ++ [y], by simp [h1], fun z hz => ?_, fun i z hz => ?_⟩
        · rcases List.mem_append.1 hz with h | h
          · exact h2 z h
          · simp at h; subst h; exact h4
        · rcases Nat.lt_or_ge i l.length with h | h
          · rw [List.getElem?_append_left h] at hz; exact h3 i z hz
          · rw [List.getElem?_append_right h] at hz
            have h0 : i - l.length = 0 := by
              rcases Nat.eq_zero_or_pos (i - l.length) with h | h
              · exact h
              · rw [List.getElem?_eq_none (by simp; omega)] at hz; cases hz
            rw [h0] at hz; simp at hz; subst hz
            have : i = m := by omega
            subst this; exact h5
    obtain ⟨l, h1, h2, h3⟩ := hlist len (Nat.le_refl _)
    refine ⟨l, h2, .one rfl ?_⟩
    rcases Nat.eq_zero_or_pos len with hz | hz
    · have : l = [] := List.eq_nil_of_length_eq_zero (by omega)
      subst this; subst hz
      exact .emp hm
    -- the address has no spot
    have hspot : a = ⟨a.block, a.off, none⟩ := by
      obtain ⟨ecs, h4, _⟩ := h3 0 l[0] (List.getElem?_eq_getElem (by omega))
      have h5 := (cells_get h4).2 0 hc
      have h6 := cell_spot h5
      have h7 := congrArg Addr.spot h6
      simp [Addr.add] at h7
      obtain ⟨b, o, s⟩ := a
      simp at h7; subst h7; rfl
    obtain ⟨ab, ao, asp⟩ := a
    have has : asp = none := by have := congrArg Addr.spot hspot; simpa using this
    subst has
    have hcell : ∀ (i : Nat) (y : List V) (j : Nat) (v : V), (l.map f)[i]? = some y → y[j]? = some v → ∃ c, w.cell? ⟨ab, ao + (i * P.cellsOf e + j), none⟩ = some c ∧ c.oneCell' = true ∧ R (Gall w) w true v c := by
      intro i y j v hy hv
      rw [List.getElem?_map] at hy
      obtain ⟨z, hz, rfl⟩ := Option.map_eq_some_iff.1 hy
      obtain ⟨ecs, h4, h5⟩ := h3 i z hz
      obtain ⟨h6, h7⟩ := cells_get h4
      have hj : j < P.cellsOf e := by have := (List.getElem?_eq_some_iff.1 hv).1; rw [hlen] at this; exact this
      have h8 := h7 j hj
      have h9 := h5.2 j v hv
      refine ⟨_, ?_, h9.1, h9.2⟩
      rw [← h8, add_none, add_none, Nat.add_assoc]
    rw [← h1]
    refine .vec (sz := P.cellsOf e) (by simp) (by simp; omega) hm (fun i y hy => ?_) (fun i y j v hy hv => ?_) (fun i y j v hy hv => ?_) (fun i y j v hy hv => ?_)
    · rw [List.getElem?_map] at hy
      obtain ⟨z, hz, rfl⟩ := Option.map_eq_some_iff.1 hy
      exact hlen z
    · obtain ⟨c, h4, h5, h6⟩ := hcell i y j v hy hv
      exact ⟨by rw [h4]; rfl, Gall_cell h4⟩
    · obtain ⟨c, h4, h5, h6⟩ := hcell i y j v hy hv
      unfold cellD; rw [h4]; exact h5
    · obtain ⟨c, h4, h5, h6⟩ := hcell i y j v hy hv
      unfold cellD; rw [h4]; exact h6

theorem RdCells.append {w : World} {a b : List V} {cs : List Value} {n : Nat} (hn : a.length = n) (h1 : RdCells w a (cs.take n)) (h2 : RdCells w b (cs.drop n)) : RdCells w (a ++ b) cs := by
  have hl : n ≤ cs.length := by have := h1.1; rw [hn, List.length_take] at this; omega
  refine ⟨by rw [List.length_append, h2.1, hn, List.length_drop]; omega, fun i v hv => ?_⟩
  rcases Nat.lt_or_ge i a.length with h | h
  · rw [List.getElem?_append_left h] at hv
    have := h1.2 i v hv
    have e : (cs.take n).getD i undef = cs.getD i undef := by simp [List.getD, List.getElem?_take_of_lt (show i < n by omega)]
    rw [e] at this; exact this
  · rw [List.getElem?_append_right h] at hv
    have := h2.2 _ v hv
    have e : (cs.drop n).getD (i - a.length) undef = cs.getD i undef := by
      simp only [List.getD, List.getElem?_drop]
      congr 2; omega
    rw [e] at this; exact this

/-- A struct's fields from one on. -/
def RdFs (P : Program) (tot : Nat) (fs : List Field) (off : Nat) {α : Type} (f : α → List V) (ok : α → Prop) : Prop :=
  ∀ (H : Type) (enc : TypeId × Value → H) (w : World) (held : Bool) (n : Nat) (cs : List Value) (xs : List (DataW H × List MemPlace)), cs.length = tot → xs.length = fs.length →
    (∀ (i : Nat) (g : Field), fs[i]? = some g → DataW.trod enc P w 0 (fun _ => true) held n g.type ((cs.drop g.offset).take (P.cellsOf g.type)) = xs[i]?) → ∃ a, ok a ∧ RdCells w (f a) (cs.drop off)
theorem RdFs_nil {tot off : Nat} (h : off = tot) : RdFs P tot [] off (fun _ : Unit => []) (fun _ => True) :=
  fun H enc w held n cs xs hl _ _ => ⟨(), trivial, by rw [List.drop_eq_nil_of_le (by omega)]; exact ⟨rfl, fun i v hv => by simp at hv⟩⟩
theorem RdFs_cons {tot off sz : Nat} {fd : Field} {fs : List Field} {α β : Type} {f : α → List V} {ok : α → Prop} {g : β → List V} {ok' : β → Prop} (ho : fd.offset = off) (hs : P.cellsOf fd.type = sz) (h : Rd P fd.type f ok) (hlen : ∀ a, (f a).length = sz)
    (h' : RdFs P tot fs (off + sz) g ok') : RdFs P tot (fd :: fs) off (fun p : α × β => f p.1 ++ g p.2) (fun p => ok p.1 ∧ ok' p.2) :=
  fun H enc w held n cs xs hl hxl hx => by
    cases xs with
    | nil => simp at hxl
    | cons x xs =>
      have h0 := hx 0 fd rfl
      obtain ⟨a, h1, h2⟩ := h H enc w held n _ x h0
      obtain ⟨b, h3, h4⟩ := h' H enc w held n cs xs hl (by simpa using hxl) (fun i g hg => by simpa using hx (i + 1) g (by simpa using hg))
      rw [ho, hs] at h2
      rw [← List.drop_drop] at h4
      exact ⟨(a, b), ⟨h1, h3⟩, .append (hlen a) h2 h4⟩
theorem Rd_struct {fs : Array Field} {tot : Nat} {α : Type} {f : α → List V} {ok : α → Prop} (ht : P.underlying T = some (.struct fs)) (hc : P.cellsOf T = tot) (h : RdFs P tot fs.toList 0 f ok) : Rd P T f ok :=
  fun H enc w held fuel cs x hx => by
    obtain ⟨xs, n, _, _, h1, h2, h3⟩ := DataW.trod_struct ht hx
    obtain ⟨a, h4, h5⟩ := h H enc w held n cs xs (by rw [h1, hc]) (by simpa using h2) (fun i g hg => h3 i g (by simpa using hg))
    exact ⟨a, h4, by simpa using h5⟩

/-- An argument of one cell. -/
theorem Rd.arg {α : Type} {f : α → V} {ok : α → Prop} (h : Rd P T (fun a => [f a]) ok) {H : Type} {enc : TypeId × Value → H} {w : World} {held : Bool} {v : Value} {d : DataW H} {ps : List MemPlace}
    (ht : DataW.Trod enc P w 0 (fun _ => true) held T v d ps) (hv : v.cells = #[v]) : ∃ a, ok a ∧ R (Gall w) w true (f a) v := by
  obtain ⟨fuel, hf⟩ := ht
  rw [hv] at hf
  obtain ⟨a, h1, h2⟩ := h H enc w held fuel _ _ hf
  exact ⟨a, h1, (h2.2 0 _ rfl).2⟩
/-- An argument that is a struct. -/
theorem Rd.aggArg {α : Type} {f : α → List V} {ok : α → Prop} (h : Rd P T f ok) {H : Type} {enc : TypeId × Value → H} {w : World} {held : Bool} {cs : Array Value} {d : DataW H} {ps : List MemPlace}
    (ht : DataW.Trod enc P w 0 (fun _ => true) held T (.agg cs) d ps) : ∃ a, ok a ∧ R (Gall w) w true (.agg (f a)) (.agg cs) := by
  obtain ⟨fuel, hf⟩ := ht
  obtain ⟨a, h1, h2⟩ := h H enc w held fuel _ _ hf
  have e : ∀ i, (Value.agg cs).cells.toList.getD i undef = cs.getD i undef := fun i => by simp [Value.cells, List.getD, Array.getD_eq_getD_getElem?]
  refine ⟨a, h1, .agg (by have := h2.1; simpa [Value.cells] using this.symm) (fun i v hv => ?_) (fun i v hv => ?_)⟩
  · have := (h2.2 i v hv).1; rw [e] at this; exact this
  · have := (h2.2 i v hv).2; rw [e] at this; exact this

/-- What a law's contract gives the row. -/
theorem law_calls {ge : GEnv} {f : Nat} {args : List V} {cargs : Array Value} {W : World} (hc : PCall P ge f args (.bool true)) (ha : ArgsR (Gall W) W true args cargs) (hg : GE ge (Gall W) W) :
    Calls P f cargs W fun e W' => e = .returned (.bool true) ∧ RowKit.Below W.heap.size W W' := by
  refine (hc.2 (Gall W) W cargs ha hg).mono ?_
  rintro e w' ⟨c, G', rfl, hk, hr⟩
  have h1 : R G' w' true (.bool true) c := hr
  cases h1
  exact ⟨rfl, hk.grow.os, hk.grow.out.2, hk.grow.out.1, hk.grow.size, fun k hk' => hk.grow.old k hk'⟩
end
end Go.AM
