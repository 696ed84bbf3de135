/-
  YtgmlimipejcpgaaAmY: a step of the proof of a law of the program: what this text proves holds under the hypotheses that its theorems name, and no others.
-/
import Derived.Test.YtgmlimipejcpgaaAmS
/-! AM, part Y: readings whose bulk is bounded. -/
set_option linter.unusedVariables false
set_option linter.unusedSimpArgs false
namespace Go.AM
/-- A measure of what is read, and its bound. -/
structure Bk where
  bk : (H : Type) → DataW H → Nat
  N : Nat
  len : ∀ {H : Type} (es sp : List (DataW H)), bk H (.slice es sp) ≤ N → es.length ≤ N ∧ ∀ d ∈ es, bk H d ≤ N
  agg : ∀ {H : Type} (ps : List (DataW H)), bk H (.agg ps) ≤ N → ∀ d ∈ ps, bk H d ≤ N
  str : ∀ {H : Type} (b : List UInt8), bk H (.lit (.string b)) ≤ N → b.length ≤ N
/-- Whatever a reading of this type within the bound gives stands for data of this shape. -/
def RdN (K : Bk) (P : Program) (T : TypeId) {α : Type} (f : α → List V) (ok : α → Prop) : Prop :=
  ∀ (H : Type) (enc : TypeId × Value → H) (w : World) (held : Bool) (fuel : Nat) (cs : List Value) (x : DataW H × List MemPlace), DataW.trod enc P w 0 (fun _ => true) held fuel T cs = some x → K.bk H x.1 ≤ K.N → ∃ a, ok a ∧ RdCells w (f a) cs

section
variable {P : Program} {T : TypeId} {K : Bk}
theorem RdN.map {α β : Type} {f : α → List V} {ok : α → Prop} {f' : β → List V} {ok' : β → Prop} (h : RdN K P T f ok) (g : α → β) (hf : ∀ a, f' (g a) = f a) (hok : ∀ a, ok a → ok' (g a)) : RdN K P T f' ok' :=
  fun H enc w held fuel cs x hx hbk => let ⟨a, h1, h2⟩ := h H enc w held fuel cs x hx hbk; ⟨g a, hok a h1, by rw [hf]; exact h2⟩
theorem RdN_int {k : IntKind} (ht : P.underlying T = some (.int k)) : RdN K P T (fun n : Int => [V.int k n]) (fun n => (Lit.int k n).wf = true) :=
  fun H enc w held fuel cs x hx hbk => by
    obtain ⟨n, rfl, _, hw⟩ := DataW.trod_int ht hx
    exact ⟨n, hw, .one rfl .int⟩
theorem RdN_bool (ht : P.underlying T = some .bool) : RdN K P T (fun b : Bool => [V.bool b]) (fun _ => True) :=
  fun H enc w held fuel cs x hx hbk => by
    obtain ⟨b, rfl, _⟩ := DataW.trod_bool ht hx
    exact ⟨b, trivial, .one rfl .bool⟩
theorem RdN_string (ht : P.underlying T = some .string) : RdN K P T (fun s : ByteArray => [V.str s]) (fun s => s.size ≤ maxLen ∧ s.size ≤ K.N) :=
  fun H enc w held fuel cs x hx hbk => by
    obtain ⟨s, rfl, rfl, hs⟩ := DataW.trod_string ht hx
    exact ⟨s, ⟨hs, by have := K.str _ hbk; simpa using this⟩, .one rfl .str⟩

theorem RdN_slice {e : TypeId} {α : Type} {f : α → List V} {ok : α → Prop} (ht : P.underlying T = some (.slice e)) (hc : 0 < P.cellsOf e) (he : RdN K P e f ok) (hlen : ∀ a, (f a).length = P.cellsOf e) :
    RdN K P T (fun l : List α => [V.vec (l.map f) l.length]) (fun l => l.length ≤ K.N ∧ ∀ a ∈ l, ok a) :=
  fun H enc w held fuel cs x hx hbk => by
    rcases DataW.trod_slice ht hx with ⟨rfl, _⟩ | ⟨a, len, cap, elems, rest, n, _, rfl, rfl, _, hl, hm, hel, hget, _, _⟩
    · refine ⟨[], ?_⟩
      show (([] : List α).length ≤ K.N ∧ ∀ a ∈ ([] : List α), ok a) ∧ RdCells w [V.vec [] 0] [_]
      exact ⟨⟨Nat.zero_le _, fun a ha => (by cases ha)⟩, .one rfl (.emp (Nat.zero_le _))⟩
    obtain ⟨hbl, hbm⟩ := K.len _ _ hbk
    rw [List.length_map] at hbl
    -- element by element
    have each : ∀ i, i < len → ∃ (y : α), ok y ∧ ∃ ecs : List Value, w.cells? 0 (a.add (i * P.cellsOf e)) (P.cellsOf e) = some ecs ∧ RdCells w (f y) ecs := fun i hi => by
      have h1 := hget i hi
      rw [List.getElem?_eq_getElem (by omega)] at h1
      cases hcs : w.cells? 0 (a.add (i * P.cellsOf e)) (P.cellsOf e) with
      | none => rw [hcs] at h1; simp at h1
      | some ecs =>
        rw [hcs] at h1
        simp only [Option.bind_some] at h1
        obtain ⟨y, h2, h3⟩ := he H enc w held n ecs _ h1 (hbm _ (List.mem_map_of_mem (List.getElem_mem (by omega))))
        exact ⟨y, h2, ecs, rfl, h3⟩
    have hlist : ∀ m, m ≤ len → ∃ l : List α, l.length = m ∧ (∀ a ∈ l, ok a) ∧ ∀ (i : Nat) (y : α), l[i]? = some y → ∃ ecs : List Value, w.cells? 0 (a.add (i * P.cellsOf e)) (P.cellsOf e) = some ecs ∧ RdCells w (f y) ecs := by
      intro m
      induction m with
      | zero => intro _; exact ⟨[], rfl, fun a ha => (by cases ha), fun i y hy => by simp at hy⟩
      | succ m ih =>
        intro hm'
        obtain ⟨l, h1, h2, h3⟩ := ih (by omega)
        obtain ⟨y, h4, h5⟩ := each m (by omega)
        refine ⟨l ++ [y], by simp [h1], fun z hz => ?_, fun i z hz => ?_⟩
        · rcases List.mem_append.1 hz with h | h
          · exact h2 z h
          · simp at h; subst h; exact h4
        · rcases Nat.lt_or_ge i l.length with h | h
          · rw [List.getElem?_append_left h] at hz; exact h3 i z hz
          · rw [List.getElem?_append_right h] at hz
            have h0 : i - l.length = 0 := by
              rcases Nat.eq_zero_or_pos (i - l.length) with h | h
              · exact h
              · rw [List.getElem?_eq_none (by simp; omega)] at hz; cases hz
            rw [h0] at hz; simp at hz; subst hz
            have : i = m := by omega
            subst this; exact h5
    obtain ⟨l, h1, h2, h3⟩ := hlist len (Nat.le_refl _)
    refine ⟨l, ⟨by omega, h2⟩, .one rfl ?_⟩
    rcases Nat.eq_zero_or_pos len with hz | hz
    · have : l = [] := List.eq_nil_of_length_eq_zero (by omega)
      subst this; subst hz
      exact .emp hm
    -- the address has no spot
    have hspot : a = ⟨a.block, a.off, none⟩ := by
      obtain ⟨ecs, h4, _⟩ := h3 0 l[0] (List.getElem?_eq_getElem (by omega))
      have h5 := (cells_get h4).2 0 hc
      have h6 := cell_spot h5
      have h7 := congrArg Addr.spot h6
      simp [Addr.add] at h7
      obtain ⟨b, o, s⟩ := a
      simp at h7; subst h7; rfl
    obtain ⟨ab, ao, asp⟩ := a
    have has : asp = none := by have := congrArg Addr.spot hspot; simpa using this
    subst has
    have hcell : ∀ (i : Nat) (y : List V) (j : Nat) (v : V), (l.map f)[i]? = some y → y[j]? = some v → ∃ c, w.cell? ⟨ab, ao + (i * P.cellsOf e + j), none⟩ = some c ∧ c.oneCell' = true ∧ R (Gall w) w true v c := by
      intro i y j v hy hv
      rw [List.getElem?_map] at hy
      obtain ⟨z, hz, rfl⟩ := Option.map_eq_some_iff.1 hy
      obtain ⟨ecs, h4, h5⟩ := h3 i z hz
      obtain ⟨h6, h7⟩ := cells_get h4
      have hj : j < P.cellsOf e := by have := (List.getElem?_eq_some_iff.1 hv).1; rw [hlen] at this; exact this
      have h8 := h7 j hj
      have h9 := h5.2 j v hv
      refine ⟨_, ?_, h9.1, h9.2⟩
      rw [← h8, add_none, add_none, Nat.add_assoc]
    rw [← h1]
    refine .vec (sz := P.cellsOf e) (by simp) (by simp; omega) hm (fun i y hy => ?_) (fun i y j v hy hv => ?_) (fun i y j v hy hv => ?_) (fun i y j v hy hv => ?_)
    · rw [List.getElem?_map] at hy
      obtain ⟨z, hz, rfl⟩ := Option.map_eq_some_iff.1 hy
      exact hlen z
    · obtain ⟨c, h4, h5, h6⟩ := hcell i y j v hy hv
      exact ⟨by rw [h4]; rfl, Gall_cell h4⟩
    · obtain ⟨c, h4, h5, h6⟩ := hcell i y j v hy hv
      unfold cellD; rw [h4]; exact h5
    · obtain ⟨c, h4, h5, h6⟩ := hcell i y j v hy hv
      unfold cellD; rw [h4]; exact h6

/-- A struct's fields from one on. -/
def RdNs (K : Bk) (P : Program) (tot : Nat) (fs : List Field) (off : Nat) {α : Type} (f : α → List V) (ok : α → Prop) : Prop :=
  ∀ (H : Type) (enc : TypeId × Value → H) (w : World) (held : Bool) (n : Nat) (cs : List Value) (xs : List (DataW H × List MemPlace)), cs.length = tot → xs.length = fs.length →
    (∀ (i : Nat) (g : Field), fs[i]? = some g → DataW.trod enc P w 0 (fun _ => true) held n g.type ((cs.drop g.offset).take (P.cellsOf g.type)) = xs[i]?) → (∀ x ∈ xs, K.bk H x.1 ≤ K.N) → ∃ a, ok a ∧ RdCells w (f a) (cs.drop off)
theorem RdNs_nil {tot off : Nat} (h : off = tot) : RdNs K P tot [] off (fun _ : Unit => []) (fun _ => True) :=
  fun H enc w held n cs xs hl _ _ _ => ⟨(), trivial, by rw [List.drop_eq_nil_of_le (by omega)]; exact ⟨rfl, fun i v hv => by simp at hv⟩⟩
theorem RdNs_cons {tot off sz : Nat} {fd : Field} {fs : List Field} {α β : Type} {f : α → List V} {ok : α → Prop} {g : β → List V} {ok' : β → Prop} (ho : fd.offset = off) (hs : P.cellsOf fd.type = sz) (h : RdN K P fd.type f ok) (hlen : ∀ a, (f a).length = sz)
    (h' : RdNs K P tot fs (off + sz) g ok') : RdNs K P tot (fd :: fs) off (fun p : α × β => f p.1 ++ g p.2) (fun p => ok p.1 ∧ ok' p.2) :=
  fun H enc w held n cs xs hl hxl hx hb => by
    cases xs with
    | nil => simp at hxl
    | cons x xs =>
      have h0 := hx 0 fd rfl
      obtain ⟨a, h1, h2⟩ := h H enc w held n _ x h0 (hb x (.head _))
      obtain ⟨b, h3, h4⟩ := h' H enc w held n cs xs hl (by simpa using hxl) (fun i g hg => by simpa using hx (i + 1) g (by simpa using hg)) (fun y hy => hb y (.tail _ hy))
      rw [ho, hs] at h2
      rw [← List.drop_drop] at h4
      exact ⟨(a, b), ⟨h1, h3⟩, .append (hlen a) h2 h4⟩
theorem RdN_struct {fs : Array Field} {tot : Nat} {α : Type} {f : α → List V} {ok : α → Prop} (ht : P.underlying T = some (.struct fs)) (hc : P.cellsOf T = tot) (h : RdNs K P tot fs.toList 0 f ok) : RdN K P T f ok :=
  fun H enc w held fuel cs x hx hbk => by
    obtain ⟨xs, n, _, rfl, h1, h2, h3⟩ := DataW.trod_struct ht hx
    obtain ⟨a, h4, h5⟩ := h H enc w held n cs xs (by rw [h1, hc]) (by simpa using h2) (fun i g hg => h3 i g (by simpa using hg)) (fun y hy => K.agg _ hbk _ (List.mem_map_of_mem hy))
    exact ⟨a, h4, by simpa using h5⟩

/-- An argument of one cell. -/
theorem RdN.arg {α : Type} {f : α → V} {ok : α → Prop} (h : RdN K P T (fun a => [f a]) ok) {H : Type} {enc : TypeId × Value → H} {w : World} {held : Bool} {v : Value} {d : DataW H} {ps : List MemPlace}
    (ht : DataW.Trod enc P w 0 (fun _ => true) held T v d ps) (hv : v.cells = #[v]) (hbk : K.bk H d ≤ K.N) : ∃ a, ok a ∧ R (Gall w) w true (f a) v := by
  obtain ⟨fuel, hf⟩ := ht
  rw [hv] at hf
  obtain ⟨a, h1, h2⟩ := h H enc w held fuel _ _ hf hbk
  exact ⟨a, h1, (h2.2 0 _ rfl).2⟩
/-- An argument that is a struct. -/
theorem RdN.aggArg {α : Type} {f : α → List V} {ok : α → Prop} (h : RdN K P T f ok) {H : Type} {enc : TypeId × Value → H} {w : World} {held : Bool} {cs : Array Value} {d : DataW H} {ps : List MemPlace}
    (ht : DataW.Trod enc P w 0 (fun _ => true) held T (.agg cs) d ps) (hbk : K.bk H d ≤ K.N) : ∃ a, ok a ∧ R (Gall w) w true (.agg (f a)) (.agg cs) := by
  obtain ⟨fuel, hf⟩ := ht
  obtain ⟨a, h1, h2⟩ := h H enc w held fuel _ _ hf hbk
  have e : ∀ i, (Value.agg cs).cells.toList.getD i undef = cs.getD i undef := fun i => by simp [Value.cells, List.getD, Array.getD_eq_getD_getElem?]
  refine ⟨a, h1, .agg (by have := h2.1; simpa [Value.cells] using this.symm) (fun i v hv => ?_) (fun i v hv => ?_)⟩
  · have := (h2.2 i v hv).1; rw [e] at this; exact this
  · have := (h2.2 i v hv).2; rw [e] at this; exact this

end
end Go.AM
