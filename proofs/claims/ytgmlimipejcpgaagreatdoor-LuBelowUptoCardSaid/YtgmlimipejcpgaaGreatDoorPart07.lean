/-
  YtgmlimipejcpgaaGreatDoorPart07: steps of the proof of a law of the program: what these texts prove holds under the hypotheses that their theorems name, and no others.
-/
import Derived.Test.YtgmlimipejcpgaaGreatDoorPart06
import Derived.ChangeSlices
import Derived.Below
import Derived.MapKept
import Derived.Test.YtgmlimipejcpgaaGreatDoorPart05
import Derived.Test.YtgmlimipejcpgaaGreatDoorRows
import Derived.OpenShut
import Derived.Test.YtgmlimipejcpgaaGreatDoorCards
import Derived.Test.YtgmlimipejcpgaaGreatDoorTie
import Derived.WalkKit
import Derived.ProofKit
import Derived.ChangeOld
import Derived.Carry
import Derived.JoinedCond
import Derived.Deep.DeepHandedRow
section
set_option linter.unusedVariables false
set_option linter.unusedSimpArgs false
namespace Go.AM
section
variable {P : Program} {ge : GEnv}
def RetG (P : Program) (rs : Array ResultVar) (Q : V → List B → Prop) (h0 : List B) (e : Exit) (s : St) : Prop :=
  (e = .normal ∨ e = .ret) ∧ ∃ v h', RetV P s rs.toList v ∧ Q v h' ∧ v.lt h'.length = true ∧ Leaves h0 s.h h'
theorem GCall_body {f : Nat} {fn : Func} {code : Code} {args : List V} {h : List B} {Q : V → List B → Prop} (hf : P.funcs[f]? = some fn) (hb : fn.body = some code) (hname : fn.name ≠ "runtime.NumGoroutine") {n : Nat} (hn : fn.ntmps = n) (hl : args.length ≤ n) {rs : Array ResultVar} (hrs : fn.results = rs)
    (body : AW P ge code (RetG P rs Q h) ⟨n, argTm 0 args, h⟩) : GCall P ge f args h Q := by
  subst hn; subst hrs
  exact GCall_of_body hf hb hname hl body
theorem retg1 {st : St} {t : Nat} {Q : V → List B → Prop} {h0 h' : List B} (hq : Q (lk st.tm t) h') (hv : (lk st.tm t).lt h'.length = true) (hl : Leaves h0 st.h h') : RetG P #[.tmp t] Q h0 .ret st := ⟨.inr rfl, _, h', rfl, hq, hv, hl⟩
theorem Leaves.refl {h : List B} : Leaves h h h := ⟨Nat.le_refl _, Nat.le_refl _, fun b x hx => .inr ⟨hx, .inl hx⟩⟩
/-- A prefix has turned; what stands behind it stays; what is new falls. -/
theorem Leaves.tail {a a' e x : List B} (hl : a'.length = a.length) (ha : ∀ y ∈ a', y.lt a'.length) : Leaves (a ++ e) (a' ++ (e ++ x)) (a' ++ e) := by
  refine ⟨by simp [hl], by simp, fun b y hy => .inr ⟨?_, ?_⟩⟩
  · have hlt := (List.getElem?_eq_some_iff.1 hy).1
    rw [← List.append_assoc, List.getElem?_append_left hlt]; exact hy
  · rcases Nat.lt_or_ge b a'.length with h | h
    · rw [List.getElem?_append_left h] at hy
      exact .inr (B.lt_mono (by simp) (ha y (List.mem_of_getElem? hy)))
    · rw [List.getElem?_append_right h] at hy
      refine .inl ?_
      rw [List.getElem?_append_right (by omega), ← hl]; exact hy
theorem Weak.tail {st : St} {tm : List (Nat × V)} {a e x : List B} (hh : st.h = a ++ (e ++ x)) (ht : ∀ p ∈ tm, lk st.tm p.1 = p.2 ∧ p.2.lt (a ++ e).length = true) (ha : ∀ y ∈ a, y.lt (a ++ e).length) (he : ∀ y ∈ e, y.lt (a ++ e).length) :
    Weak st ⟨st.n, tm, a ++ e⟩ := by
  refine ⟨rfl, by rw [hh]; simp, ht, fun b y hy => .inr ⟨?_, ?_⟩⟩
  · have hlt := (List.getElem?_eq_some_iff.1 hy).1
    rw [hh, ← List.append_assoc, List.getElem?_append_left hlt]; exact hy
  · rcases List.mem_append.1 (List.mem_of_getElem? hy) with h | h
    · exact ha y h
    · exact he y h
theorem GCall.imp {f : Nat} {args : List V} {h : List B} {Q : V → List B → Prop} (hc : GCall P ge f args h Q) {args' : List V} {h' : List B} (e1 : args = args') (e2 : h = h') : GCall P ge f args' h' Q := by subst e1; subst e2; exact hc
end
attribute [simp] Leaves.refl
end Go.AM
end

section
set_option linter.unusedVariables false
set_option linter.unusedSimpArgs false
namespace Go.AM
/-- All that is there is frozen for the call. -/
def Gall (w : World) : Gh := { fz := fun k => match w.heap[k]? with | some (.cells arr _ _) => arr.size | _ => 0, n := 0, gm := fun _ => 0, m := fun _ _ => none, sz := fun _ => 0, cap := fun _ _ => 0 }
theorem Gall_cell {w : World} {k o : Nat} {v : Value} (h : w.cell? ⟨k, o, none⟩ = some v) : o < (Gall w).fz k := by
  unfold World.cell? at h
  simp only [Gall]
  split at h
  · rename_i c _ _ hk
    simp only at hk
    rw [hk]
    simp at h
    exact (Array.getElem?_eq_some_iff.1 h).1
  · cases h
theorem cell_spot {w : World} {a : Addr} {v : Value} (h : w.cell? a = some v) : a = ⟨a.block, a.off, none⟩ := by
  obtain ⟨b, o, s⟩ := a
  unfold World.cell? at h
  split at h
  · cases s with
    | none => rfl
    | some _ => simp at h
  · cases h
theorem add_none (b o n : Nat) : Addr.add ⟨b, o, none⟩ n = ⟨b, o + n, none⟩ := by
  unfold Addr.add; split
  · rename_i h; subst h; rfl
  · rfl
theorem GE_all {ge : GEnv} {w : World} (hge : ∀ g cs, ge g = some cs → R (Gall w) w true (.fp cs 0) (.pointer (some ⟨g, 0, none⟩))) : GE ge (Gall w) w :=
  ⟨fun k hk => by simp only [Gall]; rw [Array.getElem?_eq_none hk], hge⟩
/-- Cells, and what stands for them. -/
def RdCells (w : World) (vs : List V) (cs : List Value) : Prop := vs.length = cs.length ∧ ∀ (i : Nat) (v : V), vs[i]? = some v → (cs.getD i undef).oneCell' = true ∧ R (Gall w) w true v (cs.getD i undef)
section
variable {P : Program} {T : TypeId}
theorem RdCells.one {w : World} {v : V} {c : Value} (ho : c.oneCell' = true) (hr : R (Gall w) w true v c) : RdCells w [v] [c] :=
  ⟨rfl, fun i u hu => by
    cases i with
    | zero => simp at hu; subst hu; exact ⟨ho, hr⟩
    | succ i => simp at hu⟩
theorem mapM_get {α β : Type} {g : α → Option β} : ∀ {l : List α} {r : List β}, l.mapM g = some r → r.length = l.length ∧ ∀ (i : Nat) (a : α), l[i]? = some a → g a = r[i]?
  | [], r, h => by simp at h; subst h; exact ⟨rfl, fun i a ha => by simp at ha⟩
  | b :: l, r, h => by
    rw [List.mapM_cons] at h
    cases hb : g b with
    | none => rw [hb] at h; simp at h
    | some c =>
      rw [hb] at h
      simp only [Option.pure_def, Option.bind_eq_bind, Option.bind_some] at h
      cases hl : l.mapM g with
      | none => rw [hl] at h; simp at h
      | some r' =>
        rw [hl] at h
        simp at h
        subst h
        obtain ⟨h1, h2⟩ := mapM_get hl
        refine ⟨by simp [h1], fun i a ha => ?_⟩
        cases i with
        | zero => simp at ha; subst ha; simp [hb]
        | succ i => simpa using h2 i a (by simpa using ha)
theorem cells_get {w : World} {a : Addr} {n : Nat} {cs : List Value} (h : w.cells? 0 a n = some cs) : cs.length = n ∧ ∀ i, i < n → w.cell? (a.add i) = some (cs.getD i undef) := by
  unfold World.cells? at h
  rw [if_pos (Nat.zero_le _)] at h
  obtain ⟨h1, h2⟩ := mapM_get h
  simp at h1
  refine ⟨h1, fun i hi => ?_⟩
  have := h2 i i (by rw [List.getElem?_range hi])
  rw [this]
  have hlt : i < cs.length := by omega
  simp [List.getD, List.getElem?_eq_getElem hlt]
theorem RdCells.append {w : World} {a b : List V} {cs : List Value} {n : Nat} (hn : a.length = n) (h1 : RdCells w a (cs.take n)) (h2 : RdCells w b (cs.drop n)) : RdCells w (a ++ b) cs := by
  have hl : n ≤ cs.length := by have := h1.1; rw [hn, List.length_take] at this; omega
  refine ⟨by rw [List.length_append, h2.1, hn, List.length_drop]; omega, fun i v hv => ?_⟩
  rcases Nat.lt_or_ge i a.length with h | h
  · rw [List.getElem?_append_left h] at hv
    have := h1.2 i v hv
    have e : (cs.take n).getD i undef = cs.getD i undef := by simp [List.getD, List.getElem?_take_of_lt (show i < n by omega)]
    rw [e] at this; exact this
  · rw [List.getElem?_append_right h] at hv
    have := h2.2 _ v hv
    have e : (cs.drop n).getD (i - a.length) undef = cs.getD i undef := by
      simp only [List.getD, List.getElem?_drop]
      congr 2; omega
    rw [e] at this; exact this
/-- What a law's contract gives the row. -/
theorem law_calls {ge : GEnv} {f : Nat} {args : List V} {cargs : Array Value} {W : World} (hc : PCall P ge f args (.bool true)) (ha : ArgsR (Gall W) W true args cargs) (hg : GE ge (Gall W) W) :
    Calls P f cargs W fun e W' => e = .returned (.bool true) ∧ RowKit.Below W.heap.size W W' := by
  refine (hc.2 (Gall W) W cargs ha hg).mono ?_
  rintro e w' ⟨c, G', rfl, hk, hr⟩
  have h1 : R G' w' true (.bool true) c := hr
  cases h1
  exact ⟨rfl, hk.grow.os, hk.grow.out.2, hk.grow.out.1, hk.grow.size, fun k hk' => hk.grow.old k hk'⟩
end
end Go.AM
end

section
set_option linter.unusedVariables false
set_option linter.unusedSimpArgs false
namespace Go.AM
/-- A measure of what is read, and its bound. -/
structure Bk where
  bk : (H : Type) → DataW H → Nat
  N : Nat
  len : ∀ {H : Type} (es sp : List (DataW H)), bk H (.slice es sp) ≤ N → es.length ≤ N ∧ ∀ d ∈ es, bk H d ≤ N
  agg : ∀ {H : Type} (ps : List (DataW H)), bk H (.agg ps) ≤ N → ∀ d ∈ ps, bk H d ≤ N
  str : ∀ {H : Type} (b : List UInt8), bk H (.lit (.string b)) ≤ N → b.length ≤ N
/-- Whatever a reading of this type within the bound gives stands for data of this shape. -/
def RdN (K : Bk) (P : Program) (T : TypeId) {α : Type} (f : α → List V) (ok : α → Prop) : Prop :=
  ∀ (H : Type) (enc : TypeId × Value → H) (w : World) (held : Bool) (fuel : Nat) (cs : List Value) (x : DataW H × List MemPlace), DataW.trod enc P w 0 (fun _ => true) held fuel T cs = some x → K.bk H x.1 ≤ K.N → ∃ a, ok a ∧ RdCells w (f a) cs
section
variable {P : Program} {T : TypeId} {K : Bk}
theorem RdN.map {α β : Type} {f : α → List V} {ok : α → Prop} {f' : β → List V} {ok' : β → Prop} (h : RdN K P T f ok) (g : α → β) (hf : ∀ a, f' (g a) = f a) (hok : ∀ a, ok a → ok' (g a)) : RdN K P T f' ok' :=
  fun H enc w held fuel cs x hx hbk => let ⟨a, h1, h2⟩ := h H enc w held fuel cs x hx hbk; ⟨g a, hok a h1, by rw [hf]; exact h2⟩
theorem RdN_int {k : IntKind} (ht : P.underlying T = some (.int k)) : RdN K P T (fun n : Int => [V.int k n]) (fun n => (Lit.int k n).wf = true) :=
  fun H enc w held fuel cs x hx hbk => by
    obtain ⟨n, rfl, _, hw⟩ := DataW.trod_int ht hx
    exact ⟨n, hw, .one rfl .int⟩
theorem RdN_bool (ht : P.underlying T = some .bool) : RdN K P T (fun b : Bool => [V.bool b]) (fun _ => True) :=
  fun H enc w held fuel cs x hx hbk => by
    obtain ⟨b, rfl, _⟩ := DataW.trod_bool ht hx
    exact ⟨b, trivial, .one rfl .bool⟩
theorem RdN_string (ht : P.underlying T = some .string) : RdN K P T (fun s : ByteArray => [V.str s]) (fun s => s.size ≤ maxLen ∧ s.size ≤ K.N) :=
  fun H enc w held fuel cs x hx hbk => by
    obtain ⟨s, rfl, rfl, hs⟩ := DataW.trod_string ht hx
    exact ⟨s, ⟨hs, by have := K.str _ hbk; simpa using this⟩, .one rfl .str⟩
theorem RdN_slice {e : TypeId} {α : Type} {f : α → List V} {ok : α → Prop} (ht : P.underlying T = some (.slice e)) (hc : 0 < P.cellsOf e) (he : RdN K P e f ok) (hlen : ∀ a, (f a).length = P.cellsOf e) :
    RdN K P T (fun l : List α => [V.vec (l.map f) l.length]) (fun l => l.length ≤ K.N ∧ ∀ a ∈ l, ok a) :=
  fun H enc w held fuel cs x hx hbk => by
    rcases DataW.trod_slice ht hx with ⟨rfl, _⟩ | ⟨a, len, cap, elems, rest, n, _, rfl, rfl, _, hl, hm, hel, hget, _, _⟩
    · refine ⟨[], ?_⟩
      show (([] : List α).length ≤ K.N ∧ ∀ a ∈ ([] : List α), ok a) ∧ RdCells w [V.vec [] 0] [_]
      exact ⟨⟨Nat.zero_le _, fun a ha => (by cases ha)⟩, .one rfl (.emp (Nat.zero_le _))⟩
    obtain ⟨hbl, hbm⟩ := K.len _ _ hbk
    rw [List.length_map] at hbl
    -- element by element
    have each : ∀ i, i < len → ∃ (y : α), ok y ∧ ∃ ecs : List Value, w.cells? 0 (a.add (i * P.cellsOf e)) (P.cellsOf e) = some ecs ∧ RdCells w (f y) ecs := fun i hi => by
      have h1 := hget i hi
      rw [List.getElem?_eq_getElem (by omega)] at h1
      cases hcs : w.cells? 0 (a.add (i * P.cellsOf e)) (P.cellsOf e) with
      | none => rw [hcs] at h1; simp at h1
      | some ecs =>
        rw [hcs] at h1
        simp only [Option.bind_some] at h1
        obtain ⟨y, h2, h3⟩ := he H enc w held n ecs _ h1 (hbm _ (List.mem_map_of_mem (List.getElem_mem (by omega))))
        exact ⟨y, h2, ecs, rfl, h3⟩
    have hlist : ∀ m, m ≤ len → ∃ l : List α, l.length = m ∧ (∀ a ∈ l, ok a) ∧ ∀ (i : Nat) (y : α), l[i]? = some y → ∃ ecs : List Value, w.cells? 0 (a.add (i * P.cellsOf e)) (P.cellsOf e) = some ecs ∧ RdCells w (f y) ecs := by
      intro m
      induction m with
      | zero => intro _; exact ⟨[], rfl, fun a ha => (by cases ha), fun i y hy => by simp at hy⟩
      | succ m ih =>
        intro hm'
        obtain ⟨l, h1, h2, h3⟩ := ih (by omega)
        obtain ⟨y, h4, h5⟩ := each m (by omega)
        refine ⟨l ++ [y], by simp [h1], fun z hz => ?_, fun i z hz => ?_⟩
        · rcases List.mem_append.1 hz with h | h
          · exact h2 z h
          · simp at h; subst h; exact h4
        · rcases Nat.lt_or_ge i l.length with h | h
          · rw [List.getElem?_append_left h] at hz; exact h3 i z hz
          · rw [List.getElem?_append_right h] at hz
            have h0 : i - l.length = 0 := by
              rcases Nat.eq_zero_or_pos (i - l.length) with h | h
              · exact h
              · rw [List.getElem?_eq_none (by simp; omega)] at hz; cases hz
            rw [h0] at hz; simp at hz; subst hz
            have : i = m := by omega
            subst this; exact h5
    obtain ⟨l, h1, h2, h3⟩ := hlist len (Nat.le_refl _)
    refine ⟨l, ⟨by omega, h2⟩, .one rfl ?_⟩
    rcases Nat.eq_zero_or_pos len with hz | hz
    · have : l = [] := List.eq_nil_of_length_eq_zero (by omega)
      subst this; subst hz
      exact .emp hm
    -- the address has no spot
    have hspot : a = ⟨a.block, a.off, none⟩ := by
      obtain ⟨ecs, h4, _⟩ := h3 0 l[0] (List.getElem?_eq_getElem (by omega))
      have h5 := (cells_get h4).2 0 hc
      have h6 := cell_spot h5
      have h7 := congrArg Addr.spot h6
      simp [Addr.add] at h7
      obtain ⟨b, o, s⟩ := a
      simp at h7; subst h7; rfl
    obtain ⟨ab, ao, asp⟩ := a
    have has : asp = none := by have := congrArg Addr.spot hspot; simpa using this
    subst has
    have hcell : ∀ (i : Nat) (y : List V) (j : Nat) (v : V), (l.map f)[i]? = some y → y[j]? = some v → ∃ c, w.cell? ⟨ab, ao + (i * P.cellsOf e + j), none⟩ = some c ∧ c.oneCell' = true ∧ R (Gall w) w true v c := by
      intro i y j v hy hv
      rw [List.getElem?_map] at hy
      obtain ⟨z, hz, rfl⟩ := Option.map_eq_some_iff.1 hy
      obtain ⟨ecs, h4, h5⟩ := h3 i z hz
      obtain ⟨h6, h7⟩ := cells_get h4
      have hj : j < P.cellsOf e := by have := (List.getElem?_eq_some_iff.1 hv).1; rw [hlen] at this; exact this
      have h8 := h7 j hj
      have h9 := h5.2 j v hv
      refine ⟨_, ?_, h9.1, h9.2⟩
      rw [← h8, add_none, add_none, Nat.add_assoc]
    rw [← h1]
    refine .vec (sz := P.cellsOf e) (by simp) (by simp; omega) hm (fun i y hy => ?_) (fun i y j v hy hv => ?_) (fun i y j v hy hv => ?_) (fun i y j v hy hv => ?_)
    · rw [List.getElem?_map] at hy
      obtain ⟨z, hz, rfl⟩ := Option.map_eq_some_iff.1 hy
      exact hlen z
    · obtain ⟨c, h4, h5, h6⟩ := hcell i y j v hy hv
      exact ⟨by rw [h4]; rfl, Gall_cell h4⟩
    · obtain ⟨c, h4, h5, h6⟩ := hcell i y j v hy hv
      unfold cellD; rw [h4]; exact h5
    · obtain ⟨c, h4, h5, h6⟩ := hcell i y j v hy hv
      unfold cellD; rw [h4]; exact h6
/-- A struct's fields from one on. -/
def RdNs (K : Bk) (P : Program) (tot : Nat) (fs : List Field) (off : Nat) {α : Type} (f : α → List V) (ok : α → Prop) : Prop :=
  ∀ (H : Type) (enc : TypeId × Value → H) (w : World) (held : Bool) (n : Nat) (cs : List Value) (xs : List (DataW H × List MemPlace)), cs.length = tot → xs.length = fs.length →
    (∀ (i : Nat) (g : Field), fs[i]? = some g → DataW.trod enc P w 0 (fun _ => true) held n g.type ((cs.drop g.offset).take (P.cellsOf g.type)) = xs[i]?) → (∀ x ∈ xs, K.bk H x.1 ≤ K.N) → ∃ a, ok a ∧ RdCells w (f a) (cs.drop off)
theorem RdNs_nil {tot off : Nat} (h : off = tot) : RdNs K P tot [] off (fun _ : Unit => []) (fun _ => True) :=
  fun H enc w held n cs xs hl _ _ _ => ⟨(), trivial, by rw [List.drop_eq_nil_of_le (by omega)]; exact ⟨rfl, fun i v hv => by simp at hv⟩⟩
theorem RdNs_cons {tot off sz : Nat} {fd : Field} {fs : List Field} {α β : Type} {f : α → List V} {ok : α → Prop} {g : β → List V} {ok' : β → Prop} (ho : fd.offset = off) (hs : P.cellsOf fd.type = sz) (h : RdN K P fd.type f ok) (hlen : ∀ a, (f a).length = sz)
    (h' : RdNs K P tot fs (off + sz) g ok') : RdNs K P tot (fd :: fs) off (fun p : α × β => f p.1 ++ g p.2) (fun p => ok p.1 ∧ ok' p.2) :=
  fun H enc w held n cs xs hl hxl hx hb => by
    cases xs with
    | nil => simp at hxl
    | cons x xs =>
      have h0 := hx 0 fd rfl
      obtain ⟨a, h1, h2⟩ := h H enc w held n _ x h0 (hb x (.head _))
      obtain ⟨b, h3, h4⟩ := h' H enc w held n cs xs hl (by simpa using hxl) (fun i g hg => by simpa using hx (i + 1) g (by simpa using hg)) (fun y hy => hb y (.tail _ hy))
      rw [ho, hs] at h2
      rw [← List.drop_drop] at h4
      exact ⟨(a, b), ⟨h1, h3⟩, .append (hlen a) h2 h4⟩
theorem RdN_struct {fs : Array Field} {tot : Nat} {α : Type} {f : α → List V} {ok : α → Prop} (ht : P.underlying T = some (.struct fs)) (hc : P.cellsOf T = tot) (h : RdNs K P tot fs.toList 0 f ok) : RdN K P T f ok :=
  fun H enc w held fuel cs x hx hbk => by
    obtain ⟨xs, n, _, rfl, h1, h2, h3⟩ := DataW.trod_struct ht hx
    obtain ⟨a, h4, h5⟩ := h H enc w held n cs xs (by rw [h1, hc]) (by simpa using h2) (fun i g hg => h3 i g (by simpa using hg)) (fun y hy => K.agg _ hbk _ (List.mem_map_of_mem hy))
    exact ⟨a, h4, by simpa using h5⟩
/-- An argument of one cell. -/
theorem RdN.arg {α : Type} {f : α → V} {ok : α → Prop} (h : RdN K P T (fun a => [f a]) ok) {H : Type} {enc : TypeId × Value → H} {w : World} {held : Bool} {v : Value} {d : DataW H} {ps : List MemPlace}
    (ht : DataW.Trod enc P w 0 (fun _ => true) held T v d ps) (hv : v.cells = #[v]) (hbk : K.bk H d ≤ K.N) : ∃ a, ok a ∧ R (Gall w) w true (f a) v := by
  obtain ⟨fuel, hf⟩ := ht
  rw [hv] at hf
  obtain ⟨a, h1, h2⟩ := h H enc w held fuel _ _ hf hbk
  exact ⟨a, h1, (h2.2 0 _ rfl).2⟩
/-- An argument that is a struct. -/
theorem RdN.aggArg {α : Type} {f : α → List V} {ok : α → Prop} (h : RdN K P T f ok) {H : Type} {enc : TypeId × Value → H} {w : World} {held : Bool} {cs : Array Value} {d : DataW H} {ps : List MemPlace}
    (ht : DataW.Trod enc P w 0 (fun _ => true) held T (.agg cs) d ps) (hbk : K.bk H d ≤ K.N) : ∃ a, ok a ∧ R (Gall w) w true (.agg (f a)) (.agg cs) := by
  obtain ⟨fuel, hf⟩ := ht
  obtain ⟨a, h1, h2⟩ := h H enc w held fuel _ _ hf hbk
  have e : ∀ i, (Value.agg cs).cells.toList.getD i undef = cs.getD i undef := fun i => by simp [Value.cells, List.getD, Array.getD_eq_getD_getElem?]
  refine ⟨a, h1, .agg (by have := h2.1; simpa [Value.cells] using this.symm) (fun i v hv => ?_) (fun i v hv => ?_)⟩
  · have := (h2.2 i v hv).1; rw [e] at this; exact this
  · have := (h2.2 i v hv).2; rw [e] at this; exact this
end
end Go.AM
end

section
set_option linter.unusedVariables false
namespace Go.AM
section
variable {P : Program} {ge : GEnv} {st : St} {Q : Exit → St → Prop}
def SMeet (S : St) (Q : Exit → St → Prop) : Exit → St → Prop
  | .normal, s => Weak s S ∧ S.h.length = s.h.length
  | e, s => Q e s
theorem AW_mid {id : Nat} {ops : Array Oper} {b : Bool} {y z : Code} (S : St) (h1 : AW P ge (.seq (.region id ops b) y) (SMeet S Q) st) (h2 : AW P ge z Q S) :
    AW P ge (.seq (.seq (.region id ops b) y) z) Q st := by
  refine AW_seq (h1.mono fun e s h => ?_)
  cases e <;> simp only [SMeet, SThen] at h ⊢
  case normal => exact h2.weak h.1 h.2
  all_goals exact h
/-- Held back from a walk. -/
structure Hold (p : Prop) : Prop where
  mk' ::
  get : p
theorem Hold.mk {p : Prop} (h : Hold p) : p := h.get
theorem Hold.out {p : Prop} (h : p) : Hold p := ⟨h⟩
theorem SMeet_normal {S s : St} (h : Weak s S) (hl : S.h.length = s.h.length) : SMeet S Q .normal s := ⟨h, hl⟩
theorem SMeet_ret {S s : St} (h : Q .ret s) : SMeet S Q .ret s := h
theorem SMeet_exit {S s : St} {id : Nat} (h : Q (.exit id) s) : SMeet S Q (.exit id) s := h
end
end Go.AM
end

section
set_option linter.unusedVariables false
set_option linter.unusedSimpArgs false
namespace Go.AM
/-- The temps of a state that stay. -/
def pickTm (tm : List (Nat × V)) : List Nat → List (Nat × V)
  | [] => []
  | t :: r => (t, lk tm t) :: pickTm tm r
section
variable {P : Program} {ge : GEnv} {st : St} {Q : Exit → St → Prop}
/-- The state at the head of a loop: the index, what turns, what stays. -/
def headSt (st : St) (L : List Nat) (vs : List (Nat × V)) (h : List B) : St := ⟨st.n, vs ++ pickTm st.tm L, h⟩
/-- A loop whose head is told by what turns (vs, H) and the temps that stay (L). -/
theorem AW_loopL {σ : Type} (L : List Nat) (vs : σ → List (Nat × V)) (H : σ → List B) (I : σ → Prop) (μ : σ → Nat) {c : Code} (x0 : σ) (h0 : I x0)
    (hst : Weak st (headSt st L (vs x0) (H x0))) (hlen : ∀ x, I x → (H x).length = st.h.length)
    (round : ∀ x, I x → AW P ge c (SThen (fun s => ∃ x', I x' ∧ μ x' < μ x ∧ Weak s (headSt st L (vs x') (H x'))) Q) (headSt st L (vs x) (H x))) : AW P ge (.loop c) Q st :=
  AW_loop (fun x => headSt st L (vs x) (H x)) I μ h0 hst hlen round
/-- A loop over a list, element by element, told by a function of the rest of the list. -/
theorem AW_range {α acc ρ : Type} (l : List α) (ti : Nat) (L : List Nat) (vs : acc → List (Nat × V)) (H : acc → List B) (J : Nat → acc → Prop) (F : List α → acc → ρ) {c : Code} (a0 : acc) {r : ρ}
    (hr : F l a0 = r) (hJ : J 0 a0) (hst : Weak st (headSt st L ((ti, .int .i64 ((0 : Nat) : Int)) :: vs a0) (H a0))) (hlen : ∀ i a, J i a → (H a).length = st.h.length)
    (body : ∀ (i : Nat) (a : acc) (x : α), l[i]? = some x → (hlt : i < l.length) → l[i] = x → J i a → F (x :: l.drop (i + 1)) a = r →
      AW P ge c (SThen (fun s => ∃ a', F (l.drop (i + 1)) a' = r ∧ J (i + 1) a' ∧ Weak s (headSt st L ((ti, .int .i64 ((i + 1 : Nat) : Int)) :: vs a') (H a'))) Q) (headSt st L ((ti, .int .i64 (i : Int)) :: vs a) (H a)))
    (done : ∀ a, J l.length a → F [] a = r → AW P ge c (SThen (fun _ => False) Q) (headSt st L ((ti, .int .i64 (l.length : Int)) :: vs a) (H a))) : AW P ge (.loop c) Q st := by
  refine AW_loop (fun x : Nat × acc => headSt st L ((ti, .int .i64 (x.1 : Int)) :: vs x.2) (H x.2)) (fun x => x.1 ≤ l.length ∧ J x.1 x.2 ∧ F (l.drop x.1) x.2 = r) (fun x => l.length - x.1) (x0 := (0, a0))
    ⟨Nat.zero_le _, hJ, hr⟩ hst (fun x hx => hlen x.1 x.2 hx.2.1) ?_
  rintro ⟨i, a⟩ ⟨h1, h2, h3⟩
  simp only at h1 h2 h3
  rcases Nat.lt_or_ge i l.length with hlt | hge
  · have hx : l[i]? = some l[i] := List.getElem?_eq_getElem hlt
    rw [List.drop_eq_getElem_cons hlt] at h3
    refine (body i a l[i] hx hlt rfl h2 h3).mono fun e s h => ?_
    cases e <;> simp only [SThen] at h ⊢
    case normal =>
      obtain ⟨a', k1, k2, k3⟩ := h
      exact ⟨(i + 1, a'), ⟨hlt, k2, k1⟩, by simp only; omega, k3⟩
    all_goals exact h
  · have hi : i = l.length := by omega
    subst hi
    rw [List.drop_of_length_le (Nat.le_refl _)] at h3
    refine (done a h2 h3).mono fun e s h => ?_
    cases e <;> simp only [SThen] at h ⊢
    all_goals first | exact h.elim | exact h
/-- A loop over a list that only looks. -/
theorem AW_scan {α ρ : Type} (l : List α) (ti : Nat) (L : List Nat) (F : List α → ρ) {c : Code} {r : ρ} (hr : F l = r) (hst : Weak st (headSt st L [(ti, .int .i64 ((0 : Nat) : Int))] st.h))
    (body : ∀ (i : Nat) (x : α), l[i]? = some x → (hlt : i < l.length) → l[i] = x → F (x :: l.drop (i + 1)) = r →
      AW P ge c (SThen (fun s => F (l.drop (i + 1)) = r ∧ Weak s (headSt st L [(ti, .int .i64 ((i + 1 : Nat) : Int))] st.h)) Q) (headSt st L [(ti, .int .i64 (i : Int))] st.h))
    (done : F [] = r → AW P ge c (SThen (fun _ => False) Q) (headSt st L [(ti, .int .i64 (l.length : Int))] st.h)) : AW P ge (.loop c) Q st :=
  AW_range l ti L (fun _ : Unit => []) (fun _ => st.h) (fun _ _ => True) (fun l _ => F l) () hr trivial hst (fun _ _ _ => rfl)
    (fun i _ x h1 h2 h3 _ h4 => (body i x h1 h2 h3 h4).mono fun e s h => by
      cases e <;> simp only [SThen] at h ⊢
      case normal => exact ⟨(), h.1, trivial, h.2⟩
      all_goals exact h) (fun _ _ h => done h)
end
/-- A row of one's own, frozen. -/
theorem PCall.freeze {P : Program} {ge : GEnv} {f : Nat} {args : List V} {T : TypeId} {xs : List (List V)} (hc : PCall P ge f args (.own T xs)) : PCall P ge f args (.vec xs xs.length) := by
  refine ⟨hc.1, fun G w cargs ha hg => (hc.2 G w cargs ha hg).mono ?_⟩
  rintro e w' ⟨c, G', rfl, kept, h0, ⟨rfl, rfl⟩ | ⟨k, cap, arr, rfl, hb, hh, hfz, hs, hl, hcm, hlen, hc⟩⟩
  · exact ⟨_, G', rfl, kept, .emp (Nat.zero_le _)⟩
  · have hk : k < w'.heap.size := by
      rcases Nat.lt_or_ge k w'.heap.size with h | h
      · exact h
      · rw [Array.getElem?_eq_none h] at hh; cases hh
    have hle : ∀ j, G'.fz j ≤ (if j = k then arr.size else G'.fz j) := fun j => by
      split
      · rename_i h; subst h; omega
      · exact Nat.le_refl _
    refine ⟨_, G'.withFz fun j => if j = k then arr.size else G'.fz j, rfl, ⟨kept.grow, fun j hj => ?_, fun j hj => ?_⟩, ?_⟩
    · show (if j = k then arr.size else G'.fz j) = G.fz j
      rw [if_neg (by omega)]; exact kept.fz j hj
    · show (if j = k then arr.size else G'.fz j) = 0
      rw [if_neg (by omega)]; exact kept.fzlt j hj
    · have hlt : ∀ (i : Nat) (x : List V) (j : Nat) (v : V), xs[i]? = some x → x[j]? = some v → i * szOf P T + j < arr.size := fun i x j v hx hv => by
        have h1 := hlen i x hx
        have h2 : i < xs.length := (List.getElem?_eq_some_iff.1 hx).1
        have h3 : j < x.length := (List.getElem?_eq_some_iff.1 hv).1
        have h4 : (i + 1) * szOf P T ≤ cap * szOf P T := Nat.mul_le_mul_right _ (by omega)
        rw [hs]; rw [Nat.add_mul] at h4; omega
      have hcd : ∀ (o : Nat), o < arr.size → w'.cell? ⟨k, o, none⟩ = some (arr.getD o undef) := fun o ho => arr_cell hh ho
      have hd : ∀ (o : Nat), o < arr.size → cellD w' k o = arr.getD o undef := fun o ho => by unfold cellD; rw [hcd o ho]; rfl
      refine R.vec (sz := szOf P T) (Nat.le_refl _) hl hcm hlen (fun i x j v hx hv => ?_) (fun i x j v hx hv => ?_) (fun i x j v hx hv => ?_)
      · have := hlt i x j v hx hv
        rw [Nat.zero_add]
        refine ⟨by rw [hcd _ this]; rfl, ?_⟩
        show _ < if k = k then arr.size else G'.fz k
        rw [if_pos rfl]; exact this
      · rw [Nat.zero_add, hd _ (hlt i x j v hx hv)]; exact (hc i x j v hx hv).1
      · rw [Nat.zero_add, hd _ (hlt i x j v hx hv)]; exact ((hc i x j v hx hv).2).fz hle
attribute [simp] pickTm headSt
end Go.AM
end

section
set_option linter.unusedVariables false
set_option linter.unusedSimpArgs false
namespace Go.AM
open Go.MapKept
def smap (l : List (ByteArray × V)) : List (V × V) := l.map fun p => (.str p.1, p.2)
def sget (l : List (ByteArray × V)) (s : ByteArray) : Option V := (l.find? fun p => p.1 = s).map (·.2)
def sput (l : List (ByteArray × V)) (s : ByteArray) (v : V) : List (ByteArray × V) := match l.findIdx? fun p => p.1 = s with
  | some j => l.set j (s, v)
  | none => l ++ [(s, v)]
section
variable {P : Program} {ge : GEnv} {st : St} {Q : Exit → St → Prop}
variable {d : Option Tmp} {t : TypeId} {p : String} {af : Array Edge} {g : Option (Nat × Bool)}
theorem S_makeMap {T : TypeId} : OpS P ge st ⟨d, .makeMap T none, t, p, af, g⟩ (.mp st.h.length) (st.h ++ [.map []]) := by
  intro G a w hr
  have hk : ∀ k', (G.push (some w.heap.size) 1 1).at G.n (.map []) = some k' → w.heap.size ≤ k' := fun k' h => by
    simp [Gh.at, Gh.push] at h; omega
  have hrb : RB P (G.push (some w.heap.size) 1 1) (w.alloc (.map #[] 0)) G.n (.map []) :=
    ⟨by simp [Gh.push], w.heap.size, #[], 0, by simp [Gh.push], heap_alloc_new w _, rfl, fun i e c h => by simp at h⟩
  refine ⟨.map (some w.heap.size), G.push (some w.heap.size) 1 1, w.alloc (.map #[] 0), .inl ?_, hr.rh.push (.alloc w _) hrb hk, ?_, .push hr.rh (.alloc w _) hk⟩
  · simp [execOp, Instr.makeMap]
  · rw [hr.rh.n]; exact .mp (by simp [Gh.push]) (by simp [Gh.push])
/-- The keys of a map's entries are the strings. -/
theorem ents_keys {G : Gh} {w : World} {l : List (ByteArray × V)} {ents : Array MapEntry} (hs : ents.size = (smap l).length)
    (hc : ∀ (i : Nat) (e : V × V) (c : MapEntry), (smap l)[i]? = some e → ents[i]? = some c → R G w true e.1 c.key ∧ R G w true e.2 c.val) :
    (∀ x ∈ ents.toList, IsKey .string x.key) ∧ ∀ (j : Nat) (c : MapEntry), ents[j]? = some c → ∃ q, l[j]? = some q ∧ c.key = .string q.1 ∧ R G w true q.2 c.val := by
  have key : ∀ (j : Nat) (c : MapEntry), ents[j]? = some c → ∃ q, l[j]? = some q ∧ c.key = .string q.1 ∧ R G w true q.2 c.val := fun j c hj => by
    have hlt := (Array.getElem?_eq_some_iff.1 hj).1
    have hl : j < l.length := by rw [hs] at hlt; simpa [smap] using hlt
    have he : (smap l)[j]? = some (.str l[j].1, l[j].2) := by simp [smap, hl]
    obtain ⟨h1, h2⟩ := hc j _ c he hj
    exact ⟨l[j], List.getElem?_eq_getElem hl, h1.inv_str, h2⟩
  refine ⟨fun x hx => ?_, key⟩
  obtain ⟨j, hj⟩ := List.getElem?_of_mem hx
  obtain ⟨q, _, hq, _⟩ := key j x (by simpa using hj)
  rw [hq]; trivial
theorem find_at {l : List (ByteArray × V)} (hn : (l.map (·.1)).Nodup) {j : Nat} {q : ByteArray × V} (hj : l[j]? = some q) : sget l q.1 = some q.2 ∧ l.findIdx? (fun p => p.1 = q.1) = some j := by
  induction l generalizing j with
  | nil => simp at hj
  | cons a r ih =>
    rw [List.map_cons, List.nodup_cons] at hn
    cases j with
    | zero =>
      simp at hj; subst hj
      exact ⟨by simp [sget], by simp [List.findIdx?_cons]⟩
    | succ j =>
      have hj' : r[j]? = some q := by simpa using hj
      obtain ⟨h1, h2⟩ := ih hn.2 hj'
      have hne : ¬ a.1 = q.1 := fun e => hn.1 (by rw [e]; exact List.mem_map_of_mem (List.mem_of_getElem? hj'))
      refine ⟨?_, ?_⟩
      · unfold sget at h1 ⊢; rw [List.find?_cons]; simp only [hne, decide_false]; exact h1
      · rw [List.findIdx?_cons]; simp [hne, h2]
theorem find_none {l : List (ByteArray × V)} {s : ByteArray} (h : ∀ q ∈ l, q.1 ≠ s) : sget l s = none ∧ l.findIdx? (fun p => p.1 = s) = none := by
  constructor
  · unfold sget
    rw [List.find?_eq_none.2 (fun x hx => by simpa using h x hx)]; rfl
  · rw [List.findIdx?_eq_none_iff]; intro x hx; simpa using h x hx
theorem inv_mp {G : Gh} {w : World} {fr : Bool} {b : Nat} {c : Value} (h : R G w fr (.mp b) c) : ∃ k, c = .map (some k) ∧ G.m b 0 = some k := by
  cases h; exact ⟨_, rfl, by assumption⟩
theorem run_zero {et : TypeId} {zv : Value} (hz : (P.info? et).bind (·.zero) = some zv) (w : World) : (zeroValue et).run P w = .ok zv w := by
  cases hi : P.info? et with
  | none => rw [hi] at hz; cases hz
  | some i => rw [hi] at hz; simp only [Option.bind_some] at hz; simp [zeroValue, typeInfo, hi, hz]
theorem S_lookup {T kt et : TypeId} {x y : Operand} {b : Nat} {l : List (ByteArray × V)} {s : ByteArray} {zv : Value} (hT : P.underlying T = some (.map kt et)) (hkt : P.underlying kt = some .string) (hz : (P.info? et).bind (·.zero) = some zv)
    (hx : ev ge st.tm x = .mp b) (hb : st.h[b]? = some (.map (smap l))) (hy : ev ge st.tm y = .str s) (hn : (l.map (·.1)).Nodup) :
    OpS P ge st ⟨d, .lookup T x y false, t, p, af, g⟩ ((sget l s).getD (V.ofCell zv)) st.h := by
  refine OpS_pure fun G a w hr => ?_
  have hvx := hr.ev x
  have hvy := hr.ev y
  rw [hx] at hvx
  rw [hy] at hvy
  obtain ⟨k, hck, hm⟩ := inv_mp hvx
  have hcy := hvy.inv_str
  obtain ⟨h00, k', ents, clock, hm', hh, hs, hc⟩ := hr.rh.bl b _ hb
  rw [hm] at hm'; cases hm'
  obtain ⟨hks, hkey⟩ := ents_keys hs hc
  rcases findNow_spec (d := .string) (k := .string s) trivial ents.toList 0 hks with ⟨h1, h2⟩ | ⟨j, e, h1, h2, h3⟩
  · have hnone : sget l s = none := (find_none fun q hq e => by
      obtain ⟨j, hj⟩ := List.getElem?_of_mem hq
      have hl := (List.getElem?_eq_some_iff.1 hj).1
      have hl2 : j < ents.size := by rw [hs]; simpa [smap] using hl
      obtain ⟨q', h4, h5, _⟩ := hkey j ents[j] (Array.getElem?_eq_getElem hl2)
      rw [hj] at h4; cases h4
      exact h2 ents[j] (Array.getElem_mem_toList hl2) (by rw [h5, e])).1
    rw [hnone]
    refine ⟨zv, ?_, .ofCell zv⟩
    simp [execOp, Instr.lookup, hck, hcy, run_underlying hT, MapKept.run_getObj_map hh, MapKept.run_checkKey (d := .string) (k := .string s) hkt trivial, MapKept.run_findKey hkt h1, run_zero hz, Result.andThen]
  · obtain ⟨q, h4, h5, h6⟩ := hkey j e (by simpa using h2)
    have hqs : q.1 = s := by rw [h5] at h3; cases h3; rfl
    have := (find_at hn h4).1
    rw [hqs] at this
    rw [this]
    refine ⟨e.val, ?_, h6.weak rfl⟩
    simp [execOp, Instr.lookup, hck, hcy, run_underlying hT, MapKept.run_getObj_map hh, MapKept.run_checkKey (d := .string) (k := .string s) hkt trivial, MapKept.run_findKey hkt h1, Result.andThen]
theorem S_mapUpdate {T kt et : TypeId} {x y z : Operand} {b : Nat} {l : List (ByteArray × V)} {s : ByteArray} (hT : P.underlying T = some (.map kt et)) (hkt : P.underlying kt = some .string)
    (hx : ev ge st.tm x = .mp b) (hb : st.h[b]? = some (.map (smap l))) (hy : ev ge st.tm y = .str s) (hn : (l.map (·.1)).Nodup) (hv : (ev ge st.tm z).isF = true) :
    OpS P ge st ⟨d, .mapUpdate T x y z, t, p, af, g⟩ .void (st.h.set b (.map (smap (sput l s (ev ge st.tm z))))) := by
  intro G a w hr
  have hvx := hr.ev x
  have hvy := hr.ev y
  have hvz := (hr.ev z).frozen hv
  rw [hx] at hvx
  rw [hy] at hvy
  obtain ⟨k, hck, hm⟩ := inv_mp hvx
  have hcy := hvy.inv_str
  obtain ⟨h00, k', ents, clock, hm', hh, hs, hc⟩ := hr.rh.bl b _ hb
  rw [hm] at hm'; cases hm'
  obtain ⟨hks, hkey⟩ := ents_keys hs hc
  have hlt : k < w.heap.size := (Array.getElem?_eq_some_iff.1 hh).1
  have up : ∀ (ents' : Array MapEntry) (clock' : Nat) (l' : List (ByteArray × V)), ents'.size = l'.length →
      (∀ (i : Nat) (q : ByteArray × V) (c : MapEntry), l'[i]? = some q → ents'[i]? = some c → c.key = .string q.1 ∧ R G w true q.2 c.val) →
      RH P ge G (st.h.set b (.map (smap l'))) { w with heap := w.heap.setIfInBounds k (.map ents' clock') } ∧ Ext G st.h w G (st.h.set b (.map (smap l'))) { w with heap := w.heap.setIfInBounds k (.map ents' clock') } := by
    intro ents' clock' l' h1 h2
    have hother : ∀ k', k' ≠ k → (w.heap.setIfInBounds k (.map ents' clock'))[k']? = w.heap[k']? := (heap_set hh).2
    have le : GLe G w G { w with heap := w.heap.setIfInBounds k (.map ents' clock') } := ⟨fun _ => Nat.le_refl _, fun k' o ho => by
      by_cases e : k' = k
      · subst e
        simp [World.cell?, hh, (heap_set hh).1]
      · exact cell_eq (hother k' e), Nat.le_refl _, fun _ _ => Nat.le_refl _, fun _ _ _ _ => rfl, fun _ _ => rfl, fun _ _ _ _ => rfl⟩
    refine RH_upd hr.rh hb hm (by simp) hother rfl ⟨rfl, rfl⟩ le ⟨h00, k, ents', clock', hm, (heap_set hh).1, by simp [smap, h1], fun i e c he hcc => ?_⟩ hm
    rw [smap, List.getElem?_map] at he
    obtain ⟨q, hq, rfl⟩ := Option.map_eq_some_iff.1 he
    obtain ⟨h3, h4⟩ := h2 i q c hq hcc
    rw [h3]
    exact ⟨.str, h4.mono le⟩
  rcases findNow_spec (d := .string) (k := .string s) trivial ents.toList 0 hks with ⟨h1, h2⟩ | ⟨j, e, h1, h2, h3⟩
  · have hnone : l.findIdx? (fun p => p.1 = s) = none := (find_none fun q hq e => by
      obtain ⟨j, hj⟩ := List.getElem?_of_mem hq
      have hl := (List.getElem?_eq_some_iff.1 hj).1
      have hl2 : j < ents.size := by rw [hs]; simpa [smap] using hl
      obtain ⟨q', h4, h5, _⟩ := hkey j ents[j] (Array.getElem?_eq_getElem hl2)
      rw [hj] at h4; cases h4
      exact h2 ents[j] (Array.getElem_mem_toList hl2) (by rw [h5, e])).2
    have hsz : ents.size = l.length := by simpa [smap] using hs
    obtain ⟨r1, r2⟩ := up (ents.push { key := .string s, val := a.eval z, born := clock }) (clock + 1) (l ++ [(s, ev ge st.tm z)]) (by simp [hsz]) (fun i q c hq hcc => by
      rw [Array.getElem?_push] at hcc
      split at hcc
      · rename_i e
        cases hcc
        rw [hsz] at e
        subst e
        rw [List.getElem?_append_right (Nat.le_refl _), Nat.sub_self] at hq
        cases hq
        exact ⟨rfl, hvz⟩
      · have hi := (Array.getElem?_eq_some_iff.1 hcc).1
        rw [List.getElem?_append_left (by omega)] at hq
        obtain ⟨q', h4, h5, h6⟩ := hkey i c hcc
        rw [hq] at h4; cases h4
        exact ⟨h5, h6⟩)
    refine ⟨undef, G, { w with heap := w.heap.setIfInBounds k (.map (ents.push { key := .string s, val := a.eval z, born := clock }) (clock + 1)) }, .inr ⟨?_, rfl⟩, ?_, .void, ?_⟩
    rotate_left
    · unfold sput; rw [hnone]; exact r1
    · unfold sput; rw [hnone]; exact r2
    · simp [execOp, Instr.mapUpdate, hck, hcy, run_underlying hT, MapKept.run_getObj_map hh, MapKept.run_checkKey (d := .string) (k := .string s) hkt trivial, MapKept.run_findKey hkt h1, MapKept.run_setObj_map _ hh, Result.andThen]
  · have hj : ents[j]? = some e := by simpa using h2
    obtain ⟨q, h4, h5, h6⟩ := hkey j e hj
    have hqs : q.1 = s := by rw [h5] at h3; cases h3; rfl
    have hfi := (find_at hn h4).2
    rw [hqs] at hfi
    have hsz : ents.size = l.length := by simpa [smap] using hs
    have hjl := (List.getElem?_eq_some_iff.1 h4).1
    obtain ⟨r1, r2⟩ := up (ents.modify j fun e => { e with key := .string s, val := a.eval z }) clock (l.set j (s, ev ge st.tm z)) (by simp [hsz]) (fun i q' c hq hcc => by
      rw [Array.getElem?_modify] at hcc
      rw [List.getElem?_set] at hq
      split at hcc
      · rename_i e'
        subst e'
        rw [if_pos rfl, if_pos hjl] at hq
        rw [hj] at hcc
        cases hcc; cases hq
        exact ⟨rfl, hvz⟩
      · rename_i e'
        rw [if_neg e'] at hq
        obtain ⟨q'', h7, h8, h9⟩ := hkey i c hcc
        rw [hq] at h7; cases h7
        exact ⟨h8, h9⟩)
    refine ⟨undef, G, { w with heap := w.heap.setIfInBounds k (.map (ents.modify j fun e => { e with key := .string s, val := a.eval z }) clock) }, .inr ⟨?_, rfl⟩, ?_, .void, ?_⟩
    rotate_left
    · unfold sput; rw [hfi]; exact r1
    · unfold sput; rw [hfi]; exact r2
    · simp [execOp, Instr.mapUpdate, hck, hcy, run_underlying hT, MapKept.run_getObj_map hh, MapKept.run_checkKey (d := .string) (k := .string s) hkt trivial, MapKept.run_findKey hkt h1, hj, h3, MapKept.run_keyThatStays (d := .string) (k := .string s) trivial, MapKept.run_setObj_map _ hh, Result.andThen]
/-- An operation whose law is told by hand, in a walk. -/
theorem AS_op1 {ops : Array Oper} {op : Op} {rest : List Oper} {v : V} {h' : List B} (hd : dstOk st.n d = true) (ho : OpS P ge st ⟨d, op, t, p, af, none⟩ v h')
    (h : AO P ge ops Q rest ⟨st.n, putD d v st.tm, h'⟩) : AS P ge ops (⟨d, op, t, p, af, none⟩ :: rest) Q st := AS_op rfl hd ho (AS_of_AO h)
end
end Go.AM
end

section
set_option linter.unusedVariables false
namespace Go.Proofs.YtgmlimipejcpgaaGreatDoor
open Go Go.AM
theorem one_leB {H : Type} (d : DataW H) : 1 ≤ Rows.uptoBulk d := by
  cases d with
  | lit l => cases l <;> simp [Rows.uptoBulk]
  | nil => simp [Rows.uptoBulk]
  | ptr d => simp [Rows.uptoBulk]
  | slice elems spare => simp [Rows.uptoBulk]
  | agg parts => simp [Rows.uptoBulk]
  | iface t d => simp [Rows.uptoBulk]
  | map entries => simp [Rows.uptoBulk]
  | held h => simp [Rows.uptoBulk]
theorem part_leB {H : Type} {d : DataW H} {l : List (DataW H)} (h : d ∈ l) : Rows.uptoBulk d ≤ Rows.uptoBulkAll l := by
  induction l with
  | nil => cases h
  | cons x r ih =>
    simp only [Rows.uptoBulkAll]
    cases List.mem_cons.1 h with
    | inl e => subst e; omega
    | inr e => have := ih e; omega
theorem length_leB {H : Type} (l : List (DataW H)) : l.length ≤ Rows.uptoBulkAll l := by
  induction l with
  | nil => simp [Rows.uptoBulkAll]
  | cons x r ih => have := one_leB x; simp only [Rows.uptoBulkAll, List.length_cons]; omega
def KB : Bk where
  bk H d := Rows.uptoBulk d
  N := 1048576
  len es sp h := by
    simp only [Rows.uptoBulk] at h
    exact ⟨by have := length_leB es; omega, fun d hd => by have := part_leB hd; omega⟩
  agg ps h d hd := by
    simp only [Rows.uptoBulk] at h
    have := part_leB hd; omega
  str b h := by simp only [Rows.uptoBulk] at h; omega
def I64 (n : Int) : Prop := -9223372036854775808 ≤ n ∧ n ≤ 9223372036854775807
theorem wf64 {n : Int} (h : (Lit.int .i64 n).wf = true) : I64 n := by
  have : -9223372036854775808 ≤ n ∧ n ≤ 9223372036854775807 := by simpa [Lit.wf, IntKind.min, IntKind.max, IntKind.signed, IntKind.bits] using h
  exact this
theorem wfu8 {n : Int} (h : (Lit.int .u8 n).wf = true) : 0 ≤ n ∧ n ≤ 255 := by
  simpa [Lit.wf, IntKind.min, IntKind.max, IntKind.signed, IntKind.bits] using h
theorem wrap_i64 {n : Int} (h1 : -9223372036854775808 ≤ n) (h2 : n ≤ 9223372036854775807) : IntKind.i64.wrap n = n := by
  unfold IntKind.wrap; simp [IntKind.bits, IntKind.signed]; omega
theorem mixed : Tryz.prog.follows .mixedOrders = true := by decide
/-- A slice of data. -/
def vl {α : Type} (c : α → List V) (l : List α) : V := .vec (l.map c) l.length
end Go.Proofs.YtgmlimipejcpgaaGreatDoor
end

section
set_option linter.unusedVariables false
namespace Go.Proofs.YtgmlimipejcpgaaGreatDoor
open Go Go.AM
theorem zco9 : Tryz.prog.cellsOf 9 = 1 := by kernel_rfl
structure VarD where
  name : ByteArray
  lo : Int
  hi : Int
  init : Int
  deriving DecidableEq, Inhabited
def VarD.cells (x : VarD) : List V := [.str x.name, .int .i64 x.lo, .int .i64 x.hi, .int .i64 x.init]
def VarD.ok (x : VarD) : Prop := x.name.size ≤ 1048576 ∧ I64 x.lo ∧ I64 x.hi ∧ I64 x.init
theorem zco3 : Tryz.prog.cellsOf 3 = 1 := by kernel_rfl
theorem zco167 : Tryz.prog.cellsOf 167 = 4 := by kernel_rfl
theorem rnVarD : RdN KB Tryz.prog 167 VarD.cells VarD.ok :=
  (RdN_struct Tryz.underlying167 zco167 (RdNs_cons rfl zco9 (RdN_string Tryz.underlying9) (fun _ => rfl) (RdNs_cons rfl zco3 (RdN_int Tryz.underlying3) (fun _ => rfl) (RdNs_cons rfl zco3 (RdN_int Tryz.underlying3) (fun _ => rfl) (RdNs_cons rfl zco3 (RdN_int Tryz.underlying3) (fun _ => rfl) (RdNs_nil rfl)))))).map
    (fun p => ⟨p.1, p.2.1, p.2.2.1, p.2.2.2.1⟩) (fun _ => rfl) (fun p h => ⟨(h.1).2, wf64 h.2.1, wf64 h.2.2.1, wf64 h.2.2.2.1⟩)
@[simp] theorem VarD.cells_len (x : VarD) : x.cells.length = 4 := rfl
structure GuardD where
  clock : Int
  other : Int
  cmp : Int
  n : Int
  deriving DecidableEq, Inhabited
def GuardD.cells (x : GuardD) : List V := [.int .i64 x.clock, .int .i64 x.other, .int .u8 x.cmp, .int .i64 x.n]
def GuardD.ok (x : GuardD) : Prop := I64 x.clock ∧ I64 x.other ∧ (0 ≤ x.cmp ∧ x.cmp ≤ 255) ∧ I64 x.n
theorem zco125 : Tryz.prog.cellsOf 125 = 1 := by kernel_rfl
theorem zco127 : Tryz.prog.cellsOf 127 = 4 := by kernel_rfl
theorem rnGuardD : RdN KB Tryz.prog 127 GuardD.cells GuardD.ok :=
  (RdN_struct Tryz.underlying127 zco127 (RdNs_cons rfl zco3 (RdN_int Tryz.underlying3) (fun _ => rfl) (RdNs_cons rfl zco3 (RdN_int Tryz.underlying3) (fun _ => rfl) (RdNs_cons rfl zco125 (RdN_int Tryz.underlying125) (fun _ => rfl) (RdNs_cons rfl zco3 (RdN_int Tryz.underlying3) (fun _ => rfl) (RdNs_nil rfl)))))).map
    (fun p => ⟨p.1, p.2.1, p.2.2.1, p.2.2.2.1⟩) (fun _ => rfl) (fun p h => ⟨wf64 h.1, wf64 h.2.1, wfu8 h.2.2.1, wf64 h.2.2.2.1⟩)
@[simp] theorem GuardD.cells_len (x : GuardD) : x.cells.length = 4 := rfl
structure LocD where
  name : ByteArray
  kind : Int
  inv : List GuardD
  deriving DecidableEq, Inhabited
def LocD.cells (x : LocD) : List V := [.str x.name, .int .u8 x.kind, vl GuardD.cells x.inv]
def LocD.ok (x : LocD) : Prop := x.name.size ≤ 1048576 ∧ (0 ≤ x.kind ∧ x.kind ≤ 255) ∧ (x.inv.length ≤ 1048576 ∧ ∀ a ∈ x.inv, a.ok)
theorem zco106 : Tryz.prog.cellsOf 106 = 1 := by kernel_rfl
theorem zco105 : Tryz.prog.cellsOf 105 = 1 := by kernel_rfl
theorem zco108 : Tryz.prog.cellsOf 108 = 3 := by kernel_rfl
theorem rnLocD : RdN KB Tryz.prog 108 LocD.cells LocD.ok :=
  (RdN_struct Tryz.underlying108 zco108 (RdNs_cons rfl zco9 (RdN_string Tryz.underlying9) (fun _ => rfl) (RdNs_cons rfl zco105 (RdN_int Tryz.underlying105) (fun _ => rfl) (RdNs_cons rfl zco106 (RdN_slice Tryz.underlying106 (by rw [zco127]; decide) rnGuardD (fun _ => by rw [zco127]; rfl)) (fun _ => rfl) (RdNs_nil rfl))))).map
    (fun p => ⟨p.1, p.2.1, p.2.2.1⟩) (fun _ => rfl) (fun p h => ⟨(h.1).2, wfu8 h.2.1, ⟨(h.2.2.1).1, fun a ha => ((h.2.2.1).2 a ha)⟩⟩)
@[simp] theorem LocD.cells_len (x : LocD) : x.cells.length = 3 := rfl
structure NodeD where
  op : Int
  n : Int
  deriving DecidableEq, Inhabited
def NodeD.cells (x : NodeD) : List V := [.int .u8 x.op, .int .i64 x.n]
def NodeD.ok (x : NodeD) : Prop := (0 ≤ x.op ∧ x.op ≤ 255) ∧ I64 x.n
theorem zco162 : Tryz.prog.cellsOf 162 = 1 := by kernel_rfl
theorem zco164 : Tryz.prog.cellsOf 164 = 2 := by kernel_rfl
theorem rnNodeD : RdN KB Tryz.prog 164 NodeD.cells NodeD.ok :=
  (RdN_struct Tryz.underlying164 zco164 (RdNs_cons rfl zco162 (RdN_int Tryz.underlying162) (fun _ => rfl) (RdNs_cons rfl zco3 (RdN_int Tryz.underlying3) (fun _ => rfl) (RdNs_nil rfl)))).map
    (fun p => ⟨p.1, p.2.1⟩) (fun _ => rfl) (fun p h => ⟨wfu8 h.1, wf64 h.2.1⟩)
@[simp] theorem NodeD.cells_len (x : NodeD) : x.cells.length = 2 := rfl
structure SetD where
  clock : Int
  n : Int
  var : Int
  expr : List NodeD
  deriving DecidableEq, Inhabited
def SetD.cells (x : SetD) : List V := [.int .i64 x.clock, .int .i64 x.n, .int .i64 x.var, vl NodeD.cells x.expr]
def SetD.ok (x : SetD) : Prop := I64 x.clock ∧ I64 x.n ∧ I64 x.var ∧ (x.expr.length ≤ 1048576 ∧ ∀ a ∈ x.expr, a.ok)
theorem zco110 : Tryz.prog.cellsOf 110 = 1 := by kernel_rfl
theorem zco116 : Tryz.prog.cellsOf 116 = 4 := by kernel_rfl
theorem rnSetD : RdN KB Tryz.prog 116 SetD.cells SetD.ok :=
  (RdN_struct Tryz.underlying116 zco116 (RdNs_cons rfl zco3 (RdN_int Tryz.underlying3) (fun _ => rfl) (RdNs_cons rfl zco3 (RdN_int Tryz.underlying3) (fun _ => rfl) (RdNs_cons rfl zco3 (RdN_int Tryz.underlying3) (fun _ => rfl) (RdNs_cons rfl zco110 (RdN_slice Tryz.underlying110 (by rw [zco164]; decide) rnNodeD (fun _ => by rw [zco164]; rfl)) (fun _ => rfl) (RdNs_nil rfl)))))).map
    (fun p => ⟨p.1, p.2.1, p.2.2.1, p.2.2.2.1⟩) (fun _ => rfl) (fun p h => ⟨wf64 h.1, wf64 h.2.1, wf64 h.2.2.1, ⟨(h.2.2.2.1).1, fun a ha => ((h.2.2.2.1).2 a ha)⟩⟩)
@[simp] theorem SetD.cells_len (x : SetD) : x.cells.length = 4 := rfl
structure EdgeD where
  frm : Int
  to : Int
  guards : List GuardD
  test : List NodeD
  chan : Int
  send : Bool
  sets : List SetD
  deriving DecidableEq, Inhabited
def EdgeD.cells (x : EdgeD) : List V := [.int .i64 x.frm, .int .i64 x.to, vl GuardD.cells x.guards, vl NodeD.cells x.test, .int .i64 x.chan, .bool x.send, vl SetD.cells x.sets]
def EdgeD.ok (x : EdgeD) : Prop := I64 x.frm ∧ I64 x.to ∧ (x.guards.length ≤ 1048576 ∧ ∀ a ∈ x.guards, a.ok) ∧ (x.test.length ≤ 1048576 ∧ ∀ a ∈ x.test, a.ok) ∧ I64 x.chan ∧ True ∧ (x.sets.length ≤ 1048576 ∧ ∀ a ∈ x.sets, a.ok)
theorem zco111 : Tryz.prog.cellsOf 111 = 1 := by kernel_rfl
theorem zco4 : Tryz.prog.cellsOf 4 = 1 := by kernel_rfl
theorem zco113 : Tryz.prog.cellsOf 113 = 7 := by kernel_rfl
theorem rnEdgeD : RdN KB Tryz.prog 113 EdgeD.cells EdgeD.ok :=
  (RdN_struct Tryz.underlying113 zco113 (RdNs_cons rfl zco3 (RdN_int Tryz.underlying3) (fun _ => rfl) (RdNs_cons rfl zco3 (RdN_int Tryz.underlying3) (fun _ => rfl) (RdNs_cons rfl zco106 (RdN_slice Tryz.underlying106 (by rw [zco127]; decide) rnGuardD (fun _ => by rw [zco127]; rfl)) (fun _ => rfl) (RdNs_cons rfl zco110 (RdN_slice Tryz.underlying110 (by rw [zco164]; decide) rnNodeD (fun _ => by rw [zco164]; rfl)) (fun _ => rfl) (RdNs_cons rfl zco3 (RdN_int Tryz.underlying3) (fun _ => rfl) (RdNs_cons rfl zco4 (RdN_bool Tryz.underlying4) (fun _ => rfl) (RdNs_cons rfl zco111 (RdN_slice Tryz.underlying111 (by rw [zco116]; decide) rnSetD (fun _ => by rw [zco116]; rfl)) (fun _ => rfl) (RdNs_nil rfl))))))))).map
    (fun p => ⟨p.1, p.2.1, p.2.2.1, p.2.2.2.1, p.2.2.2.2.1, p.2.2.2.2.2.1, p.2.2.2.2.2.2.1⟩) (fun _ => rfl) (fun p h => ⟨wf64 h.1, wf64 h.2.1, ⟨(h.2.2.1).1, fun a ha => ((h.2.2.1).2 a ha)⟩, ⟨(h.2.2.2.1).1, fun a ha => ((h.2.2.2.1).2 a ha)⟩, wf64 h.2.2.2.2.1, trivial, ⟨(h.2.2.2.2.2.2.1).1, fun a ha => ((h.2.2.2.2.2.2.1).2 a ha)⟩⟩)
@[simp] theorem EdgeD.cells_len (x : EdgeD) : x.cells.length = 7 := rfl
structure AutoD where
  name : ByteArray
  locs : List LocD
  edges : List EdgeD
  deriving DecidableEq, Inhabited
def AutoD.cells (x : AutoD) : List V := [.str x.name, vl LocD.cells x.locs, vl EdgeD.cells x.edges]
def AutoD.ok (x : AutoD) : Prop := x.name.size ≤ 1048576 ∧ (x.locs.length ≤ 1048576 ∧ ∀ a ∈ x.locs, a.ok) ∧ (x.edges.length ≤ 1048576 ∧ ∀ a ∈ x.edges, a.ok)
theorem zco102 : Tryz.prog.cellsOf 102 = 1 := by kernel_rfl
theorem zco101 : Tryz.prog.cellsOf 101 = 1 := by kernel_rfl
theorem zco104 : Tryz.prog.cellsOf 104 = 3 := by kernel_rfl
theorem rnAutoD : RdN KB Tryz.prog 104 AutoD.cells AutoD.ok :=
  (RdN_struct Tryz.underlying104 zco104 (RdNs_cons rfl zco9 (RdN_string Tryz.underlying9) (fun _ => rfl) (RdNs_cons rfl zco101 (RdN_slice Tryz.underlying101 (by rw [zco108]; decide) rnLocD (fun _ => by rw [zco108]; rfl)) (fun _ => rfl) (RdNs_cons rfl zco102 (RdN_slice Tryz.underlying102 (by rw [zco113]; decide) rnEdgeD (fun _ => by rw [zco113]; rfl)) (fun _ => rfl) (RdNs_nil rfl))))).map
    (fun p => ⟨p.1, p.2.1, p.2.2.1⟩) (fun _ => rfl) (fun p h => ⟨(h.1).2, ⟨(h.2.1).1, fun a ha => ((h.2.1).2 a ha)⟩, ⟨(h.2.2.1).1, fun a ha => ((h.2.2.1).2 a ha)⟩⟩)
@[simp] theorem AutoD.cells_len (x : AutoD) : x.cells.length = 3 := rfl
structure NetD where
  clocks : List ByteArray
  vars : List VarD
  chans : List ByteArray
  autos : List AutoD
  deriving DecidableEq, Inhabited
def NetD.cells (x : NetD) : List V := [vl (fun x => [.str x]) x.clocks, vl VarD.cells x.vars, vl (fun x => [.str x]) x.chans, vl AutoD.cells x.autos]
def NetD.ok (x : NetD) : Prop := (x.clocks.length ≤ 1048576 ∧ ∀ a ∈ x.clocks, a.size ≤ 1048576) ∧ (x.vars.length ≤ 1048576 ∧ ∀ a ∈ x.vars, a.ok) ∧ (x.chans.length ≤ 1048576 ∧ ∀ a ∈ x.chans, a.size ≤ 1048576) ∧ (x.autos.length ≤ 1048576 ∧ ∀ a ∈ x.autos, a.ok)
theorem zco24 : Tryz.prog.cellsOf 24 = 1 := by kernel_rfl
theorem zco22 : Tryz.prog.cellsOf 22 = 1 := by kernel_rfl
theorem zco23 : Tryz.prog.cellsOf 23 = 1 := by kernel_rfl
theorem zco26 : Tryz.prog.cellsOf 26 = 4 := by kernel_rfl
theorem rnNetD : RdN KB Tryz.prog 26 NetD.cells NetD.ok :=
  (RdN_struct Tryz.underlying26 zco26 (RdNs_cons rfl zco22 (RdN_slice Tryz.underlying22 (by rw [zco9]; decide) (RdN_string Tryz.underlying9) (fun _ => by rw [zco9]; rfl)) (fun _ => rfl) (RdNs_cons rfl zco23 (RdN_slice Tryz.underlying23 (by rw [zco167]; decide) rnVarD (fun _ => by rw [zco167]; rfl)) (fun _ => rfl) (RdNs_cons rfl zco22 (RdN_slice Tryz.underlying22 (by rw [zco9]; decide) (RdN_string Tryz.underlying9) (fun _ => by rw [zco9]; rfl)) (fun _ => rfl) (RdNs_cons rfl zco24 (RdN_slice Tryz.underlying24 (by rw [zco104]; decide) rnAutoD (fun _ => by rw [zco104]; rfl)) (fun _ => rfl) (RdNs_nil rfl)))))).map
    (fun p => ⟨p.1, p.2.1, p.2.2.1, p.2.2.2.1⟩) (fun _ => rfl) (fun p h => ⟨⟨(h.1).1, fun a ha => (((h.1).2 a ha)).2⟩, ⟨(h.2.1).1, fun a ha => ((h.2.1).2 a ha)⟩, ⟨(h.2.2.1).1, fun a ha => (((h.2.2.1).2 a ha)).2⟩, ⟨(h.2.2.2.1).1, fun a ha => ((h.2.2.2.1).2 a ha)⟩⟩)
@[simp] theorem NetD.cells_len (x : NetD) : x.cells.length = 4 := rfl
structure AtD where
  auto : Int
  loc : Int
  deriving DecidableEq, Inhabited
def AtD.cells (x : AtD) : List V := [.int .i64 x.auto, .int .i64 x.loc]
def AtD.ok (x : AtD) : Prop := I64 x.auto ∧ I64 x.loc
theorem zco171 : Tryz.prog.cellsOf 171 = 2 := by kernel_rfl
theorem rnAtD : RdN KB Tryz.prog 171 AtD.cells AtD.ok :=
  (RdN_struct Tryz.underlying171 zco171 (RdNs_cons rfl zco3 (RdN_int Tryz.underlying3) (fun _ => rfl) (RdNs_cons rfl zco3 (RdN_int Tryz.underlying3) (fun _ => rfl) (RdNs_nil rfl)))).map
    (fun p => ⟨p.1, p.2.1⟩) (fun _ => rfl) (fun p h => ⟨wf64 h.1, wf64 h.2.1⟩)
@[simp] theorem AtD.cells_len (x : AtD) : x.cells.length = 2 := rfl
structure PartD where
  locs : List AtD
  guards : List GuardD
  test : List NodeD
  deriving DecidableEq, Inhabited
def PartD.cells (x : PartD) : List V := [vl AtD.cells x.locs, vl GuardD.cells x.guards, vl NodeD.cells x.test]
def PartD.ok (x : PartD) : Prop := (x.locs.length ≤ 1048576 ∧ ∀ a ∈ x.locs, a.ok) ∧ (x.guards.length ≤ 1048576 ∧ ∀ a ∈ x.guards, a.ok) ∧ (x.test.length ≤ 1048576 ∧ ∀ a ∈ x.test, a.ok)
theorem zco128 : Tryz.prog.cellsOf 128 = 1 := by kernel_rfl
theorem zco130 : Tryz.prog.cellsOf 130 = 3 := by kernel_rfl
theorem rnPartD : RdN KB Tryz.prog 130 PartD.cells PartD.ok :=
  (RdN_struct Tryz.underlying130 zco130 (RdNs_cons rfl zco128 (RdN_slice Tryz.underlying128 (by rw [zco171]; decide) rnAtD (fun _ => by rw [zco171]; rfl)) (fun _ => rfl) (RdNs_cons rfl zco106 (RdN_slice Tryz.underlying106 (by rw [zco127]; decide) rnGuardD (fun _ => by rw [zco127]; rfl)) (fun _ => rfl) (RdNs_cons rfl zco110 (RdN_slice Tryz.underlying110 (by rw [zco164]; decide) rnNodeD (fun _ => by rw [zco164]; rfl)) (fun _ => rfl) (RdNs_nil rfl))))).map
    (fun p => ⟨p.1, p.2.1, p.2.2.1⟩) (fun _ => rfl) (fun p h => ⟨⟨(h.1).1, fun a ha => ((h.1).2 a ha)⟩, ⟨(h.2.1).1, fun a ha => ((h.2.1).2 a ha)⟩, ⟨(h.2.2.1).1, fun a ha => ((h.2.2.1).2 a ha)⟩⟩)
@[simp] theorem PartD.cells_len (x : PartD) : x.cells.length = 3 := rfl
end Go.Proofs.YtgmlimipejcpgaaGreatDoor
end

section
set_option linter.unusedVariables false
namespace Go.Proofs.YtgmlimipejcpgaaGreatDoor
open Go Go.AM Fx
def keptV : List V := [.str ⟨#[99, 108, 111, 99, 107]⟩, .str ⟨#[105, 110, 116]⟩, .str ⟨#[99, 104, 97, 110]⟩, .str ⟨#[97, 117, 116, 111]⟩, .str ⟨#[108, 111, 99]⟩, .str ⟨#[101, 100, 103, 101]⟩, .str ⟨#[105, 110]⟩, .str ⟨#[105, 110, 118]⟩, .str ⟨#[119, 104, 101, 110]⟩, .str ⟨#[115, 121, 110, 99]⟩, .str ⟨#[100, 111]⟩, .str ⟨#[117, 114, 103, 101, 110, 116]⟩, .str ⟨#[99, 111, 109, 109, 105, 116, 116, 101, 100]⟩, .str ⟨#[116, 114, 117, 101]⟩, .str ⟨#[114, 101, 97, 99, 104]⟩, .str ⟨#[110, 101, 118, 101, 114]⟩]
def kindsV : List V := [.int .i64 0, .bool false, .bool false, .str ⟨#[]⟩, .int .i64 0, .int .i64 0, .bool false, .bool false, .str ⟨#[]⟩, .int .i64 9, .int .i64 0, .bool false, .bool false, .str ⟨#[]⟩, .int .i64 9, .int .i64 1, .bool false, .bool false, .str ⟨#[45]⟩, .int .i64 6, .int .i64 2, .bool false, .bool false, .str ⟨#[43]⟩, .int .i64 4, .int .i64 2, .bool false, .bool false, .str ⟨#[45]⟩, .int .i64 4, .int .i64 2, .bool false, .bool false, .str ⟨#[42]⟩, .int .i64 5, .int .i64 0, .bool true, .bool false, .str ⟨#[116, 114, 117, 101]⟩, .int .i64 9, .int .i64 2, .bool true, .bool false, .str ⟨#[60]⟩, .int .i64 3, .int .i64 2, .bool true, .bool false, .str ⟨#[60, 61]⟩, .int .i64 3, .int .i64 2, .bool true, .bool false, .str ⟨#[61, 61]⟩, .int .i64 3, .int .i64 2, .bool true, .bool false, .str ⟨#[33, 61]⟩, .int .i64 3, .int .i64 1, .bool true, .bool true, .str ⟨#[33]⟩, .int .i64 9, .int .i64 2, .bool true, .bool true, .str ⟨#[38, 38]⟩, .int .i64 2, .int .i64 2, .bool true, .bool true, .str ⟨#[124, 124]⟩, .int .i64 1]
def GV : GEnv := fun g => if g = 0 then some keptV else if g = 1 then some kindsV else none
abbrev PC := PCall Tryz.prog GV
@[simp] theorem GV0 : GV 0 = some keptV := rfl
@[simp] theorem GV1 : GV 1 = some kindsV := rfl
end Go.Proofs.YtgmlimipejcpgaaGreatDoor
end

section
set_option linter.unusedVariables false
set_option linter.unusedSimpArgs false
namespace Go.AM
/-- What reads as this datum stands for these cells. -/
def RdX (P : Program) (T : TypeId) (d : DataW Unit) (vs : List V) : Prop :=
  ∀ (enc : TypeId × Value → Unit) (w : World) (held : Bool) (fuel : Nat) (cs : List Value) (p : List MemPlace), DataW.trod enc P w 0 (fun _ => true) held fuel T cs = some (d, p) → RdCells w vs cs
section
variable {P : Program} {T : TypeId}
theorem RdX_int {k : IntKind} {n : Int} (ht : P.underlying T = some (.int k)) : RdX P T (.lit (.int k n)) [.int k n] := fun enc w held fuel cs p hx => by
  obtain ⟨m, rfl, h, _⟩ := DataW.trod_int ht hx
  cases h
  exact .one rfl .int
theorem RdX_bool {b : Bool} (ht : P.underlying T = some .bool) : RdX P T (.lit (.bool b)) [.bool b] := fun enc w held fuel cs p hx => by
  obtain ⟨m, rfl, h⟩ := DataW.trod_bool ht hx
  cases h
  exact .one rfl .bool
theorem RdX_string {l : List UInt8} (ht : P.underlying T = some .string) : RdX P T (.lit (.string l)) [.str ⟨l.toArray⟩] := fun enc w held fuel cs p hx => by
  obtain ⟨s, rfl, h, _⟩ := DataW.trod_string ht hx
  cases h
  exact .one rfl .str
theorem rd_aux {enc : TypeId × Value → Unit} {w : World} {held : Bool} {m : Nat} {e : TypeId} {sz : Nat} {cs : List Value} : ∀ (l : List (DataW Unit × List V)) (i0 : Nat), (∀ p ∈ l, RdX P e p.1 p.2 ∧ p.2.length = sz) →
    (∀ (i : Nat) (x : DataW Unit × List V), l[i]? = some x → ∃ q, DataW.trod enc P w 0 (fun _ => true) held m e ((cs.drop ((i0 + i) * sz)).take sz) = some (x.1, q)) → (i0 + l.length) * sz = cs.length →
    RdCells w (l.flatMap (·.2)) (cs.drop (i0 * sz))
  | [], i0, _, _, hl => by
    rw [List.drop_eq_nil_of_le (by simp at hl; omega)]
    exact ⟨rfl, fun i v hv => by simp at hv⟩
  | x :: r, i0, h, hx, hl => by
    obtain ⟨h1, h2⟩ := h x (.head _)
    obtain ⟨q, hq⟩ := hx 0 x rfl
    have h3 := h1 enc w held m _ q hq
    have h4 := rd_aux r (i0 + 1) (fun p hp => h p (.tail _ hp)) (fun i y hy => by
      have := hx (i + 1) y (by simpa using hy)
      rw [show i0 + (i + 1) = i0 + 1 + i by omega] at this; exact this) (by rw [← hl, List.length_cons]; congr 1; omega)
    rw [List.flatMap_cons]
    refine RdCells.append h2 h3 ?_
    rw [List.drop_drop]
    rw [show i0 * sz + sz = (i0 + 1) * sz by rw [Nat.add_mul, Nat.one_mul]]
    exact h4
theorem RdX_array {n : Nat} {e : TypeId} {sz : Nat} (ht : P.underlying T = some (.array n e)) (hc : P.cellsOf T = n * sz) (hs : P.cellsOf e = sz) (l : List (DataW Unit × List V)) (hn : l.length = n) (h : ∀ p ∈ l, RdX P e p.1 p.2 ∧ p.2.length = sz) :
    RdX P T (.agg (l.map (·.1))) (l.flatMap (·.2)) := fun enc w held fuel cs p hx => by
  obtain ⟨xs, m, _, he, h1, h2, h3⟩ := DataW.trod_array ht hx
  have hd : l.map (·.1) = xs.map (·.1) := by
    have := congrArg Prod.fst he
    simpa using this
  have := rd_aux (P := P) (enc := enc) (w := w) (held := held) (m := m) (e := e) (sz := sz) (cs := cs) l 0 h (fun i x hx => by
    have hi : i < n := by rw [← hn]; exact (List.getElem?_eq_some_iff.1 hx).1
    have h4 := h3 i hi
    rw [hs] at h4
    rw [Nat.zero_add, h4]
    have h5 : (l.map (·.1))[i]? = some x.1 := by rw [List.getElem?_map, hx]; rfl
    rw [hd, List.getElem?_map] at h5
    obtain ⟨y, h6, h7⟩ := Option.map_eq_some_iff.1 h5
    exact ⟨y.2, by rw [h6, ← h7]⟩) (by rw [Nat.zero_add, hn, h1, hc])
  simpa using this
/-- A struct's fields from one on. -/
def RdXs (P : Program) (tot : Nat) (fs : List Field) (off : Nat) (ds : List (DataW Unit)) (vs : List V) : Prop :=
  ∀ (enc : TypeId × Value → Unit) (w : World) (held : Bool) (n : Nat) (cs : List Value) (xs : List (DataW Unit × List MemPlace)), cs.length = tot → xs.length = fs.length →
    (∀ (i : Nat) (g : Field), fs[i]? = some g → DataW.trod enc P w 0 (fun _ => true) held n g.type ((cs.drop g.offset).take (P.cellsOf g.type)) = xs[i]?) → xs.map (·.1) = ds → RdCells w vs (cs.drop off)
theorem RdXs_nil {tot off : Nat} (h : off = tot) : RdXs P tot [] off [] [] :=
  fun enc w held n cs xs hl _ _ _ => by rw [List.drop_eq_nil_of_le (by omega)]; exact ⟨rfl, fun i v hv => by simp at hv⟩
theorem RdXs_cons {tot off sz : Nat} {fd : Field} {fs : List Field} {d : DataW Unit} {v : List V} {ds : List (DataW Unit)} {vs : List V} (ho : fd.offset = off) (hs : P.cellsOf fd.type = sz) (h : RdX P fd.type d v) (hlen : v.length = sz)
    (h' : RdXs P tot fs (off + sz) ds vs) : RdXs P tot (fd :: fs) off (d :: ds) (v ++ vs) :=
  fun enc w held n cs xs hl hxl hx hd => by
    cases xs with
    | nil => simp at hxl
    | cons x xs =>
      simp only [List.map_cons, List.cons.injEq] at hd
      have h0 := hx 0 fd rfl
      have h1 := h enc w held n _ x.2 (by rw [← hd.1]; exact h0)
      have h4 := h' enc w held n cs xs hl (by simpa using hxl) (fun i g hg => by simpa using hx (i + 1) g (by simpa using hg)) hd.2
      rw [ho, hs] at h1
      rw [← List.drop_drop] at h4
      exact .append hlen h1 h4
theorem RdX_struct {fs : Array Field} {tot : Nat} {ds : List (DataW Unit)} {vs : List V} (ht : P.underlying T = some (.struct fs)) (hc : P.cellsOf T = tot) (h : RdXs P tot fs.toList 0 ds vs) : RdX P T (.agg ds) vs :=
  fun enc w held fuel cs p hx => by
    obtain ⟨xs, n, _, he, h1, h2, h3⟩ := DataW.trod_struct ht hx
    have hd : ds = xs.map (·.1) := by
      have := congrArg Prod.fst he
      simpa using this
    have := h enc w held n cs xs (by rw [h1, hc]) (by simpa using h2) (fun i g hg => h3 i g (by simpa using hg)) hd.symm
    simpa using this
/-- A package variable's cells, as frozen ones. -/
theorem fp_of_var {n : String} {g : Nat} {w : World} {cs : Array Value} {vs : List V} (hg : P.globalNamed n = some g) (hv : w.var? P n = some cs) (h : RdCells w vs cs.toList) : R (Gall w) w true (.fp vs 0) (.pointer (some ⟨g, 0, none⟩)) := by
  have hc : ∀ (j : Nat) (v : V), vs[j]? = some v → w.cell? ⟨g, 0 + j, none⟩ = some (cs.toList.getD j undef) := fun j v hv' => by
    have hj : j < cs.toList.length := by rw [← h.1]; exact (List.getElem?_eq_some_iff.1 hv').1
    rw [Nat.zero_add, World.var?_cell hg hv j]
    have hj' : j < cs.size := by simpa using hj
    rw [Array.getElem?_eq_getElem hj', List.getD, List.getElem?_eq_getElem hj]
    simp
  have hd : ∀ (j : Nat) (v : V), vs[j]? = some v → cellD w g (0 + j) = cs.toList.getD j undef := fun j v hv' => by unfold cellD; rw [hc j v hv']; rfl
  refine .fp (fun j v hv' => ⟨by rw [hc j v hv']; rfl, Gall_cell (hc j v hv')⟩) (fun j v hv' => ?_) (fun j v hv' => ?_)
  · rw [hd j v hv']; exact (h.2 j v hv').1
  · rw [hd j v hv']; exact (h.2 j v hv').2
end
end Go.AM
end

section
set_option linter.unusedVariables false
namespace Go.Proofs.YtgmlimipejcpgaaGreatDoor
open Go Go.AM
theorem laidOut : laidOutB Tryz.prog = true := by kernel_rfl
theorem ownNone : ownKnob Tryz.prog.godebug = none := by kernel_rfl
def keptBytes : List (List UInt8) := [[99, 108, 111, 99, 107], [105, 110, 116], [99, 104, 97, 110], [97, 117, 116, 111], [108, 111, 99], [101, 100, 103, 101], [105, 110], [105, 110, 118], [119, 104, 101, 110], [115, 121, 110, 99], [100, 111], [117, 114, 103, 101, 110, 116], [99, 111, 109, 109, 105, 116, 116, 101, 100], [116, 114, 117, 101], [114, 101, 97, 99, 104], [110, 101, 118, 101, 114]]
def kindRows : List (Int × Bool × Bool × List UInt8 × Int) := [(0, false, false, [], 0), (0, false, false, [], 9), (0, false, false, [], 9), (1, false, false, [45], 6), (2, false, false, [43], 4), (2, false, false, [45], 4), (2, false, false, [42], 5), (0, true, false, [116, 114, 117, 101], 9), (2, true, false, [60], 3), (2, true, false, [60, 61], 3), (2, true, false, [61, 61], 3), (2, true, false, [33, 61], 3), (1, true, true, [33], 9), (2, true, true, [38, 38], 2), (2, true, true, [124, 124], 1)]
theorem co9 : Tryz.prog.cellsOf 9 = 1 := by kernel_rfl
theorem co3 : Tryz.prog.cellsOf 3 = 1 := by kernel_rfl
theorem co4 : Tryz.prog.cellsOf 4 = 1 := by kernel_rfl
theorem co243 : Tryz.prog.cellsOf 243 = 5 := by kernel_rfl
theorem co259 : Tryz.prog.cellsOf 259 = 16 * 1 := by kernel_rfl
theorem co261 : Tryz.prog.cellsOf 261 = 15 * 5 := by kernel_rfl
def keptPairs : List (DataW Unit × List V) := keptBytes.map fun s => (.lit (.string s), [.str ⟨s.toArray⟩])
def kindPairs : List (DataW Unit × List V) := kindRows.map fun x => (.agg [.lit (.int .i64 x.1), .lit (.bool x.2.1), .lit (.bool x.2.2.1), .lit (.string x.2.2.2.1), .lit (.int .i64 x.2.2.2.2)], [.int .i64 x.1, .bool x.2.1, .bool x.2.2.1, .str ⟨x.2.2.2.1.toArray⟩, .int .i64 x.2.2.2.2])
set_option maxRecDepth 100000 in
theorem rdKept : RdX Tryz.prog 259 Rows.laid_gnomon_lex_kept keptV := by
  have h := RdX_array (P := Tryz.prog) (T := 259) (n := 16) (e := 9) (sz := 1) Tryz.underlying259 co259 co9 keptPairs rfl (fun p hp => by
    obtain ⟨s, _, rfl⟩ := List.mem_map.1 hp
    exact ⟨RdX_string Tryz.underlying9, rfl⟩)
  exact h
set_option maxRecDepth 100000 in
theorem rdKinds : RdX Tryz.prog 261 Rows.laid_gnomon_expr_kinds kindsV := by
  have h := RdX_array (P := Tryz.prog) (T := 261) (n := 15) (e := 243) (sz := 5) Tryz.underlying261 co261 co243 kindPairs rfl (fun p hp => by
    obtain ⟨x, _, rfl⟩ := List.mem_map.1 hp
    refine ⟨?_, rfl⟩
    exact RdX_struct Tryz.underlying243 co243 (RdXs_cons rfl co3 (RdX_int Tryz.underlying3) rfl (RdXs_cons rfl co4 (RdX_bool Tryz.underlying4) rfl (RdXs_cons rfl co4 (RdX_bool Tryz.underlying4) rfl (RdXs_cons rfl co9 (RdX_string Tryz.underlying9) rfl (RdXs_cons rfl co3 (RdX_int Tryz.underlying3) rfl (RdXs_nil rfl)))))))
  exact h
theorem gKept : Tryz.prog.globalNamed "gnomon/lex.kept" = some 0 := by kernel_rfl
theorem gKinds : Tryz.prog.globalNamed "gnomon/expr.kinds" = some 1 := by kernel_rfl
theorem tKept : (Tryz.prog.globals[0]?).map (·.type) = some 259 := by kernel_rfl
theorem tKinds : (Tryz.prog.globals[1]?).map (·.type) = some 261 := by kernel_rfl
/-- What all rows of this seat list. -/
def laidAll : List (String × DataW Unit) := [("gnomon/expr.kinds", Rows.laid_gnomon_expr_kinds), ("gnomon/lex.kept", Rows.laid_gnomon_lex_kept)]
set_option maxRecDepth 100000 in
theorem ge_of_laid {W : World} (h : laidMetH Tryz.prog laidAll W) : GE GV (Gall W) W := by
  rw [MakeChecks.laidMetH_plain _ _ _ (by kernel_rfl)] at h
  obtain ⟨ps, ⟨g1, t1, cs1, f1, p1, q1, hg1, ht1, hv1, hd1, ⟨g0, t0, cs0, f0, p0, q0, hg0, ht0, hv0, hd0, _, _⟩, _⟩, _, _⟩ := h
  obtain rfl := Option.some.inj (gKinds.symm.trans hg1)
  obtain rfl := Option.some.inj (gKept.symm.trans hg0)
  obtain rfl := Option.some.inj (tKinds.symm.trans ht1)
  obtain rfl := Option.some.inj (tKept.symm.trans ht0)
  refine GE_all fun g cs hgc => ?_
  unfold GV at hgc
  split at hgc
  · rename_i h0; subst h0; cases hgc
    exact fp_of_var gKept hv0 (rdKept _ W false _ _ _ hd0)
  · split at hgc
    · rename_i h0 h1; subst h1; cases hgc
      exact fp_of_var gKinds hv1 (rdKinds _ W false _ _ _ hd1)
    · cases hgc
def keptArr : Array Value := #[.string ⟨#[99, 108, 111, 99, 107]⟩, .string ⟨#[105, 110, 116]⟩, .string ⟨#[99, 104, 97, 110]⟩, .string ⟨#[97, 117, 116, 111]⟩, .string ⟨#[108, 111, 99]⟩, .string ⟨#[101, 100, 103, 101]⟩, .string ⟨#[105, 110]⟩, .string ⟨#[105, 110, 118]⟩, .string ⟨#[119, 104, 101, 110]⟩, .string ⟨#[115, 121, 110, 99]⟩, .string ⟨#[100, 111]⟩, .string ⟨#[117, 114, 103, 101, 110, 116]⟩, .string ⟨#[99, 111, 109, 109, 105, 116, 116, 101, 100]⟩, .string ⟨#[116, 114, 117, 101]⟩, .string ⟨#[114, 101, 97, 99, 104]⟩, .string ⟨#[110, 101, 118, 101, 114]⟩]
def kindArr : Array Value := (kindRows.flatMap fun x => [Value.int .i64 x.1, .bool x.2.1, .bool x.2.2.1, .string ⟨x.2.2.2.1.toArray⟩, .int .i64 x.2.2.2.2]).toArray
def laidCells (arr : Array Value) : Obj → Obj
  | .cells _ t frozen => .cells arr t frozen
  | o => o
/-- A world for the witnesses: the settled one, the two variables holding what their initialisers lay. -/
noncomputable def laidWorld (os : Os) : World :=
  { World.holding Tryz.prog os ⟨#[], #[], []⟩ with heap := ((World.holding Tryz.prog os ⟨#[], #[], []⟩).heap.modify 0 (laidCells keptArr)).modify 1 (laidCells kindArr) }
theorem laid_met (os : Os) (args : Array Value) : laidMetH Tryz.prog laidAll ((laidWorld os).forCall (fun _ _ => 0) ⟨#[], args, []⟩).memory := by
  rw [MakeChecks.laidMetH_plain _ _ _ (by kernel_rfl)]
  exact laidMet_of_run' 8 (by kernel_rfl) (by kernel_rfl)
end Go.Proofs.YtgmlimipejcpgaaGreatDoor
end
