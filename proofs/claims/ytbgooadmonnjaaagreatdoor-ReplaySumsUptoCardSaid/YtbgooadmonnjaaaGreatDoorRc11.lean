/-
  YtbgooadmonnjaaaGreatDoorRc11: steps of the proof of a law of the program: what these texts prove holds under the hypotheses that their theorems name, and no others.
-/
import Derived.Test.YtbgooadmonnjaaaGreatDoorRc10
import Derived.MapKept
import Derived.Test.YtbgooadmonnjaaaGreatDoorRc08
import Derived.Test.YtbgooadmonnjaaaGreatDoorRows
import Derived.OpenShut
import Derived.Test.YtbgooadmonnjaaaGreatDoorCards
import Derived.Test.YtbgooadmonnjaaaGreatDoorTie
import Derived.WalkKit
import Derived.ProofKit
import Derived.ChangeOld
import Derived.Carry
import Derived.JoinedCond
import Derived.Deep.DeepHandedRow
section
set_option linter.unusedVariables false
set_option linter.unusedSimpArgs false
namespace Go.AM
open Go.MapKept
def smap (l : List (ByteArray × V)) : List (V × V) := l.map fun p => (.str p.1, p.2)
def sget (l : List (ByteArray × V)) (s : ByteArray) : Option V := (l.find? fun p => p.1 = s).map (·.2)
def sput (l : List (ByteArray × V)) (s : ByteArray) (v : V) : List (ByteArray × V) := match l.findIdx? fun p => p.1 = s with
  | some j => l.set j (s, v)
  | none => l ++ [(s, v)]
section
variable {P : Program} {ge : GEnv} {st : St} {Q : Exit → St → Prop}
variable {d : Option Tmp} {t : TypeId} {p : String} {af : Array Edge} {g : Option (Nat × Bool)}
theorem S_makeMap {T : TypeId} : OpS P ge st ⟨d, .makeMap T none, t, p, af, g⟩ (.mp st.h.length) (st.h ++ [.map []]) := by
  intro G a w hr
  have hk : ∀ k', (G.push (some w.heap.size) 1 1).at G.n (.map []) = some k' → w.heap.size ≤ k' := fun k' h => by
    simp [Gh.at, Gh.push] at h; omega
  have hrb : RB P (G.push (some w.heap.size) 1 1) (w.alloc (.map #[] 0)) G.n (.map []) :=
    ⟨by simp [Gh.push], w.heap.size, #[], 0, by simp [Gh.push], heap_alloc_new w _, rfl, fun i e c h => by simp at h⟩
  refine ⟨.map (some w.heap.size), G.push (some w.heap.size) 1 1, w.alloc (.map #[] 0), .inl ?_, hr.rh.push (.alloc w _) hrb hk, ?_, .push hr.rh (.alloc w _) hk⟩
  · simp [execOp, Instr.makeMap]
  · rw [hr.rh.n]; exact .mp (by simp [Gh.push]) (by simp [Gh.push])
/-- The keys of a map's entries are the strings. -/
theorem ents_keys {G : Gh} {w : World} {l : List (ByteArray × V)} {ents : Array MapEntry} (hs : ents.size = (smap l).length)
    (hc : ∀ (i : Nat) (e : V × V) (c : MapEntry), (smap l)[i]? = some e → ents[i]? = some c → R G w true e.1 c.key ∧ R G w true e.2 c.val) :
    (∀ x ∈ ents.toList, IsKey .string x.key) ∧ ∀ (j : Nat) (c : MapEntry), ents[j]? = some c → ∃ q, l[j]? = some q ∧ c.key = .string q.1 ∧ R G w true q.2 c.val := by
  have key : ∀ (j : Nat) (c : MapEntry), ents[j]? = some c → ∃ q, l[j]? = some q ∧ c.key = .string q.1 ∧ R G w true q.2 c.val := fun j c hj => by
    have hlt := (Array.getElem?_eq_some_iff.1 hj).1
    have hl : j < l.length := by rw [hs] at hlt; simpa [smap] using hlt
    have he : (smap l)[j]? = some (.str l[j].1, l[j].2) := by simp [smap, hl]
    obtain ⟨h1, h2⟩ := hc j _ c he hj
    exact ⟨l[j], List.getElem?_eq_getElem hl, h1.inv_str, h2⟩
  refine ⟨fun x hx => ?_, key⟩
  obtain ⟨j, hj⟩ := List.getElem?_of_mem hx
  obtain ⟨q, _, hq, _⟩ := key j x (by simpa using hj)
  rw [hq]; trivial
theorem find_at {l : List (ByteArray × V)} (hn : (l.map (·.1)).Nodup) {j : Nat} {q : ByteArray × V} (hj : l[j]? = some q) : sget l q.1 = some q.2 ∧ l.findIdx? (fun p => p.1 = q.1) = some j := by
  induction l generalizing j with
  | nil => simp at hj
  | cons a r ih =>
    rw [List.map_cons, List.nodup_cons] at hn
    cases j with
    | zero =>
      simp at hj; subst hj
      exact ⟨by simp [sget], by simp [List.findIdx?_cons]⟩
    | succ j =>
      have hj' : r[j]? = some q := by simpa using hj
      obtain ⟨h1, h2⟩ := ih hn.2 hj'
      have hne : ¬ a.1 = q.1 := fun e => hn.1 (by rw [e]; exact List.mem_map_of_mem (List.mem_of_getElem? hj'))
      refine ⟨?_, ?_⟩
      · unfold sget at h1 ⊢; rw [List.find?_cons]; simp only [hne, decide_false]; exact h1
      · rw [List.findIdx?_cons]; simp [hne, h2]
theorem find_none {l : List (ByteArray × V)} {s : ByteArray} (h : ∀ q ∈ l, q.1 ≠ s) : sget l s = none ∧ l.findIdx? (fun p => p.1 = s) = none := by
  constructor
  · unfold sget
    rw [List.find?_eq_none.2 (fun x hx => by simpa using h x hx)]; rfl
  · rw [List.findIdx?_eq_none_iff]; intro x hx; simpa using h x hx
theorem inv_mp {G : Gh} {w : World} {fr : Bool} {b : Nat} {c : Value} (h : R G w fr (.mp b) c) : ∃ k, c = .map (some k) ∧ G.m b 0 = some k := by
  cases h; exact ⟨_, rfl, by assumption⟩
theorem run_zero {et : TypeId} {zv : Value} (hz : (P.info? et).bind (·.zero) = some zv) (w : World) : (zeroValue et).run P w = .ok zv w := by
  cases hi : P.info? et with
  | none => rw [hi] at hz; cases hz
  | some i => rw [hi] at hz; simp only [Option.bind_some] at hz; simp [zeroValue, typeInfo, hi, hz]
theorem S_lookup {T kt et : TypeId} {x y : Operand} {b : Nat} {l : List (ByteArray × V)} {s : ByteArray} {zv : Value} (hT : P.underlying T = some (.map kt et)) (hkt : P.underlying kt = some .string) (hz : (P.info? et).bind (·.zero) = some zv)
    (hx : ev ge st.tm x = .mp b) (hb : st.h[b]? = some (.map (smap l))) (hy : ev ge st.tm y = .str s) (hn : (l.map (·.1)).Nodup) :
    OpS P ge st ⟨d, .lookup T x y false, t, p, af, g⟩ ((sget l s).getD (V.ofCell zv)) st.h := by
  refine OpS_pure fun G a w hr => ?_
  have hvx := hr.ev x
  have hvy := hr.ev y
  rw [hx] at hvx
  rw [hy] at hvy
  obtain ⟨k, hck, hm⟩ := inv_mp hvx
  have hcy := hvy.inv_str
  obtain ⟨h00, k', ents, clock, hm', hh, hs, hc⟩ := hr.rh.bl b _ hb
  rw [hm] at hm'; cases hm'
  obtain ⟨hks, hkey⟩ := ents_keys hs hc
  rcases findNow_spec (d := .string) (k := .string s) trivial ents.toList 0 hks with ⟨h1, h2⟩ | ⟨j, e, h1, h2, h3⟩
  · have hnone : sget l s = none := (find_none fun q hq e => by
      obtain ⟨j, hj⟩ := List.getElem?_of_mem hq
      have hl := (List.getElem?_eq_some_iff.1 hj).1
      have hl2 : j < ents.size := by rw [hs]; simpa [smap] using hl
      obtain ⟨q', h4, h5, _⟩ := hkey j ents[j] (Array.getElem?_eq_getElem hl2)
      rw [hj] at h4; cases h4
      exact h2 ents[j] (Array.getElem_mem_toList hl2) (by rw [h5, e])).1
    rw [hnone]
    refine ⟨zv, ?_, .ofCell zv⟩
    simp [execOp, Instr.lookup, hck, hcy, run_underlying hT, MapKept.run_getObj_map hh, MapKept.run_checkKey (d := .string) (k := .string s) hkt trivial, MapKept.run_findKey hkt h1, run_zero hz, Result.andThen]
  · obtain ⟨q, h4, h5, h6⟩ := hkey j e (by simpa using h2)
    have hqs : q.1 = s := by rw [h5] at h3; cases h3; rfl
    have := (find_at hn h4).1
    rw [hqs] at this
    rw [this]
    refine ⟨e.val, ?_, h6.weak rfl⟩
    simp [execOp, Instr.lookup, hck, hcy, run_underlying hT, MapKept.run_getObj_map hh, MapKept.run_checkKey (d := .string) (k := .string s) hkt trivial, MapKept.run_findKey hkt h1, Result.andThen]
theorem S_mapUpdate {T kt et : TypeId} {x y z : Operand} {b : Nat} {l : List (ByteArray × V)} {s : ByteArray} (hT : P.underlying T = some (.map kt et)) (hkt : P.underlying kt = some .string)
    (hx : ev ge st.tm x = .mp b) (hb : st.h[b]? = some (.map (smap l))) (hy : ev ge st.tm y = .str s) (hn : (l.map (·.1)).Nodup) (hv : (ev ge st.tm z).isF = true) :
    OpS P ge st ⟨d, .mapUpdate T x y z, t, p, af, g⟩ .void (st.h.set b (.map (smap (sput l s (ev ge st.tm z))))) := by
  intro G a w hr
  have hvx := hr.ev x
  have hvy := hr.ev y
  have hvz := (hr.ev z).frozen hv
  rw [hx] at hvx
  rw [hy] at hvy
  obtain ⟨k, hck, hm⟩ := inv_mp hvx
  have hcy := hvy.inv_str
  obtain ⟨h00, k', ents, clock, hm', hh, hs, hc⟩ := hr.rh.bl b _ hb
  rw [hm] at hm'; cases hm'
  obtain ⟨hks, hkey⟩ := ents_keys hs hc
  have hlt : k < w.heap.size := (Array.getElem?_eq_some_iff.1 hh).1
  have up : ∀ (ents' : Array MapEntry) (clock' : Nat) (l' : List (ByteArray × V)), ents'.size = l'.length →
      (∀ (i : Nat) (q : ByteArray × V) (c : MapEntry), l'[i]? = some q → ents'[i]? = some c → c.key = .string q.1 ∧ R G w true q.2 c.val) →
      RH P ge G (st.h.set b (.map (smap l'))) { w with heap := w.heap.setIfInBounds k (.map ents' clock') } ∧ Ext G st.h w G (st.h.set b (.map (smap l'))) { w with heap := w.heap.setIfInBounds k (.map ents' clock') } := by
    intro ents' clock' l' h1 h2
    have hother : ∀ k', k' ≠ k → (w.heap.setIfInBounds k (.map ents' clock'))[k']? = w.heap[k']? := (heap_set hh).2
    have le : GLe G w G { w with heap := w.heap.setIfInBounds k (.map ents' clock') } := ⟨fun _ => Nat.le_refl _, fun k' o ho => by
      by_cases e : k' = k
      · subst e
        simp [World.cell?, hh, (heap_set hh).1]
      · exact cell_eq (hother k' e), Nat.le_refl _, fun _ _ => Nat.le_refl _, fun _ _ _ _ => rfl, fun _ _ => rfl, fun _ _ _ _ => rfl⟩
    refine RH_upd hr.rh hb hm (by simp) hother rfl ⟨rfl, rfl⟩ le ⟨h00, k, ents', clock', hm, (heap_set hh).1, by simp [smap, h1], fun i e c he hcc => ?_⟩ hm
    rw [smap, List.getElem?_map] at he
    obtain ⟨q, hq, rfl⟩ := Option.map_eq_some_iff.1 he
    obtain ⟨h3, h4⟩ := h2 i q c hq hcc
    rw [h3]
    exact ⟨.str, h4.mono le⟩
  rcases findNow_spec (d := .string) (k := .string s) trivial ents.toList 0 hks with ⟨h1, h2⟩ | ⟨j, e, h1, h2, h3⟩
  · have hnone : l.findIdx? (fun p => p.1 = s) = none := (find_none fun q hq e => by
      obtain ⟨j, hj⟩ := List.getElem?_of_mem hq
      have hl := (List.getElem?_eq_some_iff.1 hj).1
      have hl2 : j < ents.size := by rw [hs]; simpa [smap] using hl
      obtain ⟨q', h4, h5, _⟩ := hkey j ents[j] (Array.getElem?_eq_getElem hl2)
      rw [hj] at h4; cases h4
      exact h2 ents[j] (Array.getElem_mem_toList hl2) (by rw [h5, e])).2
    have hsz : ents.size = l.length := by simpa [smap] using hs
    obtain ⟨r1, r2⟩ := up (ents.push { key := .string s, val := a.eval z, born := clock }) (clock + 1) (l ++ [(s, ev ge st.tm z)]) (by simp [hsz]) (fun i q c hq hcc => by
      rw [Array.getElem?_push] at hcc
      split at hcc
      · rename_i e
        cases hcc
        rw [hsz] at e
        subst e
        rw [List.getElem?_append_right (Nat.le_refl _), Nat.sub_self] at hq
        cases hq
        exact ⟨rfl, hvz⟩
      · have hi := (Array.getElem?_eq_some_iff.1 hcc).1
        rw [List.getElem?_append_left (by omega)] at hq
        obtain ⟨q', h4, h5, h6⟩ := hkey i c hcc
        rw [hq] at h4; cases h4
        exact ⟨h5, h6⟩)
    refine ⟨undef, G, { w with heap := w.heap.setIfInBounds k (.map (ents.push { key := .string s, val := a.eval z, born := clock }) (clock + 1)) }, .inr ⟨?_, rfl⟩, ?_, .void, ?_⟩
    rotate_left
    · unfold sput; rw [hnone]; exact r1
    · unfold sput; rw [hnone]; exact r2
    · simp [execOp, Instr.mapUpdate, hck, hcy, run_underlying hT, MapKept.run_getObj_map hh, MapKept.run_checkKey (d := .string) (k := .string s) hkt trivial, MapKept.run_findKey hkt h1, MapKept.run_setObj_map _ hh, Result.andThen]
  · have hj : ents[j]? = some e := by simpa using h2
    obtain ⟨q, h4, h5, h6⟩ := hkey j e hj
    have hqs : q.1 = s := by rw [h5] at h3; cases h3; rfl
    have hfi := (find_at hn h4).2
    rw [hqs] at hfi
    have hsz : ents.size = l.length := by simpa [smap] using hs
    have hjl := (List.getElem?_eq_some_iff.1 h4).1
    obtain ⟨r1, r2⟩ := up (ents.modify j fun e => { e with key := .string s, val := a.eval z }) clock (l.set j (s, ev ge st.tm z)) (by simp [hsz]) (fun i q' c hq hcc => by
      rw [Array.getElem?_modify] at hcc
      rw [List.getElem?_set] at hq
      split at hcc
      · rename_i e'
        subst e'
        rw [if_pos rfl, if_pos hjl] at hq
        rw [hj] at hcc
        cases hcc; cases hq
        exact ⟨rfl, hvz⟩
      · rename_i e'
        rw [if_neg e'] at hq
        obtain ⟨q'', h7, h8, h9⟩ := hkey i c hcc
        rw [hq] at h7; cases h7
        exact ⟨h8, h9⟩)
    refine ⟨undef, G, { w with heap := w.heap.setIfInBounds k (.map (ents.modify j fun e => { e with key := .string s, val := a.eval z }) clock) }, .inr ⟨?_, rfl⟩, ?_, .void, ?_⟩
    rotate_left
    · unfold sput; rw [hfi]; exact r1
    · unfold sput; rw [hfi]; exact r2
    · simp [execOp, Instr.mapUpdate, hck, hcy, run_underlying hT, MapKept.run_getObj_map hh, MapKept.run_checkKey (d := .string) (k := .string s) hkt trivial, MapKept.run_findKey hkt h1, hj, h3, MapKept.run_keyThatStays (d := .string) (k := .string s) trivial, MapKept.run_setObj_map _ hh, Result.andThen]
/-- An operation whose law is told by hand, in a walk. -/
theorem AS_op1 {ops : Array Oper} {op : Op} {rest : List Oper} {v : V} {h' : List B} (hd : dstOk st.n d = true) (ho : OpS P ge st ⟨d, op, t, p, af, none⟩ v h')
    (h : AO P ge ops Q rest ⟨st.n, putD d v st.tm, h'⟩) : AS P ge ops (⟨d, op, t, p, af, none⟩ :: rest) Q st := AS_op rfl hd ho (AS_of_AO h)
end
end Go.AM
end
section
set_option linter.unusedVariables false
namespace Go.Proofs.YtbgooadmonnjaaaGreatDoor
open Go Go.AM
theorem one_leB {H : Type} (d : DataW H) : 1 ≤ Rows.uptoBulk d := by
  cases d with
  | lit l => cases l <;> simp [Rows.uptoBulk]
  | nil => simp [Rows.uptoBulk]
  | ptr d => simp [Rows.uptoBulk]
  | slice elems spare => simp [Rows.uptoBulk]
  | agg parts => simp [Rows.uptoBulk]
  | iface t d => simp [Rows.uptoBulk]
  | map entries => simp [Rows.uptoBulk]
  | held h => simp [Rows.uptoBulk]
theorem part_leB {H : Type} {d : DataW H} {l : List (DataW H)} (h : d ∈ l) : Rows.uptoBulk d ≤ Rows.uptoBulkAll l := by
  induction l with
  | nil => cases h
  | cons x r ih =>
    simp only [Rows.uptoBulkAll]
    cases List.mem_cons.1 h with
    | inl e => subst e; omega
    | inr e => have := ih e; omega
theorem length_leB {H : Type} (l : List (DataW H)) : l.length ≤ Rows.uptoBulkAll l := by
  induction l with
  | nil => simp [Rows.uptoBulkAll]
  | cons x r ih => have := one_leB x; simp only [Rows.uptoBulkAll, List.length_cons]; omega
def KB : Bk where
  bk H d := Rows.uptoBulk d
  N := 1048576
  len es sp h := by
    simp only [Rows.uptoBulk] at h
    exact ⟨by have := length_leB es; omega, fun d hd => by have := part_leB hd; omega⟩
  agg ps h d hd := by
    simp only [Rows.uptoBulk] at h
    have := part_leB hd; omega
  str b h := by simp only [Rows.uptoBulk] at h; omega
def I64 (n : Int) : Prop := -9223372036854775808 ≤ n ∧ n ≤ 9223372036854775807
theorem wf64 {n : Int} (h : (Lit.int .i64 n).wf = true) : I64 n := by
  have : -9223372036854775808 ≤ n ∧ n ≤ 9223372036854775807 := by simpa [Lit.wf, IntKind.min, IntKind.max, IntKind.signed, IntKind.bits] using h
  exact this
theorem wfu8 {n : Int} (h : (Lit.int .u8 n).wf = true) : 0 ≤ n ∧ n ≤ 255 := by
  simpa [Lit.wf, IntKind.min, IntKind.max, IntKind.signed, IntKind.bits] using h
theorem wI {n : Int} (h1 : -9223372036854775808 ≤ n) (h2 : n ≤ 9223372036854775807) : IntKind.i64.wrap n = n := by
  unfold IntKind.wrap; simp [IntKind.bits, IntKind.signed]; omega
theorem mixed : Tryz.prog.follows .mixedOrders = true := by decide
/-- A slice of data. -/
def vl {α : Type} (c : α → List V) (l : List α) : V := .vec (l.map c) l.length
theorem zco9 : Tryz.prog.cellsOf 9 = 1 := by kernel_rfl
structure VarD where
  name : ByteArray
  lo : Int
  hi : Int
  init : Int
  deriving DecidableEq, Inhabited
def VarD.cells (x : VarD) : List V := [.str x.name, .int .i64 x.lo, .int .i64 x.hi, .int .i64 x.init]
def VarD.ok (x : VarD) : Prop := x.name.size ≤ 1048576 ∧ I64 x.lo ∧ I64 x.hi ∧ I64 x.init
theorem zco3 : Tryz.prog.cellsOf 3 = 1 := by kernel_rfl
theorem zco226 : Tryz.prog.cellsOf 226 = 4 := by kernel_rfl
theorem rnVarD : RdN KB Tryz.prog 226 VarD.cells VarD.ok :=
  (RdN_struct Tryz.underlying226 zco226 (rC rfl zco9 (RdN_string Tryz.underlying9) (fun _ => rfl) (rC rfl zco3 (RdN_int Tryz.underlying3) (fun _ => rfl) (rC rfl zco3 (RdN_int Tryz.underlying3) (fun _ => rfl) (rC rfl zco3 (RdN_int Tryz.underlying3) (fun _ => rfl) (RdNs_nil rfl)))))).map
    (fun p => ⟨p.1, p.2.1, p.2.2.1, p.2.2.2.1⟩) (fun _ => rfl) (fun p h => ⟨(h.1).2, wf64 h.2.1, wf64 h.2.2.1, wf64 h.2.2.2.1⟩)
@[simp] theorem VarD.cells_len (x : VarD) : x.cells.length = 4 := rfl
structure GuardD where
  clock : Int
  other : Int
  cmp : Int
  n : Int
  deriving DecidableEq, Inhabited
def GuardD.cells (x : GuardD) : List V := [.int .i64 x.clock, .int .i64 x.other, .int .u8 x.cmp, .int .i64 x.n]
def GuardD.ok (x : GuardD) : Prop := I64 x.clock ∧ I64 x.other ∧ (0 ≤ x.cmp ∧ x.cmp ≤ 255) ∧ I64 x.n
theorem zco152 : Tryz.prog.cellsOf 152 = 1 := by kernel_rfl
theorem zco154 : Tryz.prog.cellsOf 154 = 4 := by kernel_rfl
theorem rnGuardD : RdN KB Tryz.prog 154 GuardD.cells GuardD.ok :=
  (RdN_struct Tryz.underlying154 zco154 (rC rfl zco3 (RdN_int Tryz.underlying3) (fun _ => rfl) (rC rfl zco3 (RdN_int Tryz.underlying3) (fun _ => rfl) (rC rfl zco152 (RdN_int Tryz.underlying152) (fun _ => rfl) (rC rfl zco3 (RdN_int Tryz.underlying3) (fun _ => rfl) (RdNs_nil rfl)))))).map
    (fun p => ⟨p.1, p.2.1, p.2.2.1, p.2.2.2.1⟩) (fun _ => rfl) (fun p h => ⟨wf64 h.1, wf64 h.2.1, wfu8 h.2.2.1, wf64 h.2.2.2.1⟩)
@[simp] theorem GuardD.cells_len (x : GuardD) : x.cells.length = 4 := rfl
structure LocD where
  name : ByteArray
  kind : Int
  inv : List GuardD
  deriving DecidableEq, Inhabited
def LocD.cells (x : LocD) : List V := [.str x.name, .int .u8 x.kind, vl GuardD.cells x.inv]
def LocD.ok (x : LocD) : Prop := x.name.size ≤ 1048576 ∧ (0 ≤ x.kind ∧ x.kind ≤ 255) ∧ (x.inv.length ≤ 1048576 ∧ ∀ a ∈ x.inv, a.ok)
theorem zco29 : Tryz.prog.cellsOf 29 = 1 := by kernel_rfl
theorem zco196 : Tryz.prog.cellsOf 196 = 1 := by kernel_rfl
theorem zco198 : Tryz.prog.cellsOf 198 = 3 := by kernel_rfl
theorem rnLocD : RdN KB Tryz.prog 198 LocD.cells LocD.ok :=
  (RdN_struct Tryz.underlying198 zco198 (rC rfl zco9 (RdN_string Tryz.underlying9) (fun _ => rfl) (rC rfl zco196 (RdN_int Tryz.underlying196) (fun _ => rfl) (rC rfl zco29 (RdN_slice Tryz.underlying29 (by rw [zco154]; decide) rnGuardD (fun _ => by rw [zco154]; rfl)) (fun _ => rfl) (RdNs_nil rfl))))).map
    (fun p => ⟨p.1, p.2.1, p.2.2.1⟩) (fun _ => rfl) (fun p h => ⟨(h.1).2, wfu8 h.2.1, ⟨(h.2.2.1).1, fun a ha => ((h.2.2.1).2 a ha)⟩⟩)
@[simp] theorem LocD.cells_len (x : LocD) : x.cells.length = 3 := rfl
structure NodeD where
  op : Int
  n : Int
  deriving DecidableEq, Inhabited
def NodeD.cells (x : NodeD) : List V := [.int .u8 x.op, .int .i64 x.n]
def NodeD.ok (x : NodeD) : Prop := (0 ≤ x.op ∧ x.op ≤ 255) ∧ I64 x.n
theorem zco313 : Tryz.prog.cellsOf 313 = 1 := by kernel_rfl
theorem zco315 : Tryz.prog.cellsOf 315 = 2 := by kernel_rfl
theorem rnNodeD : RdN KB Tryz.prog 315 NodeD.cells NodeD.ok :=
  (RdN_struct Tryz.underlying315 zco315 (rC rfl zco313 (RdN_int Tryz.underlying313) (fun _ => rfl) (rC rfl zco3 (RdN_int Tryz.underlying3) (fun _ => rfl) (RdNs_nil rfl)))).map
    (fun p => ⟨p.1, p.2.1⟩) (fun _ => rfl) (fun p h => ⟨wfu8 h.1, wf64 h.2.1⟩)
@[simp] theorem NodeD.cells_len (x : NodeD) : x.cells.length = 2 := rfl
structure SetD where
  clock : Int
  n : Int
  var : Int
  expr : List NodeD
  deriving DecidableEq, Inhabited
def SetD.cells (x : SetD) : List V := [.int .i64 x.clock, .int .i64 x.n, .int .i64 x.var, vl NodeD.cells x.expr]
def SetD.ok (x : SetD) : Prop := I64 x.clock ∧ I64 x.n ∧ I64 x.var ∧ (x.expr.length ≤ 1048576 ∧ ∀ a ∈ x.expr, a.ok)
theorem zco30 : Tryz.prog.cellsOf 30 = 1 := by kernel_rfl
theorem zco143 : Tryz.prog.cellsOf 143 = 4 := by kernel_rfl
theorem rnSetD : RdN KB Tryz.prog 143 SetD.cells SetD.ok :=
  (RdN_struct Tryz.underlying143 zco143 (rC rfl zco3 (RdN_int Tryz.underlying3) (fun _ => rfl) (rC rfl zco3 (RdN_int Tryz.underlying3) (fun _ => rfl) (rC rfl zco3 (RdN_int Tryz.underlying3) (fun _ => rfl) (rC rfl zco30 (RdN_slice Tryz.underlying30 (by rw [zco315]; decide) rnNodeD (fun _ => by rw [zco315]; rfl)) (fun _ => rfl) (RdNs_nil rfl)))))).map
    (fun p => ⟨p.1, p.2.1, p.2.2.1, p.2.2.2.1⟩) (fun _ => rfl) (fun p h => ⟨wf64 h.1, wf64 h.2.1, wf64 h.2.2.1, ⟨(h.2.2.2.1).1, fun a ha => ((h.2.2.2.1).2 a ha)⟩⟩)
@[simp] theorem SetD.cells_len (x : SetD) : x.cells.length = 4 := rfl
structure EdgeD where
  frm : Int
  to : Int
  guards : List GuardD
  test : List NodeD
  chan : Int
  send : Bool
  sets : List SetD
  deriving DecidableEq, Inhabited
def EdgeD.cells (x : EdgeD) : List V := [.int .i64 x.frm, .int .i64 x.to, vl GuardD.cells x.guards, vl NodeD.cells x.test, .int .i64 x.chan, .bool x.send, vl SetD.cells x.sets]
def EdgeD.ok (x : EdgeD) : Prop := I64 x.frm ∧ I64 x.to ∧ (x.guards.length ≤ 1048576 ∧ ∀ a ∈ x.guards, a.ok) ∧ (x.test.length ≤ 1048576 ∧ ∀ a ∈ x.test, a.ok) ∧ I64 x.chan ∧ True ∧ (x.sets.length ≤ 1048576 ∧ ∀ a ∈ x.sets, a.ok)
theorem zco139 : Tryz.prog.cellsOf 139 = 1 := by kernel_rfl
theorem zco4 : Tryz.prog.cellsOf 4 = 1 := by kernel_rfl
theorem zco201 : Tryz.prog.cellsOf 201 = 7 := by kernel_rfl
theorem rnEdgeD : RdN KB Tryz.prog 201 EdgeD.cells EdgeD.ok :=
  (RdN_struct Tryz.underlying201 zco201 (rC rfl zco3 (RdN_int Tryz.underlying3) (fun _ => rfl) (rC rfl zco3 (RdN_int Tryz.underlying3) (fun _ => rfl) (rC rfl zco29 (RdN_slice Tryz.underlying29 (by rw [zco154]; decide) rnGuardD (fun _ => by rw [zco154]; rfl)) (fun _ => rfl) (rC rfl zco30 (RdN_slice Tryz.underlying30 (by rw [zco315]; decide) rnNodeD (fun _ => by rw [zco315]; rfl)) (fun _ => rfl) (rC rfl zco3 (RdN_int Tryz.underlying3) (fun _ => rfl) (rC rfl zco4 (RdN_bool Tryz.underlying4) (fun _ => rfl) (rC rfl zco139 (RdN_slice Tryz.underlying139 (by rw [zco143]; decide) rnSetD (fun _ => by rw [zco143]; rfl)) (fun _ => rfl) (RdNs_nil rfl))))))))).map
    (fun p => ⟨p.1, p.2.1, p.2.2.1, p.2.2.2.1, p.2.2.2.2.1, p.2.2.2.2.2.1, p.2.2.2.2.2.2.1⟩) (fun _ => rfl) (fun p h => ⟨wf64 h.1, wf64 h.2.1, ⟨(h.2.2.1).1, fun a ha => ((h.2.2.1).2 a ha)⟩, ⟨(h.2.2.2.1).1, fun a ha => ((h.2.2.2.1).2 a ha)⟩, wf64 h.2.2.2.2.1, trivial, ⟨(h.2.2.2.2.2.2.1).1, fun a ha => ((h.2.2.2.2.2.2.1).2 a ha)⟩⟩)
@[simp] theorem EdgeD.cells_len (x : EdgeD) : x.cells.length = 7 := rfl
structure AutoD where
  name : ByteArray
  locs : List LocD
  edges : List EdgeD
  deriving DecidableEq, Inhabited
def AutoD.cells (x : AutoD) : List V := [.str x.name, vl LocD.cells x.locs, vl EdgeD.cells x.edges]
def AutoD.ok (x : AutoD) : Prop := x.name.size ≤ 1048576 ∧ (x.locs.length ≤ 1048576 ∧ ∀ a ∈ x.locs, a.ok) ∧ (x.edges.length ≤ 1048576 ∧ ∀ a ∈ x.edges, a.ok)
theorem zco202 : Tryz.prog.cellsOf 202 = 1 := by kernel_rfl
theorem zco199 : Tryz.prog.cellsOf 199 = 1 := by kernel_rfl
theorem zco204 : Tryz.prog.cellsOf 204 = 3 := by kernel_rfl
theorem rnAutoD : RdN KB Tryz.prog 204 AutoD.cells AutoD.ok :=
  (RdN_struct Tryz.underlying204 zco204 (rC rfl zco9 (RdN_string Tryz.underlying9) (fun _ => rfl) (rC rfl zco199 (RdN_slice Tryz.underlying199 (by rw [zco198]; decide) rnLocD (fun _ => by rw [zco198]; rfl)) (fun _ => rfl) (rC rfl zco202 (RdN_slice Tryz.underlying202 (by rw [zco201]; decide) rnEdgeD (fun _ => by rw [zco201]; rfl)) (fun _ => rfl) (RdNs_nil rfl))))).map
    (fun p => ⟨p.1, p.2.1, p.2.2.1⟩) (fun _ => rfl) (fun p h => ⟨(h.1).2, ⟨(h.2.1).1, fun a ha => ((h.2.1).2 a ha)⟩, ⟨(h.2.2.1).1, fun a ha => ((h.2.2.1).2 a ha)⟩⟩)
@[simp] theorem AutoD.cells_len (x : AutoD) : x.cells.length = 3 := rfl
structure NetD where
  clocks : List ByteArray
  vars : List VarD
  chans : List ByteArray
  autos : List AutoD
  deriving DecidableEq, Inhabited
def NetD.cells (x : NetD) : List V := [vl (fun x => [.str x]) x.clocks, vl VarD.cells x.vars, vl (fun x => [.str x]) x.chans, vl AutoD.cells x.autos]
def NetD.ok (x : NetD) : Prop := (x.clocks.length ≤ 1048576 ∧ ∀ a ∈ x.clocks, a.size ≤ 1048576) ∧ (x.vars.length ≤ 1048576 ∧ ∀ a ∈ x.vars, a.ok) ∧ (x.chans.length ≤ 1048576 ∧ ∀ a ∈ x.chans, a.size ≤ 1048576) ∧ (x.autos.length ≤ 1048576 ∧ ∀ a ∈ x.autos, a.ok)
theorem zco24 : Tryz.prog.cellsOf 24 = 1 := by kernel_rfl
theorem zco22 : Tryz.prog.cellsOf 22 = 1 := by kernel_rfl
theorem zco23 : Tryz.prog.cellsOf 23 = 1 := by kernel_rfl
theorem zco26 : Tryz.prog.cellsOf 26 = 4 := by kernel_rfl
theorem rnNetD : RdN KB Tryz.prog 26 NetD.cells NetD.ok :=
  (RdN_struct Tryz.underlying26 zco26 (rC rfl zco22 (RdN_slice Tryz.underlying22 (by rw [zco9]; decide) (RdN_string Tryz.underlying9) (fun _ => by rw [zco9]; rfl)) (fun _ => rfl) (rC rfl zco23 (RdN_slice Tryz.underlying23 (by rw [zco226]; decide) rnVarD (fun _ => by rw [zco226]; rfl)) (fun _ => rfl) (rC rfl zco22 (RdN_slice Tryz.underlying22 (by rw [zco9]; decide) (RdN_string Tryz.underlying9) (fun _ => by rw [zco9]; rfl)) (fun _ => rfl) (rC rfl zco24 (RdN_slice Tryz.underlying24 (by rw [zco204]; decide) rnAutoD (fun _ => by rw [zco204]; rfl)) (fun _ => rfl) (RdNs_nil rfl)))))).map
    (fun p => ⟨p.1, p.2.1, p.2.2.1, p.2.2.2.1⟩) (fun _ => rfl) (fun p h => ⟨⟨(h.1).1, fun a ha => (((h.1).2 a ha)).2⟩, ⟨(h.2.1).1, fun a ha => ((h.2.1).2 a ha)⟩, ⟨(h.2.2.1).1, fun a ha => (((h.2.2.1).2 a ha)).2⟩, ⟨(h.2.2.2.1).1, fun a ha => ((h.2.2.2.1).2 a ha)⟩⟩)
@[simp] theorem NetD.cells_len (x : NetD) : x.cells.length = 4 := rfl
structure AtD where
  auto : Int
  loc : Int
  deriving DecidableEq, Inhabited
def AtD.cells (x : AtD) : List V := [.int .i64 x.auto, .int .i64 x.loc]
def AtD.ok (x : AtD) : Prop := I64 x.auto ∧ I64 x.loc
@[simp] theorem AtD.cells_len (x : AtD) : x.cells.length = 2 := rfl
structure PartD where
  locs : List AtD
  guards : List GuardD
  test : List NodeD
  deriving DecidableEq, Inhabited
def PartD.cells (x : PartD) : List V := [vl AtD.cells x.locs, vl GuardD.cells x.guards, vl NodeD.cells x.test]
def PartD.ok (x : PartD) : Prop := (x.locs.length ≤ 1048576 ∧ ∀ a ∈ x.locs, a.ok) ∧ (x.guards.length ≤ 1048576 ∧ ∀ a ∈ x.guards, a.ok) ∧ (x.test.length ≤ 1048576 ∧ ∀ a ∈ x.test, a.ok)
@[simp] theorem PartD.cells_len (x : PartD) : x.cells.length = 3 := rfl
structure RatD where
  num : Int
  den : Int
  deriving DecidableEq, Inhabited
def RatD.cells (x : RatD) : List V := [.int .i64 x.num, .int .i64 x.den]
def RatD.ok (x : RatD) : Prop := I64 x.num ∧ I64 x.den
theorem zco2 : Tryz.prog.cellsOf 2 = 1 := by kernel_rfl
theorem zco38 : Tryz.prog.cellsOf 38 = 2 := by kernel_rfl
theorem rnRatD : RdN KB Tryz.prog 38 RatD.cells RatD.ok :=
  (RdN_struct Tryz.underlying38 zco38 (rC rfl zco2 (RdN_int Tryz.underlying2) (fun _ => rfl) (rC rfl zco2 (RdN_int Tryz.underlying2) (fun _ => rfl) (RdNs_nil rfl)))).map
    (fun p => ⟨p.1, p.2.1⟩) (fun _ => rfl) (fun p h => ⟨wf64 h.1, wf64 h.2.1⟩)
@[simp] theorem RatD.cells_len (x : RatD) : x.cells.length = 2 := rfl
structure MoveD where
  auto : Int
  edge : Int
  wth : Int
  take : Int
  deriving DecidableEq, Inhabited
def MoveD.cells (x : MoveD) : List V := [.int .i64 x.auto, .int .i64 x.edge, .int .i64 x.wth, .int .i64 x.take]
def MoveD.ok (x : MoveD) : Prop := I64 x.auto ∧ I64 x.edge ∧ I64 x.wth ∧ I64 x.take
theorem zco49 : Tryz.prog.cellsOf 49 = 4 := by kernel_rfl
theorem rnMoveD : RdN KB Tryz.prog 49 MoveD.cells MoveD.ok :=
  (RdN_struct Tryz.underlying49 zco49 (rC rfl zco3 (RdN_int Tryz.underlying3) (fun _ => rfl) (rC rfl zco3 (RdN_int Tryz.underlying3) (fun _ => rfl) (rC rfl zco3 (RdN_int Tryz.underlying3) (fun _ => rfl) (rC rfl zco3 (RdN_int Tryz.underlying3) (fun _ => rfl) (RdNs_nil rfl)))))).map
    (fun p => ⟨p.1, p.2.1, p.2.2.1, p.2.2.2.1⟩) (fun _ => rfl) (fun p h => ⟨wf64 h.1, wf64 h.2.1, wf64 h.2.2.1, wf64 h.2.2.2.1⟩)
@[simp] theorem MoveD.cells_len (x : MoveD) : x.cells.length = 4 := rfl
structure StepD where
  delay : RatD
  move : MoveD
  deriving DecidableEq, Inhabited
def StepD.cells (x : StepD) : List V := (x.delay.cells) ++ (x.move.cells)
def StepD.ok (x : StepD) : Prop := x.delay.ok ∧ x.move.ok
theorem zco51 : Tryz.prog.cellsOf 51 = 6 := by kernel_rfl
theorem rnStepD : RdN KB Tryz.prog 51 StepD.cells StepD.ok :=
  (RdN_struct Tryz.underlying51 zco51 (rC rfl zco38 rnRatD (fun _ => rfl) (rC rfl zco49 rnMoveD (fun _ => rfl) (RdNs_nil rfl)))).map
    (fun p => ⟨p.1, p.2.1⟩) (fun _ => rfl) (fun p h => ⟨h.1, h.2.1⟩)
@[simp] theorem StepD.cells_len (x : StepD) : x.cells.length = 6 := rfl
structure RunD where
  steps : List StepD
  last : RatD
  deriving DecidableEq, Inhabited
def RunD.cells (x : RunD) : List V := ([vl StepD.cells x.steps]) ++ (x.last.cells)
def RunD.ok (x : RunD) : Prop := (x.steps.length ≤ 1048576 ∧ ∀ a ∈ x.steps, a.ok) ∧ x.last.ok
theorem zco36 : Tryz.prog.cellsOf 36 = 1 := by kernel_rfl
theorem zco40 : Tryz.prog.cellsOf 40 = 3 := by kernel_rfl
theorem rnRunD : RdN KB Tryz.prog 40 RunD.cells RunD.ok :=
  (RdN_struct Tryz.underlying40 zco40 (rC rfl zco36 (RdN_slice Tryz.underlying36 (by rw [zco51]; decide) rnStepD (fun _ => by rw [zco51]; rfl)) (fun _ => rfl) (rC rfl zco38 rnRatD (fun _ => rfl) (RdNs_nil rfl)))).map
    (fun p => ⟨p.1, p.2.1⟩) (fun _ => rfl) (fun p h => ⟨⟨(h.1).1, fun a ha => ((h.1).2 a ha)⟩, h.2.1⟩)
@[simp] theorem RunD.cells_len (x : RunD) : x.cells.length = 3 := rfl
end Go.Proofs.YtbgooadmonnjaaaGreatDoor
end
section
set_option linter.unusedVariables false
namespace Go.Proofs.YtbgooadmonnjaaaGreatDoor
open Go Go.AM Fx
def keptV : List V := [.str ⟨#[99, 108, 111, 99, 107]⟩, .str ⟨#[105, 110, 116]⟩, .str ⟨#[99, 104, 97, 110]⟩, .str ⟨#[97, 117, 116, 111]⟩, .str ⟨#[108, 111, 99]⟩, .str ⟨#[101, 100, 103, 101]⟩, .str ⟨#[105, 110]⟩, .str ⟨#[105, 110, 118]⟩, .str ⟨#[119, 104, 101, 110]⟩, .str ⟨#[115, 121, 110, 99]⟩, .str ⟨#[100, 111]⟩, .str ⟨#[117, 114, 103, 101, 110, 116]⟩, .str ⟨#[99, 111, 109, 109, 105, 116, 116, 101, 100]⟩, .str ⟨#[116, 114, 117, 101]⟩, .str ⟨#[114, 101, 97, 99, 104]⟩, .str ⟨#[110, 101, 118, 101, 114]⟩]
def kindsV : List V := [.int .i64 0, .bool false, .bool false, .str ⟨#[]⟩, .int .i64 0, .int .i64 0, .bool false, .bool false, .str ⟨#[]⟩, .int .i64 9, .int .i64 0, .bool false, .bool false, .str ⟨#[]⟩, .int .i64 9, .int .i64 1, .bool false, .bool false, .str ⟨#[45]⟩, .int .i64 6, .int .i64 2, .bool false, .bool false, .str ⟨#[43]⟩, .int .i64 4, .int .i64 2, .bool false, .bool false, .str ⟨#[45]⟩, .int .i64 4, .int .i64 2, .bool false, .bool false, .str ⟨#[42]⟩, .int .i64 5, .int .i64 0, .bool true, .bool false, .str ⟨#[116, 114, 117, 101]⟩, .int .i64 9, .int .i64 2, .bool true, .bool false, .str ⟨#[60]⟩, .int .i64 3, .int .i64 2, .bool true, .bool false, .str ⟨#[60, 61]⟩, .int .i64 3, .int .i64 2, .bool true, .bool false, .str ⟨#[61, 61]⟩, .int .i64 3, .int .i64 2, .bool true, .bool false, .str ⟨#[33, 61]⟩, .int .i64 3, .int .i64 1, .bool true, .bool true, .str ⟨#[33]⟩, .int .i64 9, .int .i64 2, .bool true, .bool true, .str ⟨#[38, 38]⟩, .int .i64 2, .int .i64 2, .bool true, .bool true, .str ⟨#[124, 124]⟩, .int .i64 1]
def GV : GEnv := fun g => if g = 0 then some kindsV else if g = 1 then some keptV else none
abbrev PC := PCall Tryz.prog GV
@[simp] theorem GV0 : GV 0 = some kindsV := rfl
@[simp] theorem GV1 : GV 1 = some keptV := rfl
end Go.Proofs.YtbgooadmonnjaaaGreatDoor
end
section
set_option linter.unusedVariables false
set_option linter.unusedSimpArgs false
namespace Go.AM
/-- What reads as this datum stands for these cells. -/
def RdX (P : Program) (T : TypeId) (d : DataW Unit) (vs : List V) : Prop :=
  ∀ (enc : TypeId × Value → Unit) (w : World) (held : Bool) (fuel : Nat) (cs : List Value) (p : List MemPlace), DataW.trod enc P w 0 (fun _ => true) held fuel T cs = some (d, p) → RdCells w vs cs
section
variable {P : Program} {T : TypeId}
theorem RdX_int {k : IntKind} {n : Int} (ht : P.underlying T = some (.int k)) : RdX P T (.lit (.int k n)) [.int k n] := fun enc w held fuel cs p hx => by
  obtain ⟨m, rfl, h, _⟩ := DataW.trod_int ht hx
  cases h
  exact .one rfl .int
theorem RdX_bool {b : Bool} (ht : P.underlying T = some .bool) : RdX P T (.lit (.bool b)) [.bool b] := fun enc w held fuel cs p hx => by
  obtain ⟨m, rfl, h⟩ := DataW.trod_bool ht hx
  cases h
  exact .one rfl .bool
theorem RdX_string {l : List UInt8} (ht : P.underlying T = some .string) : RdX P T (.lit (.string l)) [.str ⟨l.toArray⟩] := fun enc w held fuel cs p hx => by
  obtain ⟨s, rfl, h, _⟩ := DataW.trod_string ht hx
  cases h
  exact .one rfl .str
theorem rd_aux {enc : TypeId × Value → Unit} {w : World} {held : Bool} {m : Nat} {e : TypeId} {sz : Nat} {cs : List Value} : ∀ (l : List (DataW Unit × List V)) (i0 : Nat), (∀ p ∈ l, RdX P e p.1 p.2 ∧ p.2.length = sz) →
    (∀ (i : Nat) (x : DataW Unit × List V), l[i]? = some x → ∃ q, DataW.trod enc P w 0 (fun _ => true) held m e ((cs.drop ((i0 + i) * sz)).take sz) = some (x.1, q)) → (i0 + l.length) * sz = cs.length →
    RdCells w (l.flatMap (·.2)) (cs.drop (i0 * sz))
  | [], i0, _, _, hl => by
    rw [List.drop_eq_nil_of_le (by simp at hl; omega)]
    exact ⟨rfl, fun i v hv => by simp at hv⟩
  | x :: r, i0, h, hx, hl => by
    obtain ⟨h1, h2⟩ := h x (.head _)
    obtain ⟨q, hq⟩ := hx 0 x rfl
    have h3 := h1 enc w held m _ q hq
    have h4 := rd_aux r (i0 + 1) (fun p hp => h p (.tail _ hp)) (fun i y hy => by
      have := hx (i + 1) y (by simpa using hy)
      rw [show i0 + (i + 1) = i0 + 1 + i by omega] at this; exact this) (by rw [← hl, List.length_cons]; congr 1; omega)
    rw [List.flatMap_cons]
    refine RdCells.append h2 h3 ?_
    rw [List.drop_drop]
    rw [show i0 * sz + sz = (i0 + 1) * sz by rw [Nat.add_mul, Nat.one_mul]]
    exact h4
theorem RdX_array {n : Nat} {e : TypeId} {sz : Nat} (ht : P.underlying T = some (.array n e)) (hc : P.cellsOf T = n * sz) (hs : P.cellsOf e = sz) (l : List (DataW Unit × List V)) (hn : l.length = n) (h : ∀ p ∈ l, RdX P e p.1 p.2 ∧ p.2.length = sz) :
    RdX P T (.agg (l.map (·.1))) (l.flatMap (·.2)) := fun enc w held fuel cs p hx => by
  obtain ⟨xs, m, _, he, h1, h2, h3⟩ := DataW.trod_array ht hx
  have hd : l.map (·.1) = xs.map (·.1) := by
    have := congrArg Prod.fst he
    simpa using this
  have := rd_aux (P := P) (enc := enc) (w := w) (held := held) (m := m) (e := e) (sz := sz) (cs := cs) l 0 h (fun i x hx => by
    have hi : i < n := by rw [← hn]; exact (List.getElem?_eq_some_iff.1 hx).1
    have h4 := h3 i hi
    rw [hs] at h4
    rw [Nat.zero_add, h4]
    have h5 : (l.map (·.1))[i]? = some x.1 := by rw [List.getElem?_map, hx]; rfl
    rw [hd, List.getElem?_map] at h5
    obtain ⟨y, h6, h7⟩ := Option.map_eq_some_iff.1 h5
    exact ⟨y.2, by rw [h6, ← h7]⟩) (by rw [Nat.zero_add, hn, h1, hc])
  simpa using this
/-- A struct's fields from one on. -/
def RdXs (P : Program) (tot : Nat) (fs : List Field) (off : Nat) (ds : List (DataW Unit)) (vs : List V) : Prop :=
  ∀ (enc : TypeId × Value → Unit) (w : World) (held : Bool) (n : Nat) (cs : List Value) (xs : List (DataW Unit × List MemPlace)), cs.length = tot → xs.length = fs.length →
    (∀ (i : Nat) (g : Field), fs[i]? = some g → DataW.trod enc P w 0 (fun _ => true) held n g.type ((cs.drop g.offset).take (P.cellsOf g.type)) = xs[i]?) → xs.map (·.1) = ds → RdCells w vs (cs.drop off)
theorem RdXs_nil {tot off : Nat} (h : off = tot) : RdXs P tot [] off [] [] :=
  fun enc w held n cs xs hl _ _ _ => by rw [List.drop_eq_nil_of_le (by omega)]; exact ⟨rfl, fun i v hv => by simp at hv⟩
theorem RdXs_cons {tot off sz : Nat} {fd : Field} {fs : List Field} {d : DataW Unit} {v : List V} {ds : List (DataW Unit)} {vs : List V} (ho : fd.offset = off) (hs : P.cellsOf fd.type = sz) (h : RdX P fd.type d v) (hlen : v.length = sz)
    (h' : RdXs P tot fs (off + sz) ds vs) : RdXs P tot (fd :: fs) off (d :: ds) (v ++ vs) :=
  fun enc w held n cs xs hl hxl hx hd => by
    cases xs with
    | nil => simp at hxl
    | cons x xs =>
      simp only [List.map_cons, List.cons.injEq] at hd
      have h0 := hx 0 fd rfl
      have h1 := h enc w held n _ x.2 (by rw [← hd.1]; exact h0)
      have h4 := h' enc w held n cs xs hl (by simpa using hxl) (fun i g hg => by simpa using hx (i + 1) g (by simpa using hg)) hd.2
      rw [ho, hs] at h1
      rw [← List.drop_drop] at h4
      exact .append hlen h1 h4
theorem RdX_struct {fs : Array Field} {tot : Nat} {ds : List (DataW Unit)} {vs : List V} (ht : P.underlying T = some (.struct fs)) (hc : P.cellsOf T = tot) (h : RdXs P tot fs.toList 0 ds vs) : RdX P T (.agg ds) vs :=
  fun enc w held fuel cs p hx => by
    obtain ⟨xs, n, _, he, h1, h2, h3⟩ := DataW.trod_struct ht hx
    have hd : ds = xs.map (·.1) := by
      have := congrArg Prod.fst he
      simpa using this
    have := h enc w held n cs xs (by rw [h1, hc]) (by simpa using h2) (fun i g hg => h3 i g (by simpa using hg)) hd.symm
    simpa using this
/-- A package variable's cells, as frozen ones. -/
theorem fp_of_var {n : String} {g : Nat} {w : World} {cs : Array Value} {vs : List V} (hg : P.globalNamed n = some g) (hv : w.var? P n = some cs) (h : RdCells w vs cs.toList) : R (Gall w) w true (.fp vs 0) (.pointer (some ⟨g, 0, none⟩)) := by
  have hc : ∀ (j : Nat) (v : V), vs[j]? = some v → w.cell? ⟨g, 0 + j, none⟩ = some (cs.toList.getD j undef) := fun j v hv' => by
    have hj : j < cs.toList.length := by rw [← h.1]; exact (List.getElem?_eq_some_iff.1 hv').1
    rw [Nat.zero_add, World.var?_cell hg hv j]
    have hj' : j < cs.size := by simpa using hj
    rw [Array.getElem?_eq_getElem hj', List.getD, List.getElem?_eq_getElem hj]
    simp
  have hd : ∀ (j : Nat) (v : V), vs[j]? = some v → cellD w g (0 + j) = cs.toList.getD j undef := fun j v hv' => by unfold cellD; rw [hc j v hv']; rfl
  refine .fp (fun j v hv' => ⟨by rw [hc j v hv']; rfl, Gall_cell (hc j v hv')⟩) (fun j v hv' => ?_) (fun j v hv' => ?_)
  · rw [hd j v hv']; exact (h.2 j v hv').1
  · rw [hd j v hv']; exact (h.2 j v hv').2
end
end Go.AM
end
section
set_option linter.unusedVariables false
namespace Go.Proofs.YtbgooadmonnjaaaGreatDoor
open Go Go.AM
theorem laidOut : laidOutB Tryz.prog = true := by kernel_rfl
theorem ownNone : ownKnob Tryz.prog.godebug = none := by kernel_rfl
def keptBytes : List (List UInt8) := [[99, 108, 111, 99, 107], [105, 110, 116], [99, 104, 97, 110], [97, 117, 116, 111], [108, 111, 99], [101, 100, 103, 101], [105, 110], [105, 110, 118], [119, 104, 101, 110], [115, 121, 110, 99], [100, 111], [117, 114, 103, 101, 110, 116], [99, 111, 109, 109, 105, 116, 116, 101, 100], [116, 114, 117, 101], [114, 101, 97, 99, 104], [110, 101, 118, 101, 114]]
def kindRows : List (Int × Bool × Bool × List UInt8 × Int) := [(0, false, false, [], 0), (0, false, false, [], 9), (0, false, false, [], 9), (1, false, false, [45], 6), (2, false, false, [43], 4), (2, false, false, [45], 4), (2, false, false, [42], 5), (0, true, false, [116, 114, 117, 101], 9), (2, true, false, [60], 3), (2, true, false, [60, 61], 3), (2, true, false, [61, 61], 3), (2, true, false, [33, 61], 3), (1, true, true, [33], 9), (2, true, true, [38, 38], 2), (2, true, true, [124, 124], 1)]
theorem co9 : Tryz.prog.cellsOf 9 = 1 := by kernel_rfl
theorem co3 : Tryz.prog.cellsOf 3 = 1 := by kernel_rfl
theorem co4 : Tryz.prog.cellsOf 4 = 1 := by kernel_rfl
theorem co317 : Tryz.prog.cellsOf 317 = 5 := by kernel_rfl
theorem co353 : Tryz.prog.cellsOf 353 = 16 * 1 := by kernel_rfl
theorem co341 : Tryz.prog.cellsOf 341 = 15 * 5 := by kernel_rfl
def keptPairs : List (DataW Unit × List V) := keptBytes.map fun s => (.lit (.string s), [.str ⟨s.toArray⟩])
def kindPairs : List (DataW Unit × List V) := kindRows.map fun x => (.agg [.lit (.int .i64 x.1), .lit (.bool x.2.1), .lit (.bool x.2.2.1), .lit (.string x.2.2.2.1), .lit (.int .i64 x.2.2.2.2)], [.int .i64 x.1, .bool x.2.1, .bool x.2.2.1, .str ⟨x.2.2.2.1.toArray⟩, .int .i64 x.2.2.2.2])
set_option maxRecDepth 100000 in
theorem rdKept : RdX Tryz.prog 353 Rows.laid_gnomon_lex_kept keptV := by
  have h := RdX_array (P := Tryz.prog) (T := 353) (n := 16) (e := 9) (sz := 1) Tryz.underlying353 co353 co9 keptPairs rfl (fun p hp => by
    obtain ⟨s, _, rfl⟩ := List.mem_map.1 hp
    exact ⟨RdX_string Tryz.underlying9, rfl⟩)
  exact h
set_option maxRecDepth 100000 in
theorem rdKinds : RdX Tryz.prog 341 Rows.laid_gnomon_expr_kinds kindsV := by
  have h := RdX_array (P := Tryz.prog) (T := 341) (n := 15) (e := 317) (sz := 5) Tryz.underlying341 co341 co317 kindPairs rfl (fun p hp => by
    obtain ⟨x, _, rfl⟩ := List.mem_map.1 hp
    refine ⟨?_, rfl⟩
    exact RdX_struct Tryz.underlying317 co317 (RdXs_cons rfl co3 (RdX_int Tryz.underlying3) rfl (RdXs_cons rfl co4 (RdX_bool Tryz.underlying4) rfl (RdXs_cons rfl co4 (RdX_bool Tryz.underlying4) rfl (RdXs_cons rfl co9 (RdX_string Tryz.underlying9) rfl (RdXs_cons rfl co3 (RdX_int Tryz.underlying3) rfl (RdXs_nil rfl)))))))
  exact h
theorem gKept : Tryz.prog.globalNamed "gnomon/lex.kept" = some 1 := by kernel_rfl
theorem gKinds : Tryz.prog.globalNamed "gnomon/expr.kinds" = some 0 := by kernel_rfl
theorem tKept : (Tryz.prog.globals[1]?).map (·.type) = some 353 := by kernel_rfl
theorem tKinds : (Tryz.prog.globals[0]?).map (·.type) = some 341 := by kernel_rfl
/-- What all rows of this seat list. -/
def laidAll : List (String × DataW Unit) := [("gnomon/expr.kinds", Rows.laid_gnomon_expr_kinds), ("gnomon/lex.kept", Rows.laid_gnomon_lex_kept)]
set_option maxRecDepth 100000 in
theorem ge_of_laid {W : World} (h : laidMetH Tryz.prog laidAll W) : GE GV (Gall W) W := by
  rw [MakeChecks.laidMetH_plain _ _ _ (by kernel_rfl)] at h
  obtain ⟨ps, ⟨g1, t1, cs1, f1, p1, q1, hg1, ht1, hv1, hd1, ⟨g0, t0, cs0, f0, p0, q0, hg0, ht0, hv0, hd0, _, _⟩, _⟩, _, _⟩ := h
  obtain rfl := Option.some.inj (gKinds.symm.trans hg1)
  obtain rfl := Option.some.inj (gKept.symm.trans hg0)
  obtain rfl := Option.some.inj (tKinds.symm.trans ht1)
  obtain rfl := Option.some.inj (tKept.symm.trans ht0)
  refine GE_all fun g cs hgc => ?_
  unfold GV at hgc
  split at hgc
  · rename_i h0; subst h0; cases hgc
    exact fp_of_var gKinds hv1 (rdKinds _ W false _ _ _ hd1)
  · split at hgc
    · rename_i h0 h1; subst h1; cases hgc
      exact fp_of_var gKept hv0 (rdKept _ W false _ _ _ hd0)
    · cases hgc
def keptArr : Array Value := #[.string ⟨#[99, 108, 111, 99, 107]⟩, .string ⟨#[105, 110, 116]⟩, .string ⟨#[99, 104, 97, 110]⟩, .string ⟨#[97, 117, 116, 111]⟩, .string ⟨#[108, 111, 99]⟩, .string ⟨#[101, 100, 103, 101]⟩, .string ⟨#[105, 110]⟩, .string ⟨#[105, 110, 118]⟩, .string ⟨#[119, 104, 101, 110]⟩, .string ⟨#[115, 121, 110, 99]⟩, .string ⟨#[100, 111]⟩, .string ⟨#[117, 114, 103, 101, 110, 116]⟩, .string ⟨#[99, 111, 109, 109, 105, 116, 116, 101, 100]⟩, .string ⟨#[116, 114, 117, 101]⟩, .string ⟨#[114, 101, 97, 99, 104]⟩, .string ⟨#[110, 101, 118, 101, 114]⟩]
def kindArr : Array Value := (kindRows.flatMap fun x => [Value.int .i64 x.1, .bool x.2.1, .bool x.2.2.1, .string ⟨x.2.2.2.1.toArray⟩, .int .i64 x.2.2.2.2]).toArray
def laidCells (arr : Array Value) : Obj → Obj
  | .cells _ t frozen => .cells arr t frozen
  | o => o
/-- A world for the witnesses: the settled one, the two variables holding what their initialisers lay. -/
noncomputable def laidWorld (os : Os) : World :=
  { World.holding Tryz.prog os ⟨#[], #[], []⟩ with heap := ((World.holding Tryz.prog os ⟨#[], #[], []⟩).heap.modify 1 (laidCells keptArr)).modify 0 (laidCells kindArr) }
theorem laid_met (os : Os) (args : Array Value) : laidMetH Tryz.prog laidAll ((laidWorld os).forCall (fun _ _ => 0) ⟨#[], args, []⟩).memory := by
  rw [MakeChecks.laidMetH_plain _ _ _ (by kernel_rfl)]
  exact laidMet_of_run' 8 (by kernel_rfl) (by kernel_rfl)
end Go.Proofs.YtbgooadmonnjaaaGreatDoor
end
