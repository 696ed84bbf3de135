/-
  YtgmlimipejcpgaaGreatDoorCo12: steps of the proof of a law of the program: what these texts prove holds under the hypotheses that their theorems name, and no others.
-/
import Derived.OpenShut
import Derived.Test.YtgmlimipejcpgaaGreatDoorCo11
import Derived.Test.YtgmlimipejcpgaaGreatDoorCards
import Derived.Test.YtgmlimipejcpgaaGreatDoorTie
import Derived.WalkKit
import Derived.ProofKit
import Derived.ChangeOld
import Derived.Carry
import Derived.JoinedCond
import Derived.Deep.DeepHandedRow
section
set_option linter.unusedVariables false
set_option linter.unusedSimpArgs false
namespace Go.AM
/-- What reads as this datum stands for these cells. -/
def RdX (P : Program) (T : TypeId) (d : DataW Unit) (vs : List V) : Prop :=
  ∀ (enc : TypeId × Value → Unit) (w : World) (held : Bool) (fuel : Nat) (cs : List Value) (p : List MemPlace), DataW.trod enc P w 0 (fun _ => true) held fuel T cs = some (d, p) → RdCells w vs cs
section
variable {P : Program} {T : TypeId}
theorem RdX_int {k : IntKind} {n : Int} (ht : P.underlying T = some (.int k)) : RdX P T (.lit (.int k n)) [.int k n] := fun enc w held fuel cs p hx => by
  obtain ⟨m, rfl, h, _⟩ := DataW.trod_int ht hx
  cases h
  exact .one rfl .int
theorem RdX_bool {b : Bool} (ht : P.underlying T = some .bool) : RdX P T (.lit (.bool b)) [.bool b] := fun enc w held fuel cs p hx => by
  obtain ⟨m, rfl, h⟩ := DataW.trod_bool ht hx
  cases h
  exact .one rfl .bool
theorem RdX_string {l : List UInt8} (ht : P.underlying T = some .string) : RdX P T (.lit (.string l)) [.str ⟨l.toArray⟩] := fun enc w held fuel cs p hx => by
  obtain ⟨s, rfl, h, _⟩ := DataW.trod_string ht hx
  cases h
  exact .one rfl .str
theorem rd_aux {enc : TypeId × Value → Unit} {w : World} {held : Bool} {m : Nat} {e : TypeId} {sz : Nat} {cs : List Value} : ∀ (l : List (DataW Unit × List V)) (i0 : Nat), (∀ p ∈ l, RdX P e p.1 p.2 ∧ p.2.length = sz) →
    (∀ (i : Nat) (x : DataW Unit × List V), l[i]? = some x → ∃ q, DataW.trod enc P w 0 (fun _ => true) held m e ((cs.drop ((i0 + i) * sz)).take sz) = some (x.1, q)) → (i0 + l.length) * sz = cs.length →
    RdCells w (l.flatMap (·.2)) (cs.drop (i0 * sz))
  | [], i0, _, _, hl => by
    rw [List.drop_eq_nil_of_le (by simp at hl; omega)]
    exact ⟨rfl, fun i v hv => by simp at hv⟩
  | x :: r, i0, h, hx, hl => by
    obtain ⟨h1, h2⟩ := h x (.head _)
    obtain ⟨q, hq⟩ := hx 0 x rfl
    have h3 := h1 enc w held m _ q hq
    have h4 := rd_aux r (i0 + 1) (fun p hp => h p (.tail _ hp)) (fun i y hy => by
      have := hx (i + 1) y (by simpa using hy)
      rw [show i0 + (i + 1) = i0 + 1 + i by omega] at this; exact this) (by rw [← hl, List.length_cons]; congr 1; omega)
    rw [List.flatMap_cons]
    refine RdCells.append h2 h3 ?_
    rw [List.drop_drop]
    rw [show i0 * sz + sz = (i0 + 1) * sz by rw [Nat.add_mul, Nat.one_mul]]
    exact h4
theorem RdX_array {n : Nat} {e : TypeId} {sz : Nat} (ht : P.underlying T = some (.array n e)) (hc : P.cellsOf T = n * sz) (hs : P.cellsOf e = sz) (l : List (DataW Unit × List V)) (hn : l.length = n) (h : ∀ p ∈ l, RdX P e p.1 p.2 ∧ p.2.length = sz) :
    RdX P T (.agg (l.map (·.1))) (l.flatMap (·.2)) := fun enc w held fuel cs p hx => by
  obtain ⟨xs, m, _, he, h1, h2, h3⟩ := DataW.trod_array ht hx
  have hd : l.map (·.1) = xs.map (·.1) := by
    have := congrArg Prod.fst he
    simpa using this
  have := rd_aux (P := P) (enc := enc) (w := w) (held := held) (m := m) (e := e) (sz := sz) (cs := cs) l 0 h (fun i x hx => by
    have hi : i < n := by rw [← hn]; exact (List.getElem?_eq_some_iff.1 hx).1
    have h4 := h3 i hi
    rw [hs] at h4
    rw [Nat.zero_add, h4]
    have h5 : (l.map (·.1))[i]? = some x.1 := by rw [List.getElem?_map, hx]; rfl
    rw [hd, List.getElem?_map] at h5
    obtain ⟨y, h6, h7⟩ := Option.map_eq_some_iff.1 h5
    exact ⟨y.2, by rw [h6, ← h7]⟩) (by rw [Nat.zero_add, hn, h1, hc])
  simpa using this
/-- A struct's fields from one on. -/
def RdXs (P : Program) (tot : Nat) (fs : List Field) (off : Nat) (ds : List (DataW Unit)) (vs : List V) : Prop :=
  ∀ (enc : TypeId × Value → Unit) (w : World) (held : Bool) (n : Nat) (cs : List Value) (xs : List (DataW Unit × List MemPlace)), cs.length = tot → xs.length = fs.length →
    (∀ (i : Nat) (g : Field), fs[i]? = some g → DataW.trod enc P w 0 (fun _ => true) held n g.type ((cs.drop g.offset).take (P.cellsOf g.type)) = xs[i]?) → xs.map (·.1) = ds → RdCells w vs (cs.drop off)
theorem RdXs_nil {tot off : Nat} (h : off = tot) : RdXs P tot [] off [] [] :=
  fun enc w held n cs xs hl _ _ _ => by rw [List.drop_eq_nil_of_le (by omega)]; exact ⟨rfl, fun i v hv => by simp at hv⟩
theorem RdXs_cons {tot off sz : Nat} {fd : Field} {fs : List Field} {d : DataW Unit} {v : List V} {ds : List (DataW Unit)} {vs : List V} (ho : fd.offset = off) (hs : P.cellsOf fd.type = sz) (h : RdX P fd.type d v) (hlen : v.length = sz)
    (h' : RdXs P tot fs (off + sz) ds vs) : RdXs P tot (fd :: fs) off (d :: ds) (v ++ vs) :=
  fun enc w held n cs xs hl hxl hx hd => by
    cases xs with
    | nil => simp at hxl
    | cons x xs =>
      simp only [List.map_cons, List.cons.injEq] at hd
      have h0 := hx 0 fd rfl
      have h1 := h enc w held n _ x.2 (by rw [← hd.1]; exact h0)
      have h4 := h' enc w held n cs xs hl (by simpa using hxl) (fun i g hg => by simpa using hx (i + 1) g (by simpa using hg)) hd.2
      rw [ho, hs] at h1
      rw [← List.drop_drop] at h4
      exact .append hlen h1 h4
theorem RdX_struct {fs : Array Field} {tot : Nat} {ds : List (DataW Unit)} {vs : List V} (ht : P.underlying T = some (.struct fs)) (hc : P.cellsOf T = tot) (h : RdXs P tot fs.toList 0 ds vs) : RdX P T (.agg ds) vs :=
  fun enc w held fuel cs p hx => by
    obtain ⟨xs, n, _, he, h1, h2, h3⟩ := DataW.trod_struct ht hx
    have hd : ds = xs.map (·.1) := by
      have := congrArg Prod.fst he
      simpa using this
    have := h enc w held n cs xs (by rw [h1, hc]) (by simpa using h2) (fun i g hg => h3 i g (by simpa using hg)) hd.symm
    simpa using this
/-- A package variable's cells, as frozen ones. -/
theorem fp_of_var {n : String} {g : Nat} {w : World} {cs : Array Value} {vs : List V} (hg : P.globalNamed n = some g) (hv : w.var? P n = some cs) (h : RdCells w vs cs.toList) : R (Gall w) w true (.fp vs 0) (.pointer (some ⟨g, 0, none⟩)) := by
  have hc : ∀ (j : Nat) (v : V), vs[j]? = some v → w.cell? ⟨g, 0 + j, none⟩ = some (cs.toList.getD j undef) := fun j v hv' => by
    have hj : j < cs.toList.length := by rw [← h.1]; exact (List.getElem?_eq_some_iff.1 hv').1
    rw [Nat.zero_add, World.var?_cell hg hv j]
    have hj' : j < cs.size := by simpa using hj
    rw [Array.getElem?_eq_getElem hj', List.getD, List.getElem?_eq_getElem hj]
    simp
  have hd : ∀ (j : Nat) (v : V), vs[j]? = some v → cellD w g (0 + j) = cs.toList.getD j undef := fun j v hv' => by unfold cellD; rw [hc j v hv']; rfl
  refine .fp (fun j v hv' => ⟨by rw [hc j v hv']; rfl, Gall_cell (hc j v hv')⟩) (fun j v hv' => ?_) (fun j v hv' => ?_)
  · rw [hd j v hv']; exact (h.2 j v hv').1
  · rw [hd j v hv']; exact (h.2 j v hv').2
end
end Go.AM
end
section
set_option linter.unusedVariables false
namespace Go.Proofs.YtgmlimipejcpgaaGreatDoor
open Go Go.AM
theorem laidOut : laidOutB Tryz.prog = true := by kernel_rfl
theorem ownNone : ownKnob Tryz.prog.godebug = none := by kernel_rfl
def keptBytes : List (List UInt8) := [[99, 108, 111, 99, 107], [105, 110, 116], [99, 104, 97, 110], [97, 117, 116, 111], [108, 111, 99], [101, 100, 103, 101], [105, 110], [105, 110, 118], [119, 104, 101, 110], [115, 121, 110, 99], [100, 111], [117, 114, 103, 101, 110, 116], [99, 111, 109, 109, 105, 116, 116, 101, 100], [116, 114, 117, 101], [114, 101, 97, 99, 104], [110, 101, 118, 101, 114]]
def kindRows : List (Int × Bool × Bool × List UInt8 × Int) := [(0, false, false, [], 0), (0, false, false, [], 9), (0, false, false, [], 9), (1, false, false, [45], 6), (2, false, false, [43], 4), (2, false, false, [45], 4), (2, false, false, [42], 5), (0, true, false, [116, 114, 117, 101], 9), (2, true, false, [60], 3), (2, true, false, [60, 61], 3), (2, true, false, [61, 61], 3), (2, true, false, [33, 61], 3), (1, true, true, [33], 9), (2, true, true, [38, 38], 2), (2, true, true, [124, 124], 1)]
theorem co9 : Tryz.prog.cellsOf 9 = 1 := by kernel_rfl
theorem co3 : Tryz.prog.cellsOf 3 = 1 := by kernel_rfl
theorem co4 : Tryz.prog.cellsOf 4 = 1 := by kernel_rfl
theorem co243 : Tryz.prog.cellsOf 243 = 5 := by kernel_rfl
theorem co259 : Tryz.prog.cellsOf 259 = 16 * 1 := by kernel_rfl
theorem co261 : Tryz.prog.cellsOf 261 = 15 * 5 := by kernel_rfl
def keptPairs : List (DataW Unit × List V) := keptBytes.map fun s => (.lit (.string s), [.str ⟨s.toArray⟩])
def kindPairs : List (DataW Unit × List V) := kindRows.map fun x => (.agg [.lit (.int .i64 x.1), .lit (.bool x.2.1), .lit (.bool x.2.2.1), .lit (.string x.2.2.2.1), .lit (.int .i64 x.2.2.2.2)], [.int .i64 x.1, .bool x.2.1, .bool x.2.2.1, .str ⟨x.2.2.2.1.toArray⟩, .int .i64 x.2.2.2.2])
set_option maxRecDepth 100000 in
theorem rdKept : RdX Tryz.prog 259 Rows.laid_gnomon_lex_kept keptV := by
  have h := RdX_array (P := Tryz.prog) (T := 259) (n := 16) (e := 9) (sz := 1) Tryz.underlying259 co259 co9 keptPairs rfl (fun p hp => by
    obtain ⟨s, _, rfl⟩ := List.mem_map.1 hp
    exact ⟨RdX_string Tryz.underlying9, rfl⟩)
  exact h
set_option maxRecDepth 100000 in
theorem rdKinds : RdX Tryz.prog 261 Rows.laid_gnomon_expr_kinds kindsV := by
  have h := RdX_array (P := Tryz.prog) (T := 261) (n := 15) (e := 243) (sz := 5) Tryz.underlying261 co261 co243 kindPairs rfl (fun p hp => by
    obtain ⟨x, _, rfl⟩ := List.mem_map.1 hp
    refine ⟨?_, rfl⟩
    exact RdX_struct Tryz.underlying243 co243 (RdXs_cons rfl co3 (RdX_int Tryz.underlying3) rfl (RdXs_cons rfl co4 (RdX_bool Tryz.underlying4) rfl (RdXs_cons rfl co4 (RdX_bool Tryz.underlying4) rfl (RdXs_cons rfl co9 (RdX_string Tryz.underlying9) rfl (RdXs_cons rfl co3 (RdX_int Tryz.underlying3) rfl (RdXs_nil rfl)))))))
  exact h
theorem gKept : Tryz.prog.globalNamed "gnomon/lex.kept" = some 0 := by kernel_rfl
theorem gKinds : Tryz.prog.globalNamed "gnomon/expr.kinds" = some 1 := by kernel_rfl
theorem tKept : (Tryz.prog.globals[0]?).map (·.type) = some 259 := by kernel_rfl
theorem tKinds : (Tryz.prog.globals[1]?).map (·.type) = some 261 := by kernel_rfl
/-- What all rows of this seat list. -/
def laidAll : List (String × DataW Unit) := [("gnomon/expr.kinds", Rows.laid_gnomon_expr_kinds), ("gnomon/lex.kept", Rows.laid_gnomon_lex_kept)]
set_option maxRecDepth 100000 in
theorem ge_of_laid {W : World} (h : laidMetH Tryz.prog laidAll W) : GE GV (Gall W) W := by
  rw [MakeChecks.laidMetH_plain _ _ _ (by kernel_rfl)] at h
  obtain ⟨ps, ⟨g1, t1, cs1, f1, p1, q1, hg1, ht1, hv1, hd1, ⟨g0, t0, cs0, f0, p0, q0, hg0, ht0, hv0, hd0, _, _⟩, _⟩, _, _⟩ := h
  obtain rfl := Option.some.inj (gKinds.symm.trans hg1)
  obtain rfl := Option.some.inj (gKept.symm.trans hg0)
  obtain rfl := Option.some.inj (tKinds.symm.trans ht1)
  obtain rfl := Option.some.inj (tKept.symm.trans ht0)
  refine GE_all fun g cs hgc => ?_
  unfold GV at hgc
  split at hgc
  · rename_i h0; subst h0; cases hgc
    exact fp_of_var gKept hv0 (rdKept _ W false _ _ _ hd0)
  · split at hgc
    · rename_i h0 h1; subst h1; cases hgc
      exact fp_of_var gKinds hv1 (rdKinds _ W false _ _ _ hd1)
    · cases hgc
def keptArr : Array Value := #[.string ⟨#[99, 108, 111, 99, 107]⟩, .string ⟨#[105, 110, 116]⟩, .string ⟨#[99, 104, 97, 110]⟩, .string ⟨#[97, 117, 116, 111]⟩, .string ⟨#[108, 111, 99]⟩, .string ⟨#[101, 100, 103, 101]⟩, .string ⟨#[105, 110]⟩, .string ⟨#[105, 110, 118]⟩, .string ⟨#[119, 104, 101, 110]⟩, .string ⟨#[115, 121, 110, 99]⟩, .string ⟨#[100, 111]⟩, .string ⟨#[117, 114, 103, 101, 110, 116]⟩, .string ⟨#[99, 111, 109, 109, 105, 116, 116, 101, 100]⟩, .string ⟨#[116, 114, 117, 101]⟩, .string ⟨#[114, 101, 97, 99, 104]⟩, .string ⟨#[110, 101, 118, 101, 114]⟩]
def kindArr : Array Value := (kindRows.flatMap fun x => [Value.int .i64 x.1, .bool x.2.1, .bool x.2.2.1, .string ⟨x.2.2.2.1.toArray⟩, .int .i64 x.2.2.2.2]).toArray
def laidCells (arr : Array Value) : Obj → Obj
  | .cells _ t frozen => .cells arr t frozen
  | o => o
/-- A world for the witnesses: the settled one, the two variables holding what their initialisers lay. -/
noncomputable def laidWorld (os : Os) : World :=
  { World.holding Tryz.prog os ⟨#[], #[], []⟩ with heap := ((World.holding Tryz.prog os ⟨#[], #[], []⟩).heap.modify 0 (laidCells keptArr)).modify 1 (laidCells kindArr) }
theorem laid_met (os : Os) (args : Array Value) : laidMetH Tryz.prog laidAll ((laidWorld os).forCall (fun _ _ => 0) ⟨#[], args, []⟩).memory := by
  rw [MakeChecks.laidMetH_plain _ _ _ (by kernel_rfl)]
  exact laidMet_of_run' 8 (by kernel_rfl) (by kernel_rfl)
end Go.Proofs.YtgmlimipejcpgaaGreatDoor
end
section
set_option linter.unusedVariables false
set_option linter.unusedSimpArgs false
namespace Go.AM
section
variable {P : Program} {ge : GEnv} {st : St} {Q : Exit → St → Prop} {G : Gh} {w : World}
theorem getD_push (t : Array Value) (c : Value) (i : Nat) : (t.push c).getD i undef = if i = t.size then c else t.getD i undef := by
  simp only [Array.getD_eq_getD_getElem?, Array.getElem?_push]
  split <;> rfl
/-- A row is frozen, told by any value that points to it. -/
theorem view_any {a : Act} (hr : Rep P ge G st a w) {b gg off len : Nat} {T : TypeId} {fzn : Nat} {xs : List (List V)} {c : Value} {fr : Bool} (hc : R G w fr (.ref b gg off len) c)
    (hb : st.h[b]? = some (.row T gg fzn true xs)) (hle : off + len ≤ xs.length) :
    ∃ G', Rep P ge G' { st with h := st.h.set b (.row T gg xs.length true xs) } a w ∧ Ext G st.h w G' (st.h.set b (.row T gg xs.length true xs)) w ∧ R G' w false (.vec (xs.drop off) len) c := by
  have hcf : R G w false (.ref b gg off len) c := by
    cases fr with
    | false => exact hc
    | true => exact hc.weak rfl
  have hr1 : Rep P ge G ⟨st.n + 1, (st.n, .ref b gg off len) :: st.tm, st.h⟩ { a with tmps := a.tmps.push c } w := by
    refine ⟨hr.rh, fun t => ?_, by simp [hr.n], hr.d⟩
    simp only [lk, getD_push, hr.n]
    by_cases e : st.n = t
    · subst e; simp; exact hcf
    · rw [if_neg e, if_neg (fun h => e h.symm)]; exact hr.tm t
  obtain ⟨G', r, x⟩ := Rep_view (s := st.n) hr1 (by simp [lk]) hb hle
  refine ⟨G', ⟨r.rh, fun t => ?_, hr.n, hr.d⟩, x, ?_⟩
  · by_cases e : t = st.n
    · subst e
      have h1 : a.tmps.getD st.n undef = undef := by rw [Array.getD_eq_getD_getElem?, Array.getElem?_eq_none (by rw [hr.n]; exact Nat.le_refl _)]; rfl
      have h2 := (hr.tm st.n).mono x.le
      exact h2
    · have := r.tm t
      simp only [lk, getD_push, hr.n] at this
      rw [if_neg (fun h => e h.symm), if_neg (fun h => e h.symm), if_neg e] at this
      exact this
  · have := r.tm st.n
    simp only [lk, getD_push, hr.n, if_true] at this
    exact this
/-- A variable's cell is told otherwise. -/
theorem RH_retell {h : List B} (rh : RH P ge G h w) {b0 j : Nat} {cs : List V} {v : V} (hb : h[b0]? = some (.var cs))
    (hv : ∀ (c : Value) (u : V), cs[j]? = some u → R G w false u c → c.oneCell' = true → R G w false v c) :
    RH P ge G (h.set b0 (.var (cs.set j v))) w ∧ Ext G h w G (h.set b0 (.var (cs.set j v))) w := by
  obtain ⟨h00, k, arr, T, hm, hh, hfz, hs, hcells⟩ := rh.bl b0 _ hb
  refine RH_upd (w' := w) rh hb hm rfl (fun _ _ => rfl) rfl ⟨rfl, rfl⟩ (.refl _ _) ⟨h00, k, arr, T, hm, hh, hfz, by simp [hs], fun i u hu => ?_⟩ hm
  rw [List.getElem?_set] at hu
  split at hu
  · rename_i e
    subst e
    split at hu
    · rename_i hj
      cases hu
      have := hcells j cs[j] (List.getElem?_eq_getElem hj)
      exact ⟨this.1, hv _ _ (List.getElem?_eq_getElem hj) this.2 this.1⟩
    · cases hu
  · exact hcells i u hu
/-- A row that a variable's cell points to is frozen. -/
theorem AW_viewcell {c : Code} (b0 j : Nat) {b gg off len : Nat} {T : TypeId} {fzn : Nat} {xs : List (List V)} {cs : List V} (h0 : st.h[b0]? = some (.var cs)) (hj : cs[j]? = some (.ref b gg off len))
    (hb : st.h[b]? = some (.row T gg fzn true xs)) (hle : off + len ≤ xs.length)
    (h : AW P ge c Q { st with h := (st.h.set b (.row T gg xs.length true xs)).set b0 (.var (cs.set j (.vec (xs.drop off) len))) }) : AW P ge c Q st := by
  intro G a w hr
  obtain ⟨h00, k, arr, T', hm, hh, hfz, hs, hcells⟩ := hr.rh.bl b0 _ h0
  obtain ⟨G', r, x, hv⟩ := view_any hr (hcells j _ hj).2 hb hle
  have hne : b0 ≠ b := fun e => by subst e; rw [h0] at hb; cases hb
  have h0' : (st.h.set b (.row T gg xs.length true xs))[b0]? = some (.var cs) := by
    rw [List.getElem?_set, if_neg (fun e => hne e.symm)]; exact h0
  obtain ⟨h00', k', arr', T'', hm', hh', hfz', hs', hcells'⟩ := r.rh.bl b0 _ h0'
  have hmm : G'.m b0 0 = G.m b0 0 := x.le.m b0 0 (by have := (List.getElem?_eq_some_iff.1 h0).1; rw [hr.rh.n] at this; exact this) (Nat.zero_le _)
  have hkk : k' = k := by rw [hmm, hm] at hm'; cases hm'; rfl
  subst hkk
  have haa : arr' = arr := by rw [hh] at hh'; cases hh'; rfl
  subst haa
  obtain ⟨rh2, x2⟩ := RH_upd (w' := w) (y := .var (cs.set j (.vec (xs.drop off) len))) r.rh h0' hm' rfl (fun _ _ => rfl) rfl ⟨rfl, rfl⟩ (.refl _ _) ⟨h00', k', arr', T'', hm', hh', hfz', by simp [hs'], fun i u hu => by
    rw [List.getElem?_set] at hu
    split at hu
    · rename_i e
      subst e
      split at hu
      · cases hu; exact ⟨(hcells' j _ hj).1, hv⟩
      · cases hu
    · exact hcells' i u hu⟩ hm'
  exact wp_mono (h G' a w ⟨rh2, r.tm, r.n, r.d⟩) fun _ _ _ hp => hp.mono (x.trans x2) fun _ _ h => h
/-- A nil slice in a variable's cell, as an empty row of one's own. -/
theorem AW_nilcell {c : Code} (b0 j : Nat) (T : TypeId) {cs : List V} (h0 : st.h[b0]? = some (.var cs)) (hj : cs[j]? = some .nils) (hT : 0 < szOf P T)
    (h : AW P ge c Q { st with h := (st.h ++ [B.row T 0 0 true []]).set b0 (.var (cs.set j (.ref st.h.length 0 0 0))) }) : AW P ge c Q st := by
  intro G a w hr
  have hk : ∀ k', (G.push none (szOf P T) 0).at G.n (.row T 0 0 true []) = some k' → w.heap.size ≤ k' := fun k' h => by
    simp [Gh.at, Gh.push] at h
  have hrb : RB P (G.push none (szOf P T) 0) w G.n (.row T 0 0 true []) := ⟨by simp [Gh.push], Nat.zero_le _, by simp [Gh.push, hT], .inl ⟨by simp [Gh.push], rfl⟩⟩
  have rh := hr.rh.push (.refl w) hrb hk
  have ext := Ext.push hr.rh (.refl w) hk
  have hlt : b0 < st.h.length := (List.getElem?_eq_some_iff.1 h0).1
  have h0' : (st.h ++ [B.row T 0 0 true []])[b0]? = some (.var cs) := by rw [List.getElem?_append_left hlt]; exact h0
  obtain ⟨rh2, x2⟩ := RH_retell (j := j) (v := .ref st.h.length 0 0 0) rh h0' (fun c u hu hc ho => by
    rw [hj] at hu; cases hu
    cases hc
    rw [hr.rh.n]
    exact .refn (by simp [Gh.push]) (by simp [Gh.push]) (by simp [Gh.push]))
  exact wp_mono (h _ a w ⟨rh2, fun t => (hr.tm t).mono ext.le, hr.n, hr.d⟩) fun _ _ _ hp => hp.mono (ext.trans x2) fun _ _ h => h
end
end Go.AM
end
