/-
  YtgmlimipejcpgaaGreatDoorLj12: steps of the proof of a law of the program: what these texts prove holds under the hypotheses that their theorems name, and no others.
-/
import Derived.Test.YtgmlimipejcpgaaGreatDoorLj10
import Derived.OpenShut
import Derived.Test.YtgmlimipejcpgaaGreatDoorLj11
import Derived.Test.YtgmlimipejcpgaaGreatDoorCards
import Derived.Test.YtgmlimipejcpgaaGreatDoorTie
import Derived.WalkKit
import Derived.ProofKit
import Derived.ChangeOld
import Derived.Carry
import Derived.JoinedCond
import Derived.Deep.DeepHandedRow
section
set_option linter.unusedVariables false
set_option linter.unusedSimpArgs false
namespace Go.AM
/-- What reads as this datum stands for these cells. -/
def RdX (P : Program) (T : TypeId) (d : DataW Unit) (vs : List V) : Prop :=
  ∀ (enc : TypeId × Value → Unit) (w : World) (held : Bool) (fuel : Nat) (cs : List Value) (p : List MemPlace), DataW.trod enc P w 0 (fun _ => true) held fuel T cs = some (d, p) → RdCells w vs cs
section
variable {P : Program} {T : TypeId}
theorem RdX_int {k : IntKind} {n : Int} (ht : P.underlying T = some (.int k)) : RdX P T (.lit (.int k n)) [.int k n] := fun enc w held fuel cs p hx => by
  obtain ⟨m, rfl, h, _⟩ := DataW.trod_int ht hx
  cases h
  exact .one rfl .int
theorem RdX_bool {b : Bool} (ht : P.underlying T = some .bool) : RdX P T (.lit (.bool b)) [.bool b] := fun enc w held fuel cs p hx => by
  obtain ⟨m, rfl, h⟩ := DataW.trod_bool ht hx
  cases h
  exact .one rfl .bool
theorem RdX_string {l : List UInt8} (ht : P.underlying T = some .string) : RdX P T (.lit (.string l)) [.str ⟨l.toArray⟩] := fun enc w held fuel cs p hx => by
  obtain ⟨s, rfl, h, _⟩ := DataW.trod_string ht hx
  cases h
  exact .one rfl .str
theorem rd_aux {enc : TypeId × Value → Unit} {w : World} {held : Bool} {m : Nat} {e : TypeId} {sz : Nat} {cs : List Value} : ∀ (l : List (DataW Unit × List V)) (i0 : Nat), (∀ p ∈ l, RdX P e p.1 p.2 ∧ p.2.length = sz) →
    (∀ (i : Nat) (x : DataW Unit × List V), l[i]? = some x → ∃ q, DataW.trod enc P w 0 (fun _ => true) held m e ((cs.drop ((i0 + i) * sz)).take sz) = some (x.1, q)) → (i0 + l.length) * sz = cs.length →
    RdCells w (l.flatMap (·.2)) (cs.drop (i0 * sz))
  | [], i0, _, _, hl => by
    rw [List.drop_eq_nil_of_le (by simp at hl; omega)]
    exact ⟨rfl, fun i v hv => by simp at hv⟩
  | x :: r, i0, h, hx, hl => by
    obtain ⟨h1, h2⟩ := h x (.head _)
    obtain ⟨q, hq⟩ := hx 0 x rfl
    have h3 := h1 enc w held m _ q hq
    have h4 := rd_aux r (i0 + 1) (fun p hp => h p (.tail _ hp)) (fun i y hy => by
      have := hx (i + 1) y (by simpa using hy)
      rw [show i0 + (i + 1) = i0 + 1 + i by omega] at this; exact this) (by rw [← hl, List.length_cons]; congr 1; omega)
    rw [List.flatMap_cons]
    refine RdCells.append h2 h3 ?_
    rw [List.drop_drop]
    rw [show i0 * sz + sz = (i0 + 1) * sz by rw [Nat.add_mul, Nat.one_mul]]
    exact h4
theorem RdX_array {n : Nat} {e : TypeId} {sz : Nat} (ht : P.underlying T = some (.array n e)) (hc : P.cellsOf T = n * sz) (hs : P.cellsOf e = sz) (l : List (DataW Unit × List V)) (hn : l.length = n) (h : ∀ p ∈ l, RdX P e p.1 p.2 ∧ p.2.length = sz) :
    RdX P T (.agg (l.map (·.1))) (l.flatMap (·.2)) := fun enc w held fuel cs p hx => by
  obtain ⟨xs, m, _, he, h1, h2, h3⟩ := DataW.trod_array ht hx
  have hd : l.map (·.1) = xs.map (·.1) := by
    have := congrArg Prod.fst he
    simpa using this
  have := rd_aux (P := P) (enc := enc) (w := w) (held := held) (m := m) (e := e) (sz := sz) (cs := cs) l 0 h (fun i x hx => by
    have hi : i < n := by rw [← hn]; exact (List.getElem?_eq_some_iff.1 hx).1
    have h4 := h3 i hi
    rw [hs] at h4
    rw [Nat.zero_add, h4]
    have h5 : (l.map (·.1))[i]? = some x.1 := by rw [List.getElem?_map, hx]; rfl
    rw [hd, List.getElem?_map] at h5
    obtain ⟨y, h6, h7⟩ := Option.map_eq_some_iff.1 h5
    exact ⟨y.2, by rw [h6, ← h7]⟩) (by rw [Nat.zero_add, hn, h1, hc])
  simpa using this
/-- A struct's fields from one on. -/
def RdXs (P : Program) (tot : Nat) (fs : List Field) (off : Nat) (ds : List (DataW Unit)) (vs : List V) : Prop :=
  ∀ (enc : TypeId × Value → Unit) (w : World) (held : Bool) (n : Nat) (cs : List Value) (xs : List (DataW Unit × List MemPlace)), cs.length = tot → xs.length = fs.length →
    (∀ (i : Nat) (g : Field), fs[i]? = some g → DataW.trod enc P w 0 (fun _ => true) held n g.type ((cs.drop g.offset).take (P.cellsOf g.type)) = xs[i]?) → xs.map (·.1) = ds → RdCells w vs (cs.drop off)
theorem RdXs_nil {tot off : Nat} (h : off = tot) : RdXs P tot [] off [] [] :=
  fun enc w held n cs xs hl _ _ _ => by rw [List.drop_eq_nil_of_le (by omega)]; exact ⟨rfl, fun i v hv => by simp at hv⟩
theorem RdXs_cons {tot off sz : Nat} {fd : Field} {fs : List Field} {d : DataW Unit} {v : List V} {ds : List (DataW Unit)} {vs : List V} (ho : fd.offset = off) (hs : P.cellsOf fd.type = sz) (h : RdX P fd.type d v) (hlen : v.length = sz)
    (h' : RdXs P tot fs (off + sz) ds vs) : RdXs P tot (fd :: fs) off (d :: ds) (v ++ vs) :=
  fun enc w held n cs xs hl hxl hx hd => by
    cases xs with
    | nil => simp at hxl
    | cons x xs =>
      simp only [List.map_cons, List.cons.injEq] at hd
      have h0 := hx 0 fd rfl
      have h1 := h enc w held n _ x.2 (by rw [← hd.1]; exact h0)
      have h4 := h' enc w held n cs xs hl (by simpa using hxl) (fun i g hg => by simpa using hx (i + 1) g (by simpa using hg)) hd.2
      rw [ho, hs] at h1
      rw [← List.drop_drop] at h4
      exact .append hlen h1 h4
theorem RdX_struct {fs : Array Field} {tot : Nat} {ds : List (DataW Unit)} {vs : List V} (ht : P.underlying T = some (.struct fs)) (hc : P.cellsOf T = tot) (h : RdXs P tot fs.toList 0 ds vs) : RdX P T (.agg ds) vs :=
  fun enc w held fuel cs p hx => by
    obtain ⟨xs, n, _, he, h1, h2, h3⟩ := DataW.trod_struct ht hx
    have hd : ds = xs.map (·.1) := by
      have := congrArg Prod.fst he
      simpa using this
    have := h enc w held n cs xs (by rw [h1, hc]) (by simpa using h2) (fun i g hg => h3 i g (by simpa using hg)) hd.symm
    simpa using this
/-- A package variable's cells, as frozen ones. -/
theorem fp_of_var {n : String} {g : Nat} {w : World} {cs : Array Value} {vs : List V} (hg : P.globalNamed n = some g) (hv : w.var? P n = some cs) (h : RdCells w vs cs.toList) : R (Gall w) w true (.fp vs 0) (.pointer (some ⟨g, 0, none⟩)) := by
  have hc : ∀ (j : Nat) (v : V), vs[j]? = some v → w.cell? ⟨g, 0 + j, none⟩ = some (cs.toList.getD j undef) := fun j v hv' => by
    have hj : j < cs.toList.length := by rw [← h.1]; exact (List.getElem?_eq_some_iff.1 hv').1
    rw [Nat.zero_add, World.var?_cell hg hv j]
    have hj' : j < cs.size := by simpa using hj
    rw [Array.getElem?_eq_getElem hj', List.getD, List.getElem?_eq_getElem hj]
    simp
  have hd : ∀ (j : Nat) (v : V), vs[j]? = some v → cellD w g (0 + j) = cs.toList.getD j undef := fun j v hv' => by unfold cellD; rw [hc j v hv']; rfl
  refine .fp (fun j v hv' => ⟨by rw [hc j v hv']; rfl, Gall_cell (hc j v hv')⟩) (fun j v hv' => ?_) (fun j v hv' => ?_)
  · rw [hd j v hv']; exact (h.2 j v hv').1
  · rw [hd j v hv']; exact (h.2 j v hv').2
end
end Go.AM
end
section
set_option linter.unusedVariables false
namespace Go.Proofs.YtgmlimipejcpgaaGreatDoor
open Go Go.AM
theorem laidOut : laidOutB Tryz.prog = true := by kernel_rfl
theorem ownNone : ownKnob Tryz.prog.godebug = none := by kernel_rfl
def keptBytes : List (List UInt8) := [[99, 108, 111, 99, 107], [105, 110, 116], [99, 104, 97, 110], [97, 117, 116, 111], [108, 111, 99], [101, 100, 103, 101], [105, 110], [105, 110, 118], [119, 104, 101, 110], [115, 121, 110, 99], [100, 111], [117, 114, 103, 101, 110, 116], [99, 111, 109, 109, 105, 116, 116, 101, 100], [116, 114, 117, 101], [114, 101, 97, 99, 104], [110, 101, 118, 101, 114]]
def kindRows : List (Int × Bool × Bool × List UInt8 × Int) := [(0, false, false, [], 0), (0, false, false, [], 9), (0, false, false, [], 9), (1, false, false, [45], 6), (2, false, false, [43], 4), (2, false, false, [45], 4), (2, false, false, [42], 5), (0, true, false, [116, 114, 117, 101], 9), (2, true, false, [60], 3), (2, true, false, [60, 61], 3), (2, true, false, [61, 61], 3), (2, true, false, [33, 61], 3), (1, true, true, [33], 9), (2, true, true, [38, 38], 2), (2, true, true, [124, 124], 1)]
theorem co9 : Tryz.prog.cellsOf 9 = 1 := by kernel_rfl
theorem co3 : Tryz.prog.cellsOf 3 = 1 := by kernel_rfl
theorem co4 : Tryz.prog.cellsOf 4 = 1 := by kernel_rfl
theorem co243 : Tryz.prog.cellsOf 243 = 5 := by kernel_rfl
theorem co259 : Tryz.prog.cellsOf 259 = 16 * 1 := by kernel_rfl
theorem co261 : Tryz.prog.cellsOf 261 = 15 * 5 := by kernel_rfl
def keptPairs : List (DataW Unit × List V) := keptBytes.map fun s => (.lit (.string s), [.str ⟨s.toArray⟩])
def kindPairs : List (DataW Unit × List V) := kindRows.map fun x => (.agg [.lit (.int .i64 x.1), .lit (.bool x.2.1), .lit (.bool x.2.2.1), .lit (.string x.2.2.2.1), .lit (.int .i64 x.2.2.2.2)], [.int .i64 x.1, .bool x.2.1, .bool x.2.2.1, .str ⟨x.2.2.2.1.toArray⟩, .int .i64 x.2.2.2.2])
set_option maxRecDepth 100000 in
theorem rdKept : RdX Tryz.prog 259 Rows.laid_gnomon_lex_kept keptV := by
  have h := RdX_array (P := Tryz.prog) (T := 259) (n := 16) (e := 9) (sz := 1) Tryz.underlying259 co259 co9 keptPairs rfl (fun p hp => by
    obtain ⟨s, _, rfl⟩ := List.mem_map.1 hp
    exact ⟨RdX_string Tryz.underlying9, rfl⟩)
  exact h
set_option maxRecDepth 100000 in
theorem rdKinds : RdX Tryz.prog 261 Rows.laid_gnomon_expr_kinds kindsV := by
  have h := RdX_array (P := Tryz.prog) (T := 261) (n := 15) (e := 243) (sz := 5) Tryz.underlying261 co261 co243 kindPairs rfl (fun p hp => by
    obtain ⟨x, _, rfl⟩ := List.mem_map.1 hp
    refine ⟨?_, rfl⟩
    exact RdX_struct Tryz.underlying243 co243 (RdXs_cons rfl co3 (RdX_int Tryz.underlying3) rfl (RdXs_cons rfl co4 (RdX_bool Tryz.underlying4) rfl (RdXs_cons rfl co4 (RdX_bool Tryz.underlying4) rfl (RdXs_cons rfl co9 (RdX_string Tryz.underlying9) rfl (RdXs_cons rfl co3 (RdX_int Tryz.underlying3) rfl (RdXs_nil rfl)))))))
  exact h
theorem gKept : Tryz.prog.globalNamed "gnomon/lex.kept" = some 0 := by kernel_rfl
theorem gKinds : Tryz.prog.globalNamed "gnomon/expr.kinds" = some 1 := by kernel_rfl
theorem tKept : (Tryz.prog.globals[0]?).map (·.type) = some 259 := by kernel_rfl
theorem tKinds : (Tryz.prog.globals[1]?).map (·.type) = some 261 := by kernel_rfl
/-- What all rows of this seat list. -/
def laidAll : List (String × DataW Unit) := [("gnomon/expr.kinds", Rows.laid_gnomon_expr_kinds), ("gnomon/lex.kept", Rows.laid_gnomon_lex_kept)]
set_option maxRecDepth 100000 in
theorem ge_of_laid {W : World} (h : laidMetH Tryz.prog laidAll W) : GE GV (Gall W) W := by
  rw [MakeChecks.laidMetH_plain _ _ _ (by kernel_rfl)] at h
  obtain ⟨ps, ⟨g1, t1, cs1, f1, p1, q1, hg1, ht1, hv1, hd1, ⟨g0, t0, cs0, f0, p0, q0, hg0, ht0, hv0, hd0, _, _⟩, _⟩, _, _⟩ := h
  obtain rfl := Option.some.inj (gKinds.symm.trans hg1)
  obtain rfl := Option.some.inj (gKept.symm.trans hg0)
  obtain rfl := Option.some.inj (tKinds.symm.trans ht1)
  obtain rfl := Option.some.inj (tKept.symm.trans ht0)
  refine GE_all fun g cs hgc => ?_
  unfold GV at hgc
  split at hgc
  · rename_i h0; subst h0; cases hgc
    exact fp_of_var gKept hv0 (rdKept _ W false _ _ _ hd0)
  · split at hgc
    · rename_i h0 h1; subst h1; cases hgc
      exact fp_of_var gKinds hv1 (rdKinds _ W false _ _ _ hd1)
    · cases hgc
def keptArr : Array Value := #[.string ⟨#[99, 108, 111, 99, 107]⟩, .string ⟨#[105, 110, 116]⟩, .string ⟨#[99, 104, 97, 110]⟩, .string ⟨#[97, 117, 116, 111]⟩, .string ⟨#[108, 111, 99]⟩, .string ⟨#[101, 100, 103, 101]⟩, .string ⟨#[105, 110]⟩, .string ⟨#[105, 110, 118]⟩, .string ⟨#[119, 104, 101, 110]⟩, .string ⟨#[115, 121, 110, 99]⟩, .string ⟨#[100, 111]⟩, .string ⟨#[117, 114, 103, 101, 110, 116]⟩, .string ⟨#[99, 111, 109, 109, 105, 116, 116, 101, 100]⟩, .string ⟨#[116, 114, 117, 101]⟩, .string ⟨#[114, 101, 97, 99, 104]⟩, .string ⟨#[110, 101, 118, 101, 114]⟩]
def kindArr : Array Value := (kindRows.flatMap fun x => [Value.int .i64 x.1, .bool x.2.1, .bool x.2.2.1, .string ⟨x.2.2.2.1.toArray⟩, .int .i64 x.2.2.2.2]).toArray
def laidCells (arr : Array Value) : Obj → Obj
  | .cells _ t frozen => .cells arr t frozen
  | o => o
/-- A world for the witnesses: the settled one, the two variables holding what their initialisers lay. -/
noncomputable def laidWorld (os : Os) : World :=
  { World.holding Tryz.prog os ⟨#[], #[], []⟩ with heap := ((World.holding Tryz.prog os ⟨#[], #[], []⟩).heap.modify 0 (laidCells keptArr)).modify 1 (laidCells kindArr) }
theorem laid_met (os : Os) (args : Array Value) : laidMetH Tryz.prog laidAll ((laidWorld os).forCall (fun _ _ => 0) ⟨#[], args, []⟩).memory := by
  rw [MakeChecks.laidMetH_plain _ _ _ (by kernel_rfl)]
  exact laidMet_of_run' 8 (by kernel_rfl) (by kernel_rfl)
end Go.Proofs.YtgmlimipejcpgaaGreatDoor
end
section
set_option linter.unusedVariables false
set_option linter.unusedSimpArgs false
namespace Go.AM
section
variable {P : Program} {ge : GEnv} {st : St} {Q : Exit → St → Prop} {G : Gh} {w : World}
theorem getD_push (t : Array Value) (c : Value) (i : Nat) : (t.push c).getD i undef = if i = t.size then c else t.getD i undef := by
  simp only [Array.getD_eq_getD_getElem?, Array.getElem?_push]
  split <;> rfl
/-- A row is frozen, told by any value that points to it. -/
theorem view_any {a : Act} (hr : Rep P ge G st a w) {b gg off len : Nat} {T : TypeId} {fzn : Nat} {xs : List (List V)} {c : Value} {fr : Bool} (hc : R G w fr (.ref b gg off len) c)
    (hb : st.h[b]? = some (.row T gg fzn true xs)) (hle : off + len ≤ xs.length) :
    ∃ G', Rep P ge G' { st with h := st.h.set b (.row T gg xs.length true xs) } a w ∧ Ext G st.h w G' (st.h.set b (.row T gg xs.length true xs)) w ∧ R G' w false (.vec (xs.drop off) len) c := by
  have hcf : R G w false (.ref b gg off len) c := by
    cases fr with
    | false => exact hc
    | true => exact hc.weak rfl
  have hr1 : Rep P ge G ⟨st.n + 1, (st.n, .ref b gg off len) :: st.tm, st.h⟩ { a with tmps := a.tmps.push c } w := by
    refine ⟨hr.rh, fun t => ?_, by simp [hr.n], hr.d⟩
    simp only [lk, getD_push, hr.n]
    by_cases e : st.n = t
    · subst e; simp; exact hcf
    · rw [if_neg e, if_neg (fun h => e h.symm)]; exact hr.tm t
  obtain ⟨G', r, x⟩ := Rep_view (s := st.n) hr1 (by simp [lk]) hb hle
  refine ⟨G', ⟨r.rh, fun t => ?_, hr.n, hr.d⟩, x, ?_⟩
  · by_cases e : t = st.n
    · subst e
      have h1 : a.tmps.getD st.n undef = undef := by rw [Array.getD_eq_getD_getElem?, Array.getElem?_eq_none (by rw [hr.n]; exact Nat.le_refl _)]; rfl
      have h2 := (hr.tm st.n).mono x.le
      exact h2
    · have := r.tm t
      simp only [lk, getD_push, hr.n] at this
      rw [if_neg (fun h => e h.symm), if_neg (fun h => e h.symm), if_neg e] at this
      exact this
  · have := r.tm st.n
    simp only [lk, getD_push, hr.n, if_true] at this
    exact this
/-- A variable's cell is told otherwise. -/
theorem RH_retell {h : List B} (rh : RH P ge G h w) {b0 j : Nat} {cs : List V} {v : V} (hb : h[b0]? = some (.var cs))
    (hv : ∀ (c : Value) (u : V), cs[j]? = some u → R G w false u c → c.oneCell' = true → R G w false v c) :
    RH P ge G (h.set b0 (.var (cs.set j v))) w ∧ Ext G h w G (h.set b0 (.var (cs.set j v))) w := by
  obtain ⟨h00, k, arr, T, hm, hh, hfz, hs, hcells⟩ := rh.bl b0 _ hb
  refine RH_upd (w' := w) rh hb hm rfl (fun _ _ => rfl) rfl ⟨rfl, rfl⟩ (.refl _ _) ⟨h00, k, arr, T, hm, hh, hfz, by simp [hs], fun i u hu => ?_⟩ hm
  rw [List.getElem?_set] at hu
  split at hu
  · rename_i e
    subst e
    split at hu
    · rename_i hj
      cases hu
      have := hcells j cs[j] (List.getElem?_eq_getElem hj)
      exact ⟨this.1, hv _ _ (List.getElem?_eq_getElem hj) this.2 this.1⟩
    · cases hu
  · exact hcells i u hu
/-- A row that a variable's cell points to is frozen. -/
theorem AW_viewcell {c : Code} (b0 j : Nat) {b gg off len : Nat} {T : TypeId} {fzn : Nat} {xs : List (List V)} {cs : List V} (h0 : st.h[b0]? = some (.var cs)) (hj : cs[j]? = some (.ref b gg off len))
    (hb : st.h[b]? = some (.row T gg fzn true xs)) (hle : off + len ≤ xs.length)
    (h : AW P ge c Q { st with h := (st.h.set b (.row T gg xs.length true xs)).set b0 (.var (cs.set j (.vec (xs.drop off) len))) }) : AW P ge c Q st := by
  intro G a w hr
  obtain ⟨h00, k, arr, T', hm, hh, hfz, hs, hcells⟩ := hr.rh.bl b0 _ h0
  obtain ⟨G', r, x, hv⟩ := view_any hr (hcells j _ hj).2 hb hle
  have hne : b0 ≠ b := fun e => by subst e; rw [h0] at hb; cases hb
  have h0' : (st.h.set b (.row T gg xs.length true xs))[b0]? = some (.var cs) := by
    rw [List.getElem?_set, if_neg (fun e => hne e.symm)]; exact h0
  obtain ⟨h00', k', arr', T'', hm', hh', hfz', hs', hcells'⟩ := r.rh.bl b0 _ h0'
  have hmm : G'.m b0 0 = G.m b0 0 := x.le.m b0 0 (by have := (List.getElem?_eq_some_iff.1 h0).1; rw [hr.rh.n] at this; exact this) (Nat.zero_le _)
  have hkk : k' = k := by rw [hmm, hm] at hm'; cases hm'; rfl
  subst hkk
  have haa : arr' = arr := by rw [hh] at hh'; cases hh'; rfl
  subst haa
  obtain ⟨rh2, x2⟩ := RH_upd (w' := w) (y := .var (cs.set j (.vec (xs.drop off) len))) r.rh h0' hm' rfl (fun _ _ => rfl) rfl ⟨rfl, rfl⟩ (.refl _ _) ⟨h00', k', arr', T'', hm', hh', hfz', by simp [hs'], fun i u hu => by
    rw [List.getElem?_set] at hu
    split at hu
    · rename_i e
      subst e
      split at hu
      · cases hu; exact ⟨(hcells' j _ hj).1, hv⟩
      · cases hu
    · exact hcells' i u hu⟩ hm'
  exact wp_mono (h G' a w ⟨rh2, r.tm, r.n, r.d⟩) fun _ _ _ hp => hp.mono (x.trans x2) fun _ _ h => h
/-- A nil slice in a variable's cell, as an empty row of one's own. -/
theorem AW_nilcell {c : Code} (b0 j : Nat) (T : TypeId) {cs : List V} (h0 : st.h[b0]? = some (.var cs)) (hj : cs[j]? = some .nils) (hT : 0 < szOf P T)
    (h : AW P ge c Q { st with h := (st.h ++ [B.row T 0 0 true []]).set b0 (.var (cs.set j (.ref st.h.length 0 0 0))) }) : AW P ge c Q st := by
  intro G a w hr
  have hk : ∀ k', (G.push none (szOf P T) 0).at G.n (.row T 0 0 true []) = some k' → w.heap.size ≤ k' := fun k' h => by
    simp [Gh.at, Gh.push] at h
  have hrb : RB P (G.push none (szOf P T) 0) w G.n (.row T 0 0 true []) := ⟨by simp [Gh.push], Nat.zero_le _, by simp [Gh.push, hT], .inl ⟨by simp [Gh.push], rfl⟩⟩
  have rh := hr.rh.push (.refl w) hrb hk
  have ext := Ext.push hr.rh (.refl w) hk
  have hlt : b0 < st.h.length := (List.getElem?_eq_some_iff.1 h0).1
  have h0' : (st.h ++ [B.row T 0 0 true []])[b0]? = some (.var cs) := by rw [List.getElem?_append_left hlt]; exact h0
  obtain ⟨rh2, x2⟩ := RH_retell (j := j) (v := .ref st.h.length 0 0 0) rh h0' (fun c u hu hc ho => by
    rw [hj] at hu; cases hu
    cases hc
    rw [hr.rh.n]
    exact .refn (by simp [Gh.push]) (by simp [Gh.push]) (by simp [Gh.push]))
  exact wp_mono (h _ a w ⟨rh2, fun t => (hr.tm t).mono ext.le, hr.n, hr.d⟩) fun _ _ _ hp => hp.mono (ext.trans x2) fun _ _ h => h
end
end Go.AM
end
section
set_option linter.unusedVariables false
set_option linter.unusedSimpArgs false
namespace Go.AM
section
variable {P : Program} {ge : GEnv} {st st' : St} {Q : Exit → St → Prop} {ops : Array Oper}
theorem get_ext {h e : List B} {b : Nat} (hb : b < h.length) : (h ++ e)[b]? = h[b]? := List.getElem?_append_left hb
theorem place_ext {h e : List B} {v : V} (hv : v.lt h.length = true) : place (h ++ e) v = place h v := by
  cases v <;> simp only [place]
  all_goals (simp only [V.lt, decide_eq_true_eq] at hv; rw [get_ext hv])
/-- Blocks laid behind the heap change no operation that does not look at them. -/
theorem op_ext {op : Op} (hs : stillOp op = true) (e : List B) (hl : ∀ x ∈ op.operands, (ev ge st.tm x).lt st.h.length = true) (ho : opOk P ge st op) :
    opOk P ge ⟨st.n, st.tm, st.h ++ e⟩ op ∧ (opVal P ge ⟨st.n, st.tm, st.h ++ e⟩ op).1 = (opVal P ge st op).1 := by
  unfold stillOp at hs
  split at hs
  case h_5 T x =>
    have := hl x (by simp [Op.operands])
    simp only [opOk, opVal, loadGood, loadVal] at ho ⊢
    rw [place_ext this]; exact ⟨ho, rfl⟩
  case h_9 s T x =>
    have := hl x (by simp [Op.operands])
    simp only [opOk, opVal] at ho ⊢
    generalize ev ge st.tm x = v at *
    cases v <;> first
      | exact ⟨ho, rfl⟩
      | (have hb := of_decide_eq_true this
         simp only [convGood, convVal, get_ext hb] at ho ⊢
         first | exact ⟨ho, rfl⟩ | exact ⟨ho, trivial⟩)
  case h_11 s x y =>
    have := hl x (by simp [Op.operands])
    simp only [opOk, opVal] at ho ⊢
    generalize ev ge st.tm x = v at *
    cases v <;> first
      | exact ⟨ho, rfl⟩
      | (have hb := of_decide_eq_true this
         simp only [idxGood, idxVal, get_ext hb] at ho ⊢
         first | exact ⟨ho, rfl⟩ | exact ⟨ho, trivial⟩)
  case h_15 T x lo hi =>
    have := hl x (by simp [Op.operands])
    simp only [opOk, opVal] at ho ⊢
    generalize ev ge st.tm x = v at *
    cases v <;> first
      | exact ⟨ho, rfl⟩
      | (have hb := of_decide_eq_true this
         simp only [sliceGood, sliceVal, get_ext hb] at ho ⊢
         first | exact ⟨ho, rfl⟩ | exact ⟨ho, trivial⟩)
  all_goals first
    | exact ⟨ho, rfl⟩
    | cases hs
theorem Core.ext {op : Op} {v : V} (e : List B) (hl : ∀ x ∈ op.operands, (ev ge st.tm x).lt st.h.length = true) (hc : Core P ge st op v) : Core P ge ⟨st.n, st.tm, st.h ++ e⟩ op v := by
  rcases hc with ⟨h1, h2, h3⟩ | h
  · obtain ⟨h4, h5⟩ := op_ext h1 e hl h2
    exact .inl ⟨h1, h4, h3.trans h5.symm⟩
  · rcases h with h | h | ⟨x, xs, ts, f, args', rfl, h1, h2, h3, h4⟩ | ⟨x, xs, ts, f, rfl, h1, h2, h3⟩
    · exact .inr (.inl h)
    · exact .inr (.inr (.inl h))
    · refine .inr (.inr (.inr (.inl ⟨x, xs, ts, f, args', rfl, h1, h2, ?_, h4⟩)))
      rw [← h3]
      refine List.map_congr_left fun y hy => seen_ext e ?_
      obtain ⟨z, hz, rfl⟩ := List.mem_map.1 hy
      exact hl z (by simp [Op.operands, Call.operands]; right; simpa using hz)
    · exact .inr (.inr (.inr (.inr ⟨x, xs, ts, f, rfl, h1, fun e2 => by have := h2 (e ++ e2); rw [← List.append_assoc] at this; exact this, h3⟩)))
theorem PStep.ext {o : Oper} {v : V} (hc : PStep P ge ops st o v) (e : List B) (hl : ∀ x ∈ o.op.operands, (ev ge st.tm x).lt st.h.length = true) : PStep P ge ops ⟨st.n, st.tm, st.h ++ e⟩ o v := by
  unfold PStep at hc ⊢
  split at hc
  · exact hc.ext e hl
  · obtain ⟨dj, h1, h2, h3, h4, h5⟩ := hc
    exact ⟨dj, h1, h2, h3, fun h => (h4 h).ext e hl, h5⟩
/-- A run in order; the operation j0 makes a variable. -/
def RunA (P : Program) (ge : GEnv) (ops : Array Oper) (j0 : Nat) (zs : List V) : Nat → St → List Oper → List V → Prop
  | _, _, [], [] => True
  | i, st, o :: r, v :: vs => dstOk st.n o.dst = true ∧
      (if i = j0 then (∃ e, o.op = .alloc e ∧ o.guard = none ∧ zeroOf P e = some zs ∧ v = .ptr st.h.length 0) else PStep P ge ops st o v ∧ ∀ x ∈ o.op.operands, (ev ge st.tm x).lt st.h.length = true) ∧
      RunA P ge ops j0 zs (i + 1) { st with tm := putD o.dst v st.tm } r vs
  | _, _, _, _ => False
theorem RunA.len {j0 : Nat} {zs : List V} : ∀ {l : List Oper} {vs : List V} {st : St} {s : Nat}, RunA P ge ops j0 zs s st l vs → vs.length = l.length
  | [], [], _, _, _ => rfl
  | [], _ :: _, _, _, h => h.elim
  | _ :: _, [], _, _, h => h.elim
  | o :: r, v :: vs, st, s, h => by simp [RunA.len h.2.2]
theorem RunA.at {j0 : Nat} {zs : List V} : ∀ {l : List Oper} {vs : List V} {st : St} {s i : Nat} {o : Oper}, RunA P ge ops j0 zs s st l vs → l[i]? = some o →
    (if s + i = j0 then (∃ e, o.op = .alloc e ∧ o.guard = none ∧ zeroOf P e = some zs ∧ vs.getD i .junk = .ptr (fin st (l.take i) (vs.take i)).h.length 0)
      else PStep P ge ops (fin st (l.take i) (vs.take i)) o (vs.getD i .junk) ∧ ∀ x ∈ o.op.operands, (ev ge (fin st (l.take i) (vs.take i)).tm x).lt (fin st (l.take i) (vs.take i)).h.length = true) ∧ dstOk st.n o.dst = true
  | [], _, _, _, _, _, _, h => by simp at h
  | _ :: _, [], _, _, _, _, h, _ => h.elim
  | o :: r, v :: vs, st, s, 0, o', h, ho => by
    simp at ho; subst ho
    simp only [List.take_zero, fin, Nat.add_zero]
    exact ⟨by simpa using h.2.1, h.1⟩
  | o :: r, v :: vs, st, s, i + 1, o', h, ho => by
    obtain ⟨h1, h2⟩ := RunA.at (i := i) h.2.2 (by simpa using ho)
    simp only [List.take_succ_cons, fin]
    rw [show s + (i + 1) = s + 1 + i by omega]
    exact ⟨by simpa using h1, h2⟩
structure DInvA (ops : Array Oper) (k : Nat) (st0 : St) (vs : List V) (listed : Array Bool) (S : St) : Prop where
  n : S.n = st0.n
  one : ∀ (i : Nat) (o : Oper) (t : Nat), i < k → ops[i]? = some o → o.dst = some t → listed.getD i false = true → lk S.tm t = vs.getD i .junk
  old : ∀ (t : Nat), (∀ (i : Nat) (o : Oper), i < k → ops[i]? = some o → listed.getD i false = true → o.dst ≠ some t) → lk S.tm t = lk st0.tm t
  closed : ∀ (j : Nat) (o : Oper), ops[j]? = some o → listed.getD j false = true → ∀ e ∈ o.after, Region.binds .any e = true → listed.getD e.on false = true
  size : listed.size = ops.size
/-- What is looked at is the same as in order. -/
theorem DInvA.look {k : Nat} {st0 S : St} {vs : List V} {listed : Array Bool} (hd : DrawOk ops k) (hlen : vs.length = (ops.toList.take k).length) (hI : DInvA ops k st0 vs listed S)
    {i : Nat} {o : Oper} (hi : i < k) (ho : ops[i]? = some o) (hready : i ∈ Region.ready .any ops listed) :
    ∀ t ∈ o.looksAt ops, lk S.tm t = lk (fin st0 ((ops.toList.take k).take i) (vs.take i)).tm t := by
  intro t ht
  obtain ⟨hni, o', ho', haft⟩ := mem_ready.1 hready
  rw [ho] at ho'; cases ho'
  have hlt := (Array.getElem?_eq_some_iff.1 ho).1
  rw [getD_tf hI.size hlt] at hni
  have hap := apart_take hd
  by_cases hw : ∃ j oj, j < i ∧ ops[j]? = some oj ∧ oj.dst = some t
  · obtain ⟨j, oj, hji, hoj, hdst⟩ := hw
    have hb := (hd.apart j i oj o t (by omega) hi (by omega) hoj ho hdst).2 ht
    have hl : listed.getD j false = true := by
      rcases hb with hb | hb
      · obtain ⟨e, he, hbi, rfl⟩ := beforeB_spec hb
        exact haft e he hbi
      · obtain ⟨e, he, hbi, rfl⟩ := beforeB_spec hb
        have := hd.down j oj hoj e he hbi
        omega
    rw [hI.one j oj t (by omega) hoj hdst hl]
    have h1 : ((ops.toList.take k).take i)[j]? = some oj := by rw [List.getElem?_take_of_lt hji]; exact take_get (by omega) hoj
    rw [fin_new _ _ _ j oj t (by simp [hlen]) (apart_mono hap i) h1 hdst]
    simp [List.getD, List.getElem?_take_of_lt hji]
  · have h1 : lk (fin st0 ((ops.toList.take k).take i) (vs.take i)).tm t = lk st0.tm t := by
      refine fin_old _ _ _ t fun x hx hdx => ?_
      obtain ⟨j, hj⟩ := List.getElem?_of_mem hx
      rw [List.getElem?_take] at hj
      split at hj
      · rename_i hji
        exact hw ⟨j, x, hji, (get_take hj).2, hdx⟩
      · cases hj
    rw [h1]
    refine hI.old t fun j oj hjk hoj hlj hdst => ?_
    rcases Nat.lt_trichotomy j i with h2 | h2 | h2
    · exact hw ⟨j, oj, h2, hoj, hdst⟩
    · subst h2; rw [hni] at hlj; cases hlj
    · rcases (hd.apart j i oj o t hjk hi (by omega) hoj ho hdst).2 ht with hb | hb
      · obtain ⟨e, he, hbi, rfl⟩ := beforeB_spec hb
        have := hd.down i o ho e he hbi
        omega
      · obtain ⟨e, he, hbi, rfl⟩ := beforeB_spec hb
        rw [hI.closed j oj hoj hlj e he hbi] at hni; cases hni
theorem DInvA.fin {k : Nat} {st0 S : St} {vs : List V} {listed : Array Bool} (hd : DrawOk ops k) (hlen : vs.length = (ops.toList.take k).length) (hI : DInvA ops k st0 vs listed S)
    (hall : ∀ i, i < k → i < ops.size → listed.getD i false = true) : ∀ t, lk (fin st0 (ops.toList.take k) vs).tm t = lk S.tm t := by
  intro t
  by_cases hw : ∃ i o, i < k ∧ ops[i]? = some o ∧ o.dst = some t
  · obtain ⟨i, o, hi, ho, hdst⟩ := hw
    rw [hI.one i o t hi ho hdst (hall i hi (Array.getElem?_eq_some_iff.1 ho).1)]
    exact fin_new _ _ _ i o t hlen (apart_take hd) (take_get hi ho) hdst
  · rw [hI.old t fun i o hi ho _ hdst => hw ⟨i, o, hi, ho, hdst⟩]
    refine fin_old _ _ _ t fun x hx hdx => ?_
    obtain ⟨j, hj⟩ := List.getElem?_of_mem hx
    obtain ⟨h1, h2⟩ := get_take hj
    exact hw ⟨j, x, h1, h2, hdx⟩
theorem wpAny_drawA {k j0 : Nat} {zs : List V} {st0 : St} {vs : List V} {G0 : Gh} {w0 : World} (hd : DrawOk ops k) (hj0 : j0 < k) (hj1 : j0 < ops.size) (hrun : RunA P ge ops j0 zs 0 st0 (ops.toList.take k) vs) (htail : AS P ge ops (ops.toList.drop k) Q ⟨st0.n, (fin st0 (ops.toList.take k) vs).tm, st0.h ++ [.var zs]⟩) :
    ∀ (fuel : Nat) (listed : Array Bool) (S : St) (G : Gh) (a : Act) (w : World), DInvA ops k st0 vs listed S → S.h = st0.h ++ (if listed.getD j0 false = true then [.var zs] else []) → unl ops listed ≤ fuel → (∀ j, k ≤ j → j < ops.size → listed.getD j false = false) →
      Rep P ge G S a w → Ext G0 st0.h w0 G S.h w → wpAny P .any ops (CPost P ge Q G0 st0.h w0) fuel listed a w := by
  intro fuel
  induction fuel with
  | zero =>
    intro listed S G a w hI hSh hf hk hr hx
    have hall : ∀ i, i < ops.size → listed.getD i false = true := fun i hi => by
      have : ((List.range ops.size).filter fun j => !listed.getD j true) = [] := List.eq_nil_of_length_eq_zero (Nat.le_zero.1 hf)
      have := List.filter_eq_nil_iff.1 this i (List.mem_range.2 hi)
      rw [← getD_tf hI.size hi]; simpa using this
    have hs := hI.fin hd hrun.len fun i _ hi => hall i hi
    have hSh' : S.h = st0.h ++ [.var zs] := by rw [hSh, if_pos (hall j0 hj1)]
    have h1 := htail G a w (hr.same (by simp only; rw [hI.n]) (by simp only; rw [hSh']) hs)
    simp only at h1
    rw [← hSh'] at h1
    have hks : ops.size ≤ k := by
      rcases Nat.lt_or_ge k ops.size with h2 | h2
      · have := hk k (Nat.le_refl _) h2; rw [hall k h2] at this; cases this
      · exact h2
    refine wpAny_tail hd 0 listed k a w (Nat.le_refl _) hI.size hf (fun i hi => ⟨fun _ => by omega, fun _ => hall i hi⟩) ?_
    exact wpList_mono' (fun _ _ _ hp => hp.mono hx fun _ _ h => h) h1
  | succ fuel ih =>
    intro listed S G a w hI hSh hf hk hr hx
    by_cases hall : ∀ i, i < k → i < ops.size → listed.getD i false = true
    · have hs := hI.fin hd hrun.len hall
      have hSh' : S.h = st0.h ++ [.var zs] := by rw [hSh, if_pos (hall j0 hj0 hj1)]
      have h1 := htail G a w (hr.same (by simp only; rw [hI.n]) (by simp only; rw [hSh']) hs)
      simp only at h1
      rw [← hSh'] at h1
      refine wpAny_tail hd (fuel + 1) listed k a w (Nat.le_refl _) hI.size hf (fun i hi => ⟨fun h => ?_, fun h => hall i h hi⟩) (wpList_mono' (fun _ _ _ hp => hp.mono hx fun _ _ h => h) h1)
      rcases Nat.lt_or_ge i k with h2 | h2
      · exact h2
      · rw [hk i h2 hi] at h; cases h
    · have hlow : ∀ i, i ∈ Region.ready .any ops listed → i < k := fun i hi => by
        rcases Nat.lt_or_ge i k with h2 | h2
        · exact h2
        · exfalso
          refine hall fun j hj hjs => ?_
          obtain ⟨h1, o, h3, h4⟩ := mem_ready.1 hi
          exact tail_listed (L := fun x => listed.getD x false = true) hI.closed h4 (hd.tail i o h3 h2) j (by omega)
      refine ⟨fun hrdy => ?_, fun i hi => ?_⟩
      · exfalso
        -- the first one that is not listed is ready
        have key : ∀ (m : Nat) (i : Nat), i < m → i < ops.size → listed.getD i false = true := by
          intro m
          induction m with
          | zero => intro i hi; omega
          | succ m ihm =>
            intro i hi hs
            rcases Nat.lt_or_ge i m with h1 | h1
            · exact ihm i h1 hs
            · have him : i = m := by omega
              subst him
              cases hh : listed.getD i false
              · have : i ∈ Region.ready .any ops listed := by
                  refine mem_ready.2 ⟨by rw [getD_tf hI.size hs]; exact hh, ops[i], by simp [hs], fun e he hb => ?_⟩
                  have := hd.down i ops[i] (by simp [hs]) e he hb
                  exact ihm e.on this (by omega)
                rw [hrdy] at this; cases this
              · rfl
        exact hall fun i hi hs => key (i + 1) i (by omega) hs
      · have hik := hlow i hi
        obtain ⟨hni, o, ho, haft⟩ := mem_ready.1 hi
        have hlt := (Array.getElem?_eq_some_iff.1 ho).1
        obtain ⟨hps, hdst⟩ := hrun.at (take_get hik ho)
        rw [Nat.zero_add] at hps
        have hdst' : dstOk S.n o.dst = true := by rw [hI.n]; exact hdst
        obtain ⟨S', has, hS'n, hS'tm, hS'h⟩ : ∃ S' : St, AS P ge ops [o] (fun e s => e = .normal ∧ s = S') S ∧ S'.n = S.n ∧ S'.tm = putD o.dst (vs.getD i .junk) S.tm ∧
            S'.h = st0.h ++ (if (listed.setIfInBounds i true).getD j0 false = true then [.var zs] else []) := by
          by_cases hij : i = j0
          · rw [if_pos hij] at hps
            obtain ⟨e, he, hg, hz, hv⟩ := hps
            have hlf : listed.getD j0 false = false := by rw [← hij, ← getD_tf hI.size hlt]; exact hni
            have hSh0 : S.h = st0.h := by rw [hSh, if_neg (by rw [hlf]; simp), List.append_nil]
            obtain ⟨d, op, t, p, af, g⟩ := o
            simp only at he hg hdst'
            subst he; subst hg
            have hl0 : (fin st0 ((ops.toList.take k).take i) (vs.take i)).h.length = S.h.length := by rw [(fin_n _ _ _).2, hSh0]
            rw [hl0] at hv
            refine ⟨⟨S.n, putD d (vs.getD i .junk) S.tm, S.h ++ [.var zs]⟩, ?_, rfl, rfl, ?_⟩
            · rw [hv]; exact AS_op rfl hdst' (S_alloc hz) (AS_nil ⟨rfl, rfl⟩)
            · show S.h ++ [B.var zs] = _
              rw [hSh0, ← hij, if_pos (by simp [Array.getD, hI.size, hlt])]
          · rw [if_neg hij] at hps
            have hps1 := hps.1.ext (if listed.getD j0 false = true then [.var zs] else []) hps.2
            have hps' : PStep P ge ops S o (vs.getD i .junk) := by
              refine PStep.congr (hc := hps1) ?_ ?_ ?_
              · show S.n = (fin st0 _ _).n
                rw [(fin_n _ _ _).1, hI.n]
              · show S.h = (fin st0 _ _).h ++ _
                rw [(fin_n _ _ _).2, hSh]
              · exact fun t ht => hI.look hd hrun.len hik ho hi t ht
            refine ⟨{ S with tm := putD o.dst (vs.getD i .junk) S.tm }, hps'.sound hdst' (AS_nil ⟨rfl, rfl⟩), rfl, rfl, ?_⟩
            rw [getD_set_ne _ hij]; exact hSh
        refine wpOp_of_AS ho has hr fun G' a' w' hr' hx' => ?_
        refine ih _ S' G' a' w' ⟨hS'n.trans hI.n, ?_, ?_, ?_, by simp [hI.size]⟩ hS'h (by have := unl_set hlt hI.size hni; omega) ?_ hr' (hx.trans hx')
        · intro x ox t hxk hox hdx hlx
          rw [hS'tm]
          rw [lk_putD]
          by_cases hxi : i = x
          · subst hxi; rw [ho] at hox; cases hox; rw [if_pos hdx]
          · rw [getD_set_ne _ hxi] at hlx
            rw [if_neg (fun hod => (hd.apart i x o ox t hik hxk hxi ho hox hod).1 hdx)]
            exact hI.one x ox t hxk hox hdx hlx
        · intro t ht
          rw [hS'tm]
          rw [lk_putD, if_neg (ht i o hik ho (by simp [Array.getD, hI.size, hlt]))]
          refine hI.old t fun x ox hxk hox hlx => ht x ox hxk hox (getD_set_true hlx)
        · intro x ox hox hlx e he hb
          by_cases hxi : i = x
          · subst hxi; rw [ho] at hox; cases hox
            exact getD_set_true (haft e he hb)
          · rw [getD_set_ne _ hxi] at hlx
            exact getD_set_true (hI.closed x ox hox hlx e he hb)
        · intro j hj hjs
          rw [getD_set_ne _ (by omega)]
          exact hk j hj hjs
theorem AW_region_drawA {id k j0 : Nat} {zs : List V} {vs : List V} (hm : P.follows .mixedOrders = true) (hd : drawOk ops k = true) (hj0 : j0 < k) (hj1 : j0 < ops.size) (hrun : RunA P ge ops j0 zs 0 st (ops.toList.take k) vs)
    (htail : AS P ge ops (ops.toList.drop k) Q ⟨st.n, (fin st (ops.toList.take k) vs).tm, st.h ++ [.var zs]⟩) : AW P ge (.region id ops true) Q st := by
  intro G a w hr
  refine wp_region_any hm ?_
  obtain ⟨G', hr', hx⟩ := hr.drawn (w.drawn + 1)
  have hrep : ∀ i, (Array.replicate ops.size false).getD i false = false := fun i => by
    simp only [Array.getD_eq_getD_getElem?, Array.getElem?_replicate]; split <;> rfl
  refine wpAny_drawA (drawOk_spec hd) hj0 hj1 hrun htail _ _ st G' a _ ⟨rfl, ?_, fun _ _ => rfl, ?_, by simp⟩ (by rw [hrep]; simp) ?_ (fun j _ _ => hrep j) hr' hx
  · intro i o t _ _ _ h; rw [hrep] at h; cases h
  · intro j o _ h; rw [hrep] at h; cases h
  · unfold unl; exact Nat.le_trans (List.length_filter_le _ _) (by simp)
/-- The walk of such a region: operations ahead of the chain, then the chain. -/
def APA (P : Program) (ge : GEnv) (ops : Array Oper) (K : List (Nat × V) → Prop) (j0 : Nat) (zs : List V) : Nat → List Oper → St → Prop
  | _, [], st => K st.tm
  | i, o :: r, st =>
    if i = j0 then (∃ e, o.op = .alloc e ∧ o.guard = none ∧ zeroOf P e = some zs) ∧ dstOk st.n o.dst = true ∧ APA P ge ops K j0 zs (i + 1) r { st with tm := putD o.dst (.ptr st.h.length 0) st.tm }
    else ∃ v, dstOk st.n o.dst = true ∧ PStep P ge ops st o v ∧ (∀ x ∈ o.op.operands, (ev ge st.tm x).lt st.h.length = true) ∧ APA P ge ops K j0 zs (i + 1) r { st with tm := putD o.dst v st.tm }
theorem APA.run {K : List (Nat × V) → Prop} {j0 : Nat} {zs : List V} : ∀ {l : List Oper} {i : Nat} {st : St}, APA P ge ops K j0 zs i l st → ∃ vs, RunA P ge ops j0 zs i st l vs ∧ K (fin st l vs).tm
  | [], _, _, h => ⟨[], trivial, h⟩
  | o :: r, i, st, h => by
    unfold APA at h
    split at h
    · rename_i hi
      obtain ⟨⟨e, h1, h2, h3⟩, h4, h5⟩ := h
      obtain ⟨vs, h6, h7⟩ := APA.run h5
      exact ⟨.ptr st.h.length 0 :: vs, ⟨h4, by rw [if_pos hi]; exact ⟨e, h1, h2, h3, rfl⟩, h6⟩, h7⟩
    · rename_i hi
      obtain ⟨v, h4, h1, h2, h5⟩ := h
      obtain ⟨vs, h6, h7⟩ := APA.run h5
      exact ⟨v :: vs, ⟨h4, by rw [if_neg hi]; exact ⟨h1, h2⟩, h6⟩, h7⟩
theorem AW_region_APA (k j0 : Nat) (zs : List V) {id : Nat} (hm : P.follows .mixedOrders = true) (hd : drawOk ops k = true) (hj : j0 < k ∧ j0 < ops.size)
    (h : APA P ge ops (fun tm => AO P ge ops Q (ops.toList.drop k) ⟨st.n, tm, st.h ++ [.var zs]⟩) j0 zs 0 (ops.toList.take k) st) : AW P ge (.region id ops true) Q st := by
  obtain ⟨vs, h1, h2⟩ := h.run
  exact AW_region_drawA hm hd hj.1 hj.2 h1 (AS_of_AO h2)
theorem APA_nil {K : List (Nat × V) → Prop} {j0 i : Nat} {zs : List V} (h : K st.tm) : APA P ge ops K j0 zs i [] st := by unfold APA; exact h
theorem APA_still {K : List (Nat × V) → Prop} {j0 i : Nat} {zs : List V} {d : Option Tmp} {op : Op} {t : TypeId} {p : String} {af : Array Edge} {r : List Oper} (hi : ¬ i = j0) (hs : stillOp op = true) (hd : dstOk st.n d = true) (ho : opOk P ge st op)
    (hl : V.lts st.h.length (evs ge st.tm op.operands.toList) = true) (h : APA P ge ops K j0 zs (i + 1) r { st with tm := putD d (opVal P ge st op).1 st.tm }) : APA P ge ops K j0 zs i (⟨d, op, t, p, af, none⟩ :: r) st := by
  unfold APA
  rw [if_neg hi]
  refine ⟨_, hd, .inl ⟨hs, ho, rfl⟩, fun x hx => ?_, h⟩
  rw [evs_eq] at hl
  obtain ⟨j, hj⟩ := List.getElem?_of_mem (Array.mem_toList_iff.2 hx)
  exact V.lts_get hl j _ (by rw [List.getElem?_map, hj]; rfl)
theorem APA_call {K : List (Nat × V) → Prop} {j0 i : Nat} {zs : List V} {d : Option Tmp} {x : Operand} {xs : Array Operand} {ts : Array TypeId} {t : TypeId} {p : String} {af : Array Edge} {r : List Oper} {f : Nat} {A C args : List V} {v : V}
    (hi : ¬ i = j0) (hx : ev ge st.tm x = .fn (.func f) A C) (ha : A ++ evs ge st.tm xs.toList ++ C = args) (hc : PCall P ge f args v) (hf : V.isFs args = true) (hp : v.plain = true) (hd : dstOk st.n d = true)
    (hl : V.lts st.h.length (evs ge st.tm (Op.call { callee := .value x, args := xs, argTypes := ts }).operands.toList) = true) (h : APA P ge ops K j0 zs (i + 1) r { st with tm := putD d v st.tm }) :
    APA P ge ops K j0 zs i (⟨d, .call { callee := .value x, args := xs, argTypes := ts }, t, p, af, none⟩ :: r) st := by
  subst ha
  rw [evs_eq] at hc hf
  unfold APA
  rw [if_neg hi]
  refine ⟨v, hd, .inr (.inl ⟨x, xs, ts, f, A, C, rfl, hx, hc, hf, hp⟩), fun y hy => ?_, h⟩
  rw [evs_eq] at hl
  obtain ⟨j, hj⟩ := List.getElem?_of_mem (Array.mem_toList_iff.2 hy)
  exact V.lts_get hl j _ (by rw [List.getElem?_map, hj]; rfl)
theorem APA_alloc {K : List (Nat × V) → Prop} {j0 : Nat} {zs : List V} {d : Option Tmp} {e : TypeId} {t : TypeId} {p : String} {af : Array Edge} {r : List Oper} (hz : zeroOf P e = some zs) (hd : dstOk st.n d = true)
    (h : APA P ge ops K j0 zs (j0 + 1) r { st with tm := putD d (.ptr st.h.length 0) st.tm }) : APA P ge ops K j0 zs j0 (⟨d, .alloc e, t, p, af, none⟩ :: r) st := by
  unfold APA
  rw [if_pos rfl]
  exact ⟨⟨e, rfl, rfl, hz⟩, hd, h⟩
/-- A result that lies in a variable. -/
theorem retqc {t : Nat} {T : TypeId} {cs : List V} {off : Nat} {r : V} (hp : place st.h (lk st.tm t) = some (cs, off)) (ho : loadOk P T cs off) (hc : Conv st.h (loadV P T cs off) r) : RetQ P #[.cell t T] r .ret st :=
  ⟨.inr rfl, _, ⟨cs, off, hp, ho, rfl⟩, hc⟩
theorem retq2ct {t u : Nat} {T : TypeId} {cs : List V} {off : Nat} {r : V} (hp : place st.h (lk st.tm t) = some (cs, off)) (ho : loadOk P T cs off) (hc : Conv st.h (.tup [loadV P T cs off, lk st.tm u]) r) : RetQ P #[.cell t T, .tmp u] r .ret st :=
  ⟨.inr rfl, _, ⟨[loadV P T cs off, lk st.tm u], rfl, ⟨cs, off, hp, ho, rfl⟩, rfl, trivial⟩, hc⟩
end
end Go.AM
end
