/-
  YtbgooadmonnjaaaGreatDoorRc00: steps of the proof of a law of the program: what these texts prove holds under the hypotheses that their theorems name, and no others.
-/
import Derived.Tactics
import Derived.Below
import Derived.Laws.AppendOwn
import Derived.Laws.CopyRow
import Derived.Laws.Rows
import Derived.Laws.Entries
section
namespace Go.AM
/-- Abstract values. 'vec': a slice whose cells nobody writes any more, as a list of elements (each the list of its cells), and its length. 'fp': a pointer into such cells. 'ref', 'ptr', 'ep': into a block of the abstract heap. -/
inductive V where
  | junk | void
  | bool (b : Bool) | int (k : IntKind) (n : Int) | str (s : ByteArray)
  | nils | nilp | nilf | nilm | nili
  | vec (xs : List (List V)) (len : Nat)
  | fp (cs : List V) (off : Nat)
  | ref (b g off len : Nat)
  | ptr (b off : Nat)
  | ep (b g i off : Nat)
  | agg (cs : List V)
  | tup (vs : List V)
  | fn (f : Fn) (first captured : List V)
  | mp (b : Nat)
  | ifc (t : TypeId) (v : V)
  | own (T : TypeId) (xs : List (List V))
  deriving Inhabited
/-- The ghost: which cells are frozen; where abstract blocks lie. -/
structure Gh where
  fz : Nat → Nat
  n : Nat
  gm : Nat → Nat
  m : Nat → Nat → Option Nat
  sz : Nat → Nat
  cap : Nat → Nat → Nat
def cellD (w : World) (k o : Nat) : Value := (w.cell? ⟨k, o, none⟩).getD undef
inductive R (G : Gh) (w : World) : Bool → V → Value → Prop
  | junk {fr c} : R G w fr .junk c
  | void {fr} : R G w fr .void undef
  | bool {fr b} : R G w fr (.bool b) (.bool b)
  | int {fr k n} : R G w fr (.int k n) (.int k n)
  | str {fr s} : R G w fr (.str s) (.string s)
  | nils {fr} : R G w fr .nils (.slice none 0 0)
  | nilp {fr} : R G w fr .nilp (.pointer none)
  | nilf {fr} : R G w fr .nilf .nilFunc
  | nilm {fr} : R G w fr .nilm (.map none)
  | nili {fr} : R G w fr .nili .nilIface
  | emp {fr a cap} (h : cap ≤ maxLen) : R G w fr (.vec [] 0) (.slice a 0 cap)
  | vec {fr xs len k o cap sz} (h1 : len ≤ xs.length) (h2 : xs.length ≤ cap) (h3 : cap ≤ maxLen)
      (hl : ∀ (i : Nat) (x : List V), xs[i]? = some x → x.length = sz)
      (hc : ∀ (i : Nat) (x : List V) (j : Nat) (v : V), xs[i]? = some x → x[j]? = some v → (w.cell? ⟨k, o + (i * sz + j), none⟩).isSome = true ∧ o + (i * sz + j) < G.fz k)
      (ho : ∀ (i : Nat) (x : List V) (j : Nat) (v : V), xs[i]? = some x → x[j]? = some v → (cellD w k (o + (i * sz + j))).oneCell' = true)
      (hr : ∀ (i : Nat) (x : List V) (j : Nat) (v : V), xs[i]? = some x → x[j]? = some v → R G w true v (cellD w k (o + (i * sz + j)))) :
      R G w fr (.vec xs len) (.slice (some ⟨k, o, none⟩) len cap)
  | fp {fr cs off k o} (hc : ∀ (j : Nat) (v : V), cs[j]? = some v → (w.cell? ⟨k, o + j, none⟩).isSome = true ∧ o + j < G.fz k)
      (ho : ∀ (j : Nat) (v : V), cs[j]? = some v → (cellD w k (o + j)).oneCell' = true)
      (hr : ∀ (j : Nat) (v : V), cs[j]? = some v → R G w true v (cellD w k (o + j))) :
      R G w fr (.fp cs off) (.pointer (some ⟨k, o + off, none⟩))
  | agg {fr cs} {arr : Array Value} (hs : arr.size = cs.length) (ho : ∀ (i : Nat) (v : V), cs[i]? = some v → (arr.getD i undef).oneCell' = true)
      (hr : ∀ (i : Nat) (v : V), cs[i]? = some v → R G w fr v (arr.getD i undef)) : R G w fr (.agg cs) (.agg arr)
  | tup {fr cs} {arr : Array Value} (hs : arr.size = cs.length) (hr : ∀ (i : Nat) (v : V), cs[i]? = some v → R G w fr v (arr.getD i undef)) : R G w fr (.tup cs) (.tuple arr)
  | fn {fr f A B} {C D : Array Value} (hs : C.size = A.length) (hr : ∀ (i : Nat) (v : V), A[i]? = some v → R G w fr v (C.getD i undef))
      (hs' : D.size = B.length) (hr' : ∀ (i : Nat) (v : V), B[i]? = some v → R G w fr v (D.getD i undef)) : R G w fr (.fn f A B) (.func f C D)
  | ifc {fr t v c} (hr : R G w fr v c) : R G w fr (.ifc t v) (.iface t c)
  | ref {b g off len k} (hb : b < G.n) (hg : g ≤ G.gm b) (hm : G.m b g = some k) (h : off + len ≤ G.cap b g) :
      R G w false (.ref b g off len) (.slice (some ⟨k, off * G.sz b, none⟩) len (G.cap b g - off))
  | refn {b g} (hb : b < G.n) (hg : g ≤ G.gm b) (hm : G.m b g = none) : R G w false (.ref b g 0 0) (.slice none 0 0)
  | ptr {b off k} (hb : b < G.n) (hm : G.m b 0 = some k) : R G w false (.ptr b off) (.pointer (some ⟨k, off, none⟩))
  | ep {b g i off k} (hb : b < G.n) (hg : g ≤ G.gm b) (hm : G.m b g = some k) : R G w false (.ep b g i off) (.pointer (some ⟨k, i * G.sz b + off, none⟩))
  | mp {b k} (hb : b < G.n) (hm : G.m b 0 = some k) : R G w false (.mp b) (.map (some k))
/-- A later ghost and world, as far as values are concerned. -/
structure GLe (G : Gh) (w : World) (G' : Gh) (w' : World) : Prop where
  fz : ∀ k, G.fz k ≤ G'.fz k
  cells : ∀ k o, o < G.fz k → w'.cell? ⟨k, o, none⟩ = w.cell? ⟨k, o, none⟩
  n : G.n ≤ G'.n
  gm : ∀ b, b < G.n → G.gm b ≤ G'.gm b
  m : ∀ b g, b < G.n → g ≤ G.gm b → G'.m b g = G.m b g
  sz : ∀ b, b < G.n → G'.sz b = G.sz b
  cap : ∀ b g, b < G.n → g ≤ G.gm b → G'.cap b g = G.cap b g
theorem GLe.refl (G : Gh) (w : World) : GLe G w G w := ⟨fun _ => Nat.le_refl _, fun _ _ _ => rfl, Nat.le_refl _, fun _ _ => Nat.le_refl _, fun _ _ _ _ => rfl, fun _ _ => rfl, fun _ _ _ _ => rfl⟩
theorem GLe.trans {G G1 G2 : Gh} {w w1 w2 : World} (h : GLe G w G1 w1) (h' : GLe G1 w1 G2 w2) : GLe G w G2 w2 where
  fz k := Nat.le_trans (h.fz k) (h'.fz k)
  cells k o ho := by rw [h'.cells k o (Nat.lt_of_lt_of_le ho (h.fz k)), h.cells k o ho]
  n := Nat.le_trans h.n h'.n
  gm b hb := Nat.le_trans (h.gm b hb) (h'.gm b (Nat.lt_of_lt_of_le hb h.n))
  m b g hb hg := by rw [h'.m b g (Nat.lt_of_lt_of_le hb h.n) (Nat.le_trans hg (h.gm b hb)), h.m b g hb hg]
  sz b hb := by rw [h'.sz b (Nat.lt_of_lt_of_le hb h.n), h.sz b hb]
  cap b g hb hg := by rw [h'.cap b g (Nat.lt_of_lt_of_le hb h.n) (Nat.le_trans hg (h.gm b hb)), h.cap b g hb hg]
theorem R.mono {G G' : Gh} {w w' : World} (h : GLe G w G' w') {fr : Bool} {v : V} {c : Value} (hr : R G w fr v c) : R G' w' fr v c := by
  have hd : ∀ k o, o < G.fz k → cellD w' k o = cellD w k o := fun k o ho => by unfold cellD; rw [h.cells k o ho]
  induction hr with
  | junk => exact .junk
  | void => exact .void
  | bool => exact .bool
  | int => exact .int
  | str => exact .str
  | nils => exact .nils
  | nilp => exact .nilp
  | nilf => exact .nilf
  | nilm => exact .nilm
  | nili => exact .nili
  | emp h => exact .emp h
  | vec h1 h2 h3 hl hc ho hr ih =>
    refine .vec h1 h2 h3 hl (fun i x j v hx hv => ?_) (fun i x j v hx hv => ?_) (fun i x j v hx hv => ?_)
    · have := hc i x j v hx hv
      exact ⟨by rw [h.cells _ _ this.2]; exact this.1, Nat.lt_of_lt_of_le this.2 (h.fz _)⟩
    · rw [hd _ _ (hc i x j v hx hv).2]; exact ho i x j v hx hv
    · rw [hd _ _ (hc i x j v hx hv).2]; exact ih i x j v hx hv
  | fp hc ho hr ih =>
    refine .fp (fun j v hv => ?_) (fun j v hv => ?_) (fun j v hv => ?_)
    · have := hc j v hv
      exact ⟨by rw [h.cells _ _ this.2]; exact this.1, Nat.lt_of_lt_of_le this.2 (h.fz _)⟩
    · rw [hd _ _ (hc j v hv).2]; exact ho j v hv
    · rw [hd _ _ (hc j v hv).2]; exact ih j v hv
  | agg hs ho hr ih => exact .agg hs ho ih
  | tup hs hr ih => exact .tup hs ih
  | fn hs hr hs' hr' ih ih' => exact .fn hs ih hs' ih'
  | ifc hr ih => exact .ifc ih
  | ref hb hg hm hle =>
    rw [← h.sz _ hb, ← h.cap _ _ hb hg]
    exact .ref (Nat.lt_of_lt_of_le hb h.n) (Nat.le_trans hg (h.gm _ hb)) (by rw [h.m _ _ hb hg]; exact hm) (by rw [h.cap _ _ hb hg]; exact hle)
  | refn hb hg hm => exact .refn (Nat.lt_of_lt_of_le hb h.n) (Nat.le_trans hg (h.gm _ hb)) (by rw [h.m _ _ hb hg]; exact hm)
  | ptr hb hm => exact .ptr (Nat.lt_of_lt_of_le hb h.n) (by rw [h.m _ _ hb (Nat.zero_le _)]; exact hm)
  | ep hb hg hm =>
    rw [← h.sz _ hb]
    exact .ep (Nat.lt_of_lt_of_le hb h.n) (Nat.le_trans hg (h.gm _ hb)) (by rw [h.m _ _ hb hg]; exact hm)
  | mp hb hm => exact .mp (Nat.lt_of_lt_of_le hb h.n) (by rw [h.m _ _ hb (Nat.zero_le _)]; exact hm)
/-- Frozen values look at frozen cells alone. -/
theorem R.monoT {G G' : Gh} {w w' : World} (hfz : ∀ k, G.fz k ≤ G'.fz k) (hcell : ∀ k o, o < G.fz k → w'.cell? ⟨k, o, none⟩ = w.cell? ⟨k, o, none⟩)
    {fr : Bool} {v : V} {c : Value} (hr : R G w fr v c) (hfr : fr = true) : R G' w' true v c := by
  have hd : ∀ k o, o < G.fz k → cellD w' k o = cellD w k o := fun k o ho => by unfold cellD; rw [hcell k o ho]
  induction hr with
  | junk => exact .junk
  | void => exact .void
  | bool => exact .bool
  | int => exact .int
  | str => exact .str
  | nils => exact .nils
  | nilp => exact .nilp
  | nilf => exact .nilf
  | nilm => exact .nilm
  | nili => exact .nili
  | emp h => exact .emp h
  | vec h1 h2 h3 hl hc ho hr ih =>
    refine .vec h1 h2 h3 hl (fun i x j v hx hv => ?_) (fun i x j v hx hv => ?_) (fun i x j v hx hv => ?_)
    · have := hc i x j v hx hv
      exact ⟨by rw [hcell _ _ this.2]; exact this.1, Nat.lt_of_lt_of_le this.2 (hfz _)⟩
    · rw [hd _ _ (hc i x j v hx hv).2]; exact ho i x j v hx hv
    · rw [hd _ _ (hc i x j v hx hv).2]; exact ih i x j v hx hv rfl
  | fp hc ho hr ih =>
    refine .fp (fun j v hv => ?_) (fun j v hv => ?_) (fun j v hv => ?_)
    · have := hc j v hv
      exact ⟨by rw [hcell _ _ this.2]; exact this.1, Nat.lt_of_lt_of_le this.2 (hfz _)⟩
    · rw [hd _ _ (hc j v hv).2]; exact ho j v hv
    · rw [hd _ _ (hc j v hv).2]; exact ih j v hv rfl
  | agg hs ho hr ih => exact .agg hs ho fun i v h => ih i v h hfr
  | tup hs hr ih => exact .tup hs fun i v h => ih i v h hfr
  | fn hs hr hs' hr' ih ih' => exact .fn hs (fun i v h => ih i v h hfr) hs' (fun i v h => ih' i v h hfr)
  | ifc hr ih => exact .ifc (ih hfr)
  | ref => cases hfr
  | refn => cases hfr
  | ptr => cases hfr
  | ep => cases hfr
  | mp => cases hfr
theorem R.weak {G : Gh} {w : World} {fr : Bool} {v : V} {c : Value} (hr : R G w fr v c) (hfr : fr = true) : R G w false v c := by
  induction hr with
  | junk => exact .junk
  | void => exact .void
  | bool => exact .bool
  | int => exact .int
  | str => exact .str
  | nils => exact .nils
  | nilp => exact .nilp
  | nilf => exact .nilf
  | nilm => exact .nilm
  | nili => exact .nili
  | emp h => exact .emp h
  | vec h1 h2 h3 hl hc ho hr ih => exact .vec h1 h2 h3 hl hc ho hr
  | fp hc ho hr ih => exact .fp hc ho hr
  | agg hs ho hr ih => exact .agg hs ho fun i v h => ih i v h hfr
  | tup hs hr ih => exact .tup hs fun i v h => ih i v h hfr
  | fn hs hr hs' hr' ih ih' => exact .fn hs (fun i v h => ih i v h hfr) hs' (fun i v h => ih' i v h hfr)
  | ifc hr ih => exact .ifc (ih hfr)
  | ref => cases hfr
  | refn => cases hfr
  | ptr => cases hfr
  | ep => cases hfr
  | mp => cases hfr
mutual
/-- No reference into the abstract heap (frozen cells hold none). -/
def V.isF : V → Bool
  | .ref .. | .ptr .. | .ep .. | .mp _ | .own .. => false
  | .agg cs | .tup cs => V.isFs cs
  | .fn _ a b => V.isFs a && V.isFs b
  | .ifc _ v => V.isF v
  | _ => true
def V.isFs : List V → Bool
  | [] => true
  | v :: vs => V.isF v && V.isFs vs
end
theorem V.isFs_get {cs : List V} (h : V.isFs cs = true) : ∀ (i : Nat) (v : V), cs[i]? = some v → v.isF = true := by
  induction cs with
  | nil => intro i v hv; simp at hv
  | cons a r ih =>
    simp only [V.isFs, Bool.and_eq_true] at h
    intro i v hv
    cases i with
    | zero => simp at hv; subst hv; exact h.1
    | succ i => exact ih h.2 i v (by simpa using hv)
theorem R.frozen {G : Gh} {w : World} {fr : Bool} {v : V} {c : Value} (hr : R G w fr v c) (hf : v.isF = true) : R G w true v c := by
  induction hr with
  | junk => exact .junk
  | void => exact .void
  | bool => exact .bool
  | int => exact .int
  | str => exact .str
  | nils => exact .nils
  | nilp => exact .nilp
  | nilf => exact .nilf
  | nilm => exact .nilm
  | nili => exact .nili
  | emp h => exact .emp h
  | vec h1 h2 h3 hl hc ho hr ih => exact .vec h1 h2 h3 hl hc ho hr
  | fp hc ho hr ih => exact .fp hc ho hr
  | agg hs ho hr ih => simp only [V.isF] at hf; exact .agg hs ho fun i v h => ih i v h (V.isFs_get hf i v h)
  | tup hs hr ih => simp only [V.isF] at hf; exact .tup hs fun i v h => ih i v h (V.isFs_get hf i v h)
  | fn hs hr hs' hr' ih ih' => simp only [V.isF, Bool.and_eq_true] at hf; exact .fn hs (fun i v h => ih i v h (V.isFs_get hf.1 i v h)) hs' (fun i v h => ih' i v h (V.isFs_get hf.2 i v h))
  | ifc hr ih => simp only [V.isF] at hf; exact .ifc (ih hf)
  | ref => simp [V.isF] at hf
  | refn => simp [V.isF] at hf
  | ptr => simp [V.isF] at hf
  | ep => simp [V.isF] at hf
  | mp => simp [V.isF] at hf
mutual
/-- All ids are below n. -/
def V.lt (n : Nat) : V → Bool
  | .ref b .. | .ptr b _ | .ep b .. | .mp b => b < n
  | .agg cs | .tup cs => V.lts n cs
  | .fn _ a b => V.lts n a && V.lts n b
  | .ifc _ v => V.lt n v
  | _ => true
def V.lts (n : Nat) : List V → Bool
  | [] => true
  | v :: vs => V.lt n v && V.lts n vs
end
theorem V.lts_get {n : Nat} {cs : List V} (h : V.lts n cs = true) : ∀ (i : Nat) (v : V), cs[i]? = some v → v.lt n = true := by
  induction cs with
  | nil => intro i v hv; simp at hv
  | cons a r ih =>
    simp only [V.lts, Bool.and_eq_true] at h
    intro i v hv
    cases i with
    | zero => simp at hv; subst hv; exact h.1
    | succ i => exact ih h.2 i v (by simpa using hv)
/-- The ghost with fewer ids. -/
def Gh.cut (G : Gh) (n : Nat) : Gh := { G with n := n }
theorem R.cut {G : Gh} {w : World} {fr : Bool} {v : V} {c : Value} {n : Nat} (hr : R G w fr v c) (hf : v.lt n = true) : R (G.cut n) w fr v c := by
  induction hr with
  | junk => exact .junk
  | void => exact .void
  | bool => exact .bool
  | int => exact .int
  | str => exact .str
  | nils => exact .nils
  | nilp => exact .nilp
  | nilf => exact .nilf
  | nilm => exact .nilm
  | nili => exact .nili
  | emp h => exact .emp h
  | vec h1 h2 h3 hl hc ho hr ih => exact .vec h1 h2 h3 hl hc ho fun i x j v hx hv => (hr i x j v hx hv).monoT (G := G) (G' := G.cut n) (fun k => Nat.le_refl (G.fz k)) (fun _ _ _ => rfl) rfl
  | fp hc ho hr ih => exact .fp hc ho fun j v hv => (hr j v hv).monoT (G := G) (G' := G.cut n) (fun k => Nat.le_refl (G.fz k)) (fun _ _ _ => rfl) rfl
  | agg hs ho hr ih => simp only [V.lt] at hf; exact .agg hs ho fun i v h => ih i v h (V.lts_get hf i v h)
  | tup hs hr ih => simp only [V.lt] at hf; exact .tup hs fun i v h => ih i v h (V.lts_get hf i v h)
  | fn hs hr hs' hr' ih ih' => simp only [V.lt, Bool.and_eq_true] at hf; exact .fn hs (fun i v h => ih i v h (V.lts_get hf.1 i v h)) hs' (fun i v h => ih' i v h (V.lts_get hf.2 i v h))
  | ifc hr ih => simp only [V.lt] at hf; exact .ifc (ih hf)
  | ref hb hg hm hle => simp [V.lt] at hf; exact .ref (G := G.cut n) hf hg hm hle
  | refn hb hg hm => simp [V.lt] at hf; exact .refn (G := G.cut n) hf hg hm
  | ptr hb hm => simp [V.lt] at hf; exact .ptr (G := G.cut n) hf hm
  | ep hb hg hm => simp [V.lt] at hf; exact .ep (G := G.cut n) hf hg hm
  | mp hb hm => simp [V.lt] at hf; exact .mp (G := G.cut n) hf hm
/-- One cell wide. -/
def V.one : V → Bool
  | .junk | .void | .agg _ | .tup _ | .own .. => false
  | _ => true
theorem R.one {G : Gh} {w : World} {fr : Bool} {v : V} {c : Value} (hr : R G w fr v c) (h : v.one = true) : c.oneCell' = true := by
  cases hr <;> first | rfl | simp [V.one] at h
end Go.AM
end
section
set_option linter.unusedVariables false
set_option linter.unusedSimpArgs false
namespace Go.AM
inductive B where
  | dead
  | var (cells : List V)
  | row (T : TypeId) (g fzn : Nat) (flat : Bool) (xs : List (List V))
  | map (es : List (V × V))
  deriving Inhabited
abbrev GEnv := Nat → Option (List V)
def Gh.at (G : Gh) (b : Nat) : B → Option Nat
  | .dead => none
  | .var _ => G.m b 0
  | .row _ g _ _ _ => G.m b g
  | .map _ => G.m b 0
def szOf (P : Program) (t : TypeId) : Nat := ((P.info? t).map (·.size)).getD 0
def RB (P : Program) (G : Gh) (w : World) (b : Nat) : B → Prop
  | .dead => True
  | .var cells => G.gm b = 0 ∧ ∃ k arr T, G.m b 0 = some k ∧ w.heap[k]? = some (.cells arr T (0, 0)) ∧ G.fz k = 0 ∧ arr.size = cells.length ∧
      ∀ (i : Nat) (v : V), cells[i]? = some v → (arr.getD i undef).oneCell' = true ∧ R G w false v (arr.getD i undef)
  | .row T g fzn flat xs => G.gm b = g ∧ fzn ≤ xs.length ∧ (0 < G.sz b ∧ G.sz b = szOf P T) ∧ ((G.m b g = none ∧ xs = []) ∨ ∃ k arr, G.m b g = some k ∧ w.heap[k]? = some (.cells arr T (0, 0)) ∧ G.fz k ≤ fzn * G.sz b ∧
      arr.size = G.cap b g * G.sz b ∧ xs.length ≤ G.cap b g ∧ G.cap b g ≤ maxLen ∧ (∀ (i : Nat) (x : List V), xs[i]? = some x → x.length = G.sz b) ∧
      ∀ (i : Nat) (x : List V) (j : Nat) (v : V), xs[i]? = some x → x[j]? = some v → (arr.getD (i * G.sz b + j) undef).oneCell' = true ∧ R G w flat v (arr.getD (i * G.sz b + j) undef))
  | .map es => G.gm b = 0 ∧ ∃ k ents clock, G.m b 0 = some k ∧ w.heap[k]? = some (.map ents clock) ∧ ents.size = es.length ∧
      ∀ (i : Nat) (e : V × V) (c : MapEntry), es[i]? = some e → ents[i]? = some c → R G w true e.1 c.key ∧ R G w true e.2 c.val
structure RH (P : Program) (ge : GEnv) (G : Gh) (h : List B) (w : World) : Prop where
  n : h.length = G.n
  bl : ∀ (b : Nat) (x : B), h[b]? = some x → RB P G w b x
  inj : ∀ (b b' : Nat) (x x' : B) (k : Nat), h[b]? = some x → h[b']? = some x' → G.at b x = some k → G.at b' x' = some k → b = b'
  fzlt : ∀ k, w.heap.size ≤ k → G.fz k = 0
  ge : ∀ g cs, ge g = some cs → R G w true (.fp cs 0) (.pointer (some ⟨g, 0, none⟩))
structure St where
  n : Nat
  tm : List (Nat × V)
  h : List B
def lk : List (Nat × V) → Nat → V
  | [], _ => .junk
  | (s, v) :: r, t => if s = t then v else lk r t
def putD : Option Tmp → V → List (Nat × V) → List (Nat × V)
  | some d, v, tm => (d, v) :: tm
  | none, _, tm => tm
structure Rep (P : Program) (ge : GEnv) (G : Gh) (st : St) (a : Act) (w : World) : Prop where
  rh : RH P ge G st.h w
  tm : ∀ t, R G w false (lk st.tm t) (a.tmps.getD t undef)
  n : a.tmps.size = st.n
  d : a.defers = []
structure Ext (G : Gh) (h : List B) (w : World) (G' : Gh) (h' : List B) (w' : World) : Prop where
  le : GLe G w G' w'
  size : w.heap.size ≤ w'.heap.size
  frame : ∀ (k : Nat), k < w.heap.size → (∀ (b : Nat) (x : B), h[b]? = some x → G.at b x ≠ some k) → w'.heap[k]? = w.heap[k]? ∧ G'.fz k = G.fz k
  fresh : ∀ (b : Nat) (x : B) (k : Nat), h'[b]? = some x → G'.at b x = some k → w.heap.size ≤ k ∨ ∃ (b0 : Nat) (x0 : B), h[b0]? = some x0 ∧ G.at b0 x0 = some k
  os : w'.os = w.os
  out : w'.output = w.output ∧ w'.tape = w.tape
theorem Ext.refl (G : Gh) (h : List B) (w : World) : Ext G h w G h w :=
  ⟨.refl _ _, Nat.le_refl _, fun _ _ _ => ⟨rfl, rfl⟩, fun b x k hx hk => .inr ⟨b, x, hx, hk⟩, rfl, ⟨rfl, rfl⟩⟩
theorem Ext.trans {G G1 G2 : Gh} {h h1 h2 : List B} {w w1 w2 : World} (e : Ext G h w G1 h1 w1) (e' : Ext G1 h1 w1 G2 h2 w2) : Ext G h w G2 h2 w2 where
  le := e.le.trans e'.le
  size := Nat.le_trans e.size e'.size
  frame k hk hn := by
    obtain ⟨a1, a2⟩ := e.frame k hk hn
    obtain ⟨b1, b2⟩ := e'.frame k (Nat.lt_of_lt_of_le hk e.size) (fun b x hx hat => by
      rcases e.fresh b x k hx hat with h | ⟨b0, x0, h0, h1⟩
      · omega
      · exact hn b0 x0 h0 h1)
    exact ⟨b1.trans a1, b2.trans a2⟩
  fresh b x k hx hat := by
    rcases e'.fresh b x k hx hat with h | ⟨b0, x0, h0, h1⟩
    · exact .inl (Nat.le_trans e.size h)
    · exact e.fresh b0 x0 k h0 h1
  os := e'.os.trans e.os
  out := ⟨e'.out.1.trans e.out.1, e'.out.2.trans e.out.2⟩
/-- The post of the machine that an abstract post stands for. -/
def CPost (P : Program) (ge : GEnv) (Q : Exit → St → Prop) (G : Gh) (h : List B) (w : World) (e : Exit) (a' : Act) (w' : World) : Prop :=
  ∃ G' st', Q e st' ∧ Rep P ge G' st' a' w' ∧ Ext G h w G' st'.h w'
def AW (P : Program) (ge : GEnv) (c : Code) (Q : Exit → St → Prop) (st : St) : Prop :=
  ∀ G a w, Rep P ge G st a w → c.wp P (CPost P ge Q G st.h w) a w
def AS (P : Program) (ge : GEnv) (ops : Array Oper) (l : List Oper) (Q : Exit → St → Prop) (st : St) : Prop :=
  ∀ G a w, Rep P ge G st a w → wpList P ops (CPost P ge Q G st.h w) l a w
section
variable {P : Program} {ge : GEnv} {Q Q' : Exit → St → Prop} {st st' : St}
theorem CPost.mono {G G1 : Gh} {h h1 : List B} {w w1 : World} (e : Ext G h w G1 h1 w1) (hq : ∀ e st, Q e st → Q' e st) {ex : Exit} {a' : Act} {w' : World} (hp : CPost P ge Q G1 h1 w1 ex a' w') : CPost P ge Q' G h w ex a' w' :=
  let ⟨G', s', q, r, x⟩ := hp
  ⟨G', s', hq _ _ q, r, e.trans x⟩
theorem AW.mono {c : Code} (h : AW P ge c Q st) (hq : ∀ e st, Q e st → Q' e st) : AW P ge c Q' st :=
  fun G a w hr => wp_mono (h G a w hr) fun _ _ _ hp => hp.mono (.refl _ _ _) hq
def SThen (K : St → Prop) (Q : Exit → St → Prop) : Exit → St → Prop
  | .normal, st => K st
  | e, st => Q e st
theorem AW_seq {x y : Code} (h : AW P ge x (SThen (AW P ge y Q) Q) st) : AW P ge (.seq x y) Q st := by
  intro G a w hr
  refine wp_seq (wp_mono (h G a w hr) ?_)
  rintro e a' w' ⟨G', s', q, r, x⟩
  cases e <;> simp only [SThen, Exit.then] at q ⊢
  case normal => exact wp_mono (q G' a' w' r) fun _ _ _ hp => hp.mono x fun _ _ h => h
  all_goals exact ⟨G', s', q, r, x⟩
theorem AW_skip (h : Q .normal st) : AW P ge .skip Q st := fun G _ w hr => wp_skip ⟨G, st, h, hr, .refl _ _ _⟩
theorem AW_ret (h : Q .ret st) : AW P ge .ret Q st := fun G _ w hr => wp_ret ⟨G, st, h, hr, .refl _ _ _⟩
theorem AW_exit {id : Nat} (h : Q (.exit id) st) : AW P ge (.exit id) Q st := fun G _ w hr => wp_exit ⟨G, st, h, hr, .refl _ _ _⟩
def SBlock (id : Nat) (Q : Exit → St → Prop) : Exit → St → Prop
  | .exit id', st => if id' = id then Q .normal st else Q (.exit id') st
  | e, st => Q e st
theorem AW_block {id : Nat} {c : Code} (h : AW P ge c (SBlock id Q) st) : AW P ge (.block id c) Q st := by
  intro G a w hr
  refine wp_block (wp_mono (h G a w hr) ?_)
  rintro e a' w' ⟨G', s', q, r, x⟩
  cases e <;> simp only [SBlock, Exit.inBlock] at q ⊢
  case exit id' =>
    split
    · rename_i hid; rw [if_pos hid] at q; exact ⟨G', s', q, r, x⟩
    · rename_i hid; rw [if_neg hid] at q; exact ⟨G', s', q, r, x⟩
  all_goals exact ⟨G', s', q, r, x⟩
def V.ofCell : Value → V
  | .bool b => .bool b
  | .int k n => .int k n
  | .string s => .str s
  | .slice none 0 0 => .nils
  | .pointer none => .nilp
  | .nilFunc => .nilf
  | .map none => .nilm
  | .nilIface => .nili
  | _ => .junk
def V.ofValue : Value → V
  | .agg cs => if cs.toList.all (·.oneCell') then .agg (cs.toList.map V.ofCell) else .junk
  | v => V.ofCell v
theorem R.ofCell {G : Gh} {w : World} {fr : Bool} (v : Value) : R G w fr (V.ofCell v) v := by
  unfold V.ofCell
  split <;> constructor
theorem R.ofValue {G : Gh} {w : World} {fr : Bool} (v : Value) : R G w fr (V.ofValue v) v := by
  unfold V.ofValue
  split
  · rename_i cs
    split
    · rename_i h
      refine .agg (by simp) (fun i v hv => ?_) (fun i v hv => ?_)
      · rw [List.getElem?_map] at hv
        obtain ⟨x, hx, rfl⟩ := Option.map_eq_some_iff.1 hv
        have hx' : cs[i]? = some x := by simpa using hx
        rw [Array.getD_eq_getD_getElem?, hx']
        exact List.all_eq_true.1 h x (List.mem_of_getElem? hx)
      · rw [List.getElem?_map] at hv
        obtain ⟨x, hx, rfl⟩ := Option.map_eq_some_iff.1 hv
        have hx' : cs[i]? = some x := by simpa using hx
        rw [Array.getD_eq_getD_getElem?, hx']
        exact .ofCell x
    · exact .junk
  · exact .ofCell v
def ev (ge : GEnv) (tm : List (Nat × V)) : Operand → V
  | .tmp t => lk tm t
  | .const v => .ofValue v
  | .global g => match ge g with | some cs => .fp cs 0 | none => .junk
  | .func f => .fn (.func f) [] []
theorem Rep.ev {G : Gh} {a : Act} {w : World} (hr : Rep P ge G st a w) (x : Operand) : R G w false (ev ge st.tm x) (a.eval x) := by
  cases x with
  | tmp t => exact hr.tm t
  | const v => exact .ofValue v
  | global g =>
    simp only [AM.ev, Act.eval]
    split
    · rename_i cs h; exact (hr.rh.ge g cs h).weak rfl
    · exact .junk
  | func f => exact .fn rfl (fun i v h => by simp at h) rfl (fun i v h => by simp at h)
theorem R.inv_bool {G : Gh} {w : World} {fr b : Bool} {c : Value} (h : R G w fr (.bool b) c) : c = .bool b := by cases h; rfl
theorem R.inv_int {G : Gh} {w : World} {fr : Bool} {k : IntKind} {n : Int} {c : Value} (h : R G w fr (.int k n) c) : c = .int k n := by cases h; rfl
theorem R.inv_str {G : Gh} {w : World} {fr : Bool} {s : ByteArray} {c : Value} (h : R G w fr (.str s) c) : c = .string s := by cases h; rfl
theorem AW_cond {x : Operand} {t e : Code} {c : Bool} (hc : ev ge st.tm x = .bool c) (ht : c = true → AW P ge t Q st) (hf : c = false → AW P ge e Q st) : AW P ge (.cond x t e) Q st := by
  intro G a w hr
  have hx := hr.ev x
  rw [hc] at hx
  exact wp_cond_split hx.inv_bool (fun h => ht h G a w hr) (fun h => hf h G a w hr)
theorem AW_region {id : Nat} {ops : Array Oper} (h : AS P ge ops ops.toList Q st) : AW P ge (.region id ops false) Q st :=
  fun G a w hr => wp_region_list (h G a w hr)
theorem AS_nil {ops : Array Oper} (h : Q .normal st) : AS P ge ops [] Q st := fun G _ w hr => wpList_nil ⟨G, st, h, hr, .refl _ _ _⟩
theorem upon_mono {o : Oper} {a : Act} {K K' : Act → World → Prop} {Q Q' : Exit → Act → World → Prop} (hK : ∀ a w, K a w → K' a w) (hQ : ∀ e a w, Q e a w → Q' e a w) {r : Result Next}
    (h : o.upon P a K Q r) : o.upon P a K' Q' r := by
  have hout : LetsOut Q → LetsOut Q' := fun ⟨a, w, h⟩ => ⟨a, w, hQ _ _ _ h⟩
  cases r with
  | ok n w' =>
    cases n <;> simp only [Oper.upon] at h ⊢ <;> first
      | exact hK _ _ h
      | exact Calls.mono h (fun e w'' he => by cases e <;> first | exact hK _ _ he | exact hQ _ _ _ he | exact hout he)
      | exact Rows.mono h (fun _ _ he => hK _ _ he)
  | halt x w' => cases x <;> simp only [Oper.upon] at h ⊢ <;> exact hQ _ _ _ h
theorem wpList_mono' {ops : Array Oper} {Q Q' : Exit → Act → World → Prop} (hQ : ∀ e a w, Q e a w → Q' e a w) : ∀ {l : List Oper} {a : Act} {w : World}, wpList P ops Q l a w → wpList P ops Q' l a w
  | [], _, _, h => hQ _ _ _ h
  | o :: rest, a, w, h => by
    unfold wpList at h ⊢
    split
    · rename_i hw
      rw [if_pos hw] at h
      rcases h with h | ⟨h1, a0, w0, h2⟩
      · exact .inl (upon_mono (fun _ _ h => wpList_mono' hQ h) hQ h)
      · exact .inr ⟨h1, a0, w0, hQ _ _ _ h2⟩
    · rename_i hw
      rw [if_neg hw] at h
      exact wpList_mono' hQ h
/-- What one operation does: v is left, and the heap h'. -/
def OpS (P : Program) (ge : GEnv) (st : St) (o : Oper) (v : V) (h' : List B) : Prop :=
  ∀ G a w, Rep P ge G st a w → ∃ c G' w', ((execOp a.eval o).run P w = .ok (.value c) w' ∨ ((execOp a.eval o).run P w = .ok .skip w' ∧ c = undef)) ∧
    RH P ge G' h' w' ∧ R G' w' false v c ∧ Ext G st.h w G' h' w'
theorem getD_set (t : Array Value) (d i : Nat) (c : Value) (hd : d < t.size) : (t.setIfInBounds d c).getD i undef = if d = i then c else t.getD i undef := by
  simp only [Array.getD_eq_getD_getElem?, Array.getElem?_setIfInBounds]
  split
  · rename_i h; subst h; simp [hd]
  · rfl
theorem Rep.put {G G' : Gh} {a : Act} {w w' : World} (hr : Rep P ge G st a w) (le : GLe G w G' w') {h' : List B} (rh : RH P ge G' h' w') (d : Option Tmp) (hd : ∀ t, d = some t → t < st.n) {v : V} {c : Value} (hv : R G' w' false v c) :
    Rep P ge G' { st with tm := putD d v st.tm, h := h' } (a.put d c) w' := by
  cases d with
  | none => exact ⟨rh, fun t => (hr.tm t).mono le, hr.n, hr.d⟩
  | some t0 =>
    refine ⟨rh, fun t => ?_, ?_, hr.d⟩
    · have hlt : t0 < a.tmps.size := by rw [hr.n]; exact hd t0 rfl
      simp only [putD, lk, Act.put]
      rw [getD_set _ _ _ _ hlt]
      split
      · exact hv
      · exact (hr.tm t).mono le
    · simp only [Act.put, Array.size_setIfInBounds]; exact hr.n
def dstOk (n : Nat) : Option Tmp → Bool
  | none => true
  | some t => t < n
theorem dstOk_spec {n : Nat} {d : Option Tmp} (h : dstOk n d = true) : ∀ t, d = some t → t < n := by
  intro t ht; subst ht; simpa [dstOk] using h
theorem AS_op {ops : Array Oper} {o : Oper} {rest : List Oper} {v : V} {h' : List B} (hg : o.guard = none) (hd : dstOk st.n o.dst = true) (ho : OpS P ge st o v h')
    (h : AS P ge ops rest Q { st with tm := putD o.dst v st.tm, h := h' }) : AS P ge ops (o :: rest) Q st := by
  intro G a w hr
  obtain ⟨c, G', w', hrun, rh, hv, ext⟩ := ho G a w hr
  refine wpList_plain hg fun K hK => ?_
  have hfin : K (a.put o.dst c) w' := by
    refine hK _ _ ?_
    have h2 := h G' _ w' (hr.put ext.le rh o.dst (dstOk_spec hd) hv)
    exact wpList_mono' (fun _ _ _ hp => hp.mono ext fun _ _ h => h) h2
  unfold Oper.wp
  rcases hrun with hrun | ⟨hrun, rfl⟩
  · rw [hrun]; exact hfin
  · rw [hrun]; exact hfin
end
end Go.AM
end
section
set_option linter.unusedVariables false
set_option linter.unusedSimpArgs false
namespace Go.AM
structure WGrow (w w' : World) : Prop where
  size : w.heap.size ≤ w'.heap.size
  old : ∀ k, k < w.heap.size → w'.heap[k]? = w.heap[k]?
  os : w'.os = w.os
  out : w'.output = w.output ∧ w'.tape = w.tape
theorem WGrow.refl (w : World) : WGrow w w := ⟨Nat.le_refl _, fun _ _ => rfl, rfl, ⟨rfl, rfl⟩⟩
theorem WGrow.trans {w w1 w2 : World} (h : WGrow w w1) (h' : WGrow w1 w2) : WGrow w w2 :=
  ⟨Nat.le_trans h.size h'.size, fun k hk => (h'.old k (Nat.lt_of_lt_of_le hk h.size)).trans (h.old k hk), h'.os.trans h.os, ⟨h'.out.1.trans h.out.1, h'.out.2.trans h.out.2⟩⟩
theorem WGrow.alloc (w : World) (o : Obj) : WGrow w (w.alloc o) :=
  ⟨by simp, fun k hk => heap_alloc_old w o k hk, rfl, ⟨rfl, rfl⟩⟩
theorem WGrow.drew (w : World) : WGrow w w.drew := ⟨Nat.le_refl _, fun _ _ => rfl, rfl, ⟨rfl, rfl⟩⟩
theorem WGrow.cell {w w' : World} (h : WGrow w w') {k o : Nat} (hk : k < w.heap.size) : w'.cell? ⟨k, o, none⟩ = w.cell? ⟨k, o, none⟩ := by
  unfold World.cell?
  simp only [h.old k hk]
theorem cell_eq {w w' : World} {k o : Nat} (h : w'.heap[k]? = w.heap[k]?) : w'.cell? ⟨k, o, none⟩ = w.cell? ⟨k, o, none⟩ := by
  unfold World.cell?
  simp only [h]
/-- One more id. -/
def Gh.push (G : Gh) (k : Option Nat) (sz cap : Nat) : Gh :=
  { fz := G.fz, n := G.n + 1
    gm := fun b => if b = G.n then 0 else G.gm b
    m := fun b g => if b = G.n then k else G.m b g
    sz := fun b => if b = G.n then sz else G.sz b
    cap := fun b g => if b = G.n then cap else G.cap b g }
section
variable {P : Program} {ge : GEnv} {st : St} {G : Gh} {w w' : World}
theorem fz_lt {h : List B} (rh : RH P ge G h w) {k o : Nat} (ho : o < G.fz k) : k < w.heap.size := by
  rcases Nat.lt_or_ge k w.heap.size with h1 | h1
  · exact h1
  · rw [rh.fzlt k h1] at ho; omega
theorem GLe.push {h : List B} (rh : RH P ge G h w) (hw : WGrow w w') (k : Option Nat) (sz cap : Nat) : GLe G w (G.push k sz cap) w' where
  fz _ := Nat.le_refl _
  cells k o ho := hw.cell (fz_lt rh ho)
  n := Nat.le_succ _
  gm b hb := by simp only [Gh.push]; rw [if_neg (by omega)]; exact Nat.le_refl _
  m b g hb _ := by simp only [Gh.push]; rw [if_neg (by omega)]
  sz b hb := by simp only [Gh.push]; rw [if_neg (by omega)]
  cap b g hb _ := by simp only [Gh.push]; rw [if_neg (by omega)]
/-- A block whose concrete block is as it was. -/
theorem RB.keep {G' : Gh} (le : GLe G w G' w') {b : Nat} {x : B} (hb : b < G.n) (hgm : G'.gm b = G.gm b) (hk : ∀ k, G.at b x = some k → w'.heap[k]? = w.heap[k]? ∧ G'.fz k = G.fz k) (h : RB P G w b x) : RB P G' w' b x := by
  cases x with
  | dead => trivial
  | var cells =>
    obtain ⟨h0, k, arr, T, hm, hh, hf, hs, hc⟩ := h
    obtain ⟨e1, e2⟩ := hk k hm
    exact ⟨hgm.trans h0, k, arr, T, by rw [le.m b 0 hb (Nat.zero_le _)]; exact hm, e1.trans hh, e2.trans hf, hs, fun i v hv => ⟨(hc i v hv).1, (hc i v hv).2.mono le⟩⟩
  | row T g fzn flat xs =>
    obtain ⟨h0, hfx, hsz, h⟩ := h
    have hg : g ≤ G.gm b := by omega
    refine ⟨hgm.trans h0, hfx, by rw [le.sz b hb]; exact hsz, ?_⟩
    rcases h with ⟨hn, hx⟩ | ⟨k, arr, hm, hh, hf, hs, hl, hcm, hlen, hc⟩
    · exact .inl ⟨by rw [le.m b g hb hg]; exact hn, hx⟩
    · obtain ⟨e1, e2⟩ := hk k hm
      refine .inr ⟨k, arr, by rw [le.m b g hb hg]; exact hm, e1.trans hh, ?_, ?_, ?_, ?_, ?_, ?_⟩
      · rw [e2, le.sz b hb]; exact hf
      · rw [le.sz b hb, le.cap b g hb hg]; exact hs
      · rw [le.cap b g hb hg]; exact hl
      · rw [le.cap b g hb hg]; exact hcm
      · rw [le.sz b hb]; exact hlen
      · rw [le.sz b hb]; exact fun i x j v hx hv => ⟨(hc i x j v hx hv).1, (hc i x j v hx hv).2.mono le⟩
  | map es =>
    obtain ⟨h0, k, ents, clock, hm, hh, hs, hc⟩ := h
    obtain ⟨e1, e2⟩ := hk k hm
    exact ⟨hgm.trans h0, k, ents, clock, by rw [le.m b 0 hb (Nat.zero_le _)]; exact hm, e1.trans hh, hs, fun i e c he hc' => ⟨(hc i e c he hc').1.mono le, (hc i e c he hc').2.mono le⟩⟩
theorem at_lt {h : List B} (rh : RH P ge G h w) {b k : Nat} {x : B} (hx : h[b]? = some x) (hk : G.at b x = some k) : k < w.heap.size := by
  have hb := rh.bl b x hx
  have key : ∀ {o : Obj}, w.heap[k]? = some o → k < w.heap.size := fun h => (Array.getElem?_eq_some_iff.1 h).1
  cases x with
  | dead => simp [Gh.at] at hk
  | var cells =>
    obtain ⟨_, k', arr, T, hm, hh, _⟩ := hb
    simp only [Gh.at] at hk; rw [hm] at hk; cases hk; exact key hh
  | row T g fzn flat xs =>
    simp only [Gh.at] at hk
    obtain ⟨_, _, _, ⟨hn, _⟩ | ⟨k', arr, hm, hh, _⟩⟩ := hb
    · rw [hn] at hk; cases hk
    · rw [hm] at hk; cases hk; exact key hh
  | map es =>
    obtain ⟨_, k', ents, clock, hm, hh, _⟩ := hb
    simp only [Gh.at] at hk; rw [hm] at hk; cases hk; exact key hh
theorem at_push {k : Option Nat} {sz cap b : Nat} {x : B} (hb : b ≠ G.n) : (G.push k sz cap).at b x = G.at b x := by
  cases x <;> simp [Gh.at, Gh.push, hb]
/-- A new block at the heap's end. -/
theorem RH.push {h : List B} (rh : RH P ge G h w) (hw : WGrow w w') {k : Option Nat} {sz cap : Nat} {x : B} (hx : RB P (G.push k sz cap) w' G.n x)
    (hk : ∀ k', (G.push k sz cap).at G.n x = some k' → w.heap.size ≤ k') : RH P ge (G.push k sz cap) (h ++ [x]) w' := by
  have le := GLe.push rh hw k sz cap
  have hlt : ∀ {b y}, h[b]? = some y → b < G.n := fun {b y} hy => by have := (List.getElem?_eq_some_iff.1 hy).1; rw [rh.n] at this; exact this
  have part : ∀ {b y}, (h ++ [x])[b]? = some y → (h[b]? = some y ∧ b < G.n) ∨ (b = G.n ∧ y = x) := fun {b y} hy => by
    rcases Nat.lt_or_ge b h.length with h1 | h1
    · rw [List.getElem?_append_left h1] at hy; exact .inl ⟨hy, hlt hy⟩
    · rw [List.getElem?_append_right h1] at hy
      have h2 : b - h.length = 0 := by
        rcases Nat.eq_zero_or_pos (b - h.length) with h | h
        · exact h
        · rw [List.getElem?_eq_none (by simp; omega)] at hy; cases hy
      rw [h2] at hy; simp at hy
      exact .inr ⟨by rw [← rh.n]; omega, hy.symm⟩
  refine ⟨by simp [Gh.push, rh.n], ?_, ?_, ?_, ?_⟩
  · intro b y hy
    rcases part hy with ⟨hy, hb⟩ | ⟨rfl, rfl⟩
    · refine RB.keep le hb (by simp only [Gh.push]; rw [if_neg (by omega)]) (fun k' hk' => ⟨hw.old _ (at_lt rh hy hk'), rfl⟩) (rh.bl b y hy)
    · exact hx
  · intro b b' y y' k' hy hy' h1 h2
    rcases part hy with ⟨oy, hb⟩ | ⟨rfl, rfl⟩ <;> rcases part hy' with ⟨oy', hb'⟩ | ⟨rfl, rfl⟩
    · rw [at_push (by omega)] at h1 h2; exact rh.inj b b' y y' k' oy oy' h1 h2
    · rw [at_push (by omega)] at h1
      have := at_lt rh oy h1; have := hk k' h2; omega
    · rw [at_push (by omega)] at h2
      have := at_lt rh oy' h2; have := hk k' h1; omega
    · rfl
  · intro k' hk'; exact rh.fzlt k' (Nat.le_trans hw.size hk')
  · intro g cs hg; exact (rh.ge g cs hg).mono le
theorem Ext.push {h : List B} (rh : RH P ge G h w) (hw : WGrow w w') {k : Option Nat} {sz cap : Nat} {x : B}
    (hk : ∀ k', (G.push k sz cap).at G.n x = some k' → w.heap.size ≤ k') : Ext G h w (G.push k sz cap) (h ++ [x]) w' where
  le := GLe.push rh hw k sz cap
  size := hw.size
  frame k' hk' _ := ⟨hw.old k' hk', rfl⟩
  fresh b y k' hy hat := by
    rcases Nat.lt_or_ge b h.length with h1 | h1
    · rw [List.getElem?_append_left h1] at hy
      have hb : b ≠ G.n := by rw [← rh.n]; omega
      rw [at_push hb] at hat
      exact .inr ⟨b, y, hy, hat⟩
    · rw [List.getElem?_append_right h1] at hy
      have h2 : b - h.length = 0 := by
        rcases Nat.eq_zero_or_pos (b - h.length) with h | h
        · exact h
        · rw [List.getElem?_eq_none (by simp; omega)] at hy; cases hy
      rw [h2] at hy; simp at hy; subst hy
      have : b = G.n := by rw [← rh.n]; omega
      subst this
      exact .inl (hk k' hat)
  os := hw.os
  out := hw.out
/-- An operation that touches no memory. -/
theorem OpS_pure {o : Oper} {v : V} (H : ∀ G a w, Rep P ge G st a w → ∃ c, (execOp a.eval o).run P w = .ok (.value c) w ∧ R G w false v c) : OpS P ge st o v st.h := by
  intro G a w hr
  obtain ⟨c, h1, h2⟩ := H G a w hr
  exact ⟨c, G, w, .inl h1, hr.rh, h2, .refl _ _ _⟩
theorem S_move {d : Option Tmp} {x : Operand} {t : TypeId} {p : String} {af : Array Edge} {g : Option (Nat × Bool)} : OpS P ge st ⟨d, .move x, t, p, af, g⟩ (ev ge st.tm x) st.h :=
  OpS_pure fun G a w hr => ⟨_, rfl, hr.ev x⟩
theorem S_assign {d : Option Tmp} {x : Operand} {t : TypeId} {p : String} {af : Array Edge} {g : Option (Nat × Bool)} : OpS P ge st ⟨d, .assign x, t, p, af, g⟩ (ev ge st.tm x) st.h :=
  OpS_pure fun G a w hr => ⟨_, rfl, hr.ev x⟩
def pickV : V → V → V → V
  | .bool c, a, b => cond c a b
  | _, _, _ => .junk
def V.isBool : V → Bool
  | .bool _ => true
  | _ => false
theorem S_pick {d : Option Tmp} {x y z : Operand} {t : TypeId} {p : String} {af : Array Edge} {g : Option (Nat × Bool)} (h : (ev ge st.tm x).isBool = true) :
    OpS P ge st ⟨d, .pick x y z, t, p, af, g⟩ (pickV (ev ge st.tm x) (ev ge st.tm y) (ev ge st.tm z)) st.h :=
  OpS_pure fun G a w hr => by
    have hx := hr.ev x
    cases hv : ev ge st.tm x <;> rw [hv] at h hx <;> simp [V.isBool] at h
    rename_i c
    have hc := hx.inv_bool
    refine ⟨if c then a.eval y else a.eval z, ?_, ?_⟩
    · simp [execOp, hc, asBool]
    · cases c
      · exact hr.ev z
      · exact hr.ev y
def bytesOf (P : Program) (t : TypeId) : Nat := ((P.info? t).map (·.bytes)).getD 0
def zeroOf (P : Program) (t : TypeId) : Option (List V) := ((P.info? t).bind (·.zero)).bind fun z => if z.cells.toList.all (·.oneCell') then some (z.cells.toList.map V.ofCell) else none
def V.cellsOf : V → List V
  | .agg cs => cs
  | v => [v]
def V.cellsOk : V → Bool
  | .agg _ => true
  | v => v.one
theorem cells_of {v : V} {c : Value} {fr : Bool} (hr : R G w fr v c) (h : v.cellsOk = true) :
    c.cells.size = v.cellsOf.length ∧ ∀ (i : Nat) (u : V), v.cellsOf[i]? = some u → (c.cells.getD i undef).oneCell' = true ∧ R G w fr u (c.cells.getD i undef) := by
  cases hr with
  | agg hs ho hr => exact ⟨hs, fun i u hu => ⟨ho i u hu, hr i u hu⟩⟩
  | _ =>
    first
    | (simp [V.cellsOk, V.one] at h; done)
    | (refine ⟨rfl, fun i u hu => ?_⟩
       cases i with
       | zero =>
         simp only [V.cellsOf, List.getElem?_cons_zero, Option.some.injEq] at hu
         subst hu
         refine ⟨rfl, ?_⟩
         simp only [Value.cells, Array.getD_eq_getD_getElem?, List.getElem?_toArray, List.getElem?_cons_zero, Option.getD_some]
         constructor <;> assumption
       | succ i => simp [V.cellsOf] at hu)
theorem RB_newVar (rh : RH P ge G st.h w) {T : TypeId} {arr : Array Value} {cs : List V} (hs : arr.size = cs.length)
    (hc : ∀ (i : Nat) (u : V), cs[i]? = some u → (arr.getD i undef).oneCell' = true ∧ R G w false u (arr.getD i undef)) :
    RB P (G.push (some w.heap.size) 1 1) (w.alloc (.cells arr T)) G.n (.var cs) := by
  refine ⟨by simp [Gh.push], w.heap.size, arr, T, by simp [Gh.push], heap_alloc_new w _, rh.fzlt _ (Nat.le_refl _), hs, fun i u hu => ⟨(hc i u hu).1, (hc i u hu).2.mono ?_⟩⟩
  exact GLe.push rh (.alloc w _) _ _ _
theorem OpS_newVar {o : Oper} {cs : List V} (H : ∀ G a w, Rep P ge G st a w → ∃ (arr : Array Value) (T : TypeId), (execOp a.eval o).run P w = .ok (.value (.pointer (some ⟨w.heap.size, 0, none⟩))) (w.alloc (.cells arr T)) ∧
      arr.size = cs.length ∧ ∀ (i : Nat) (u : V), cs[i]? = some u → (arr.getD i undef).oneCell' = true ∧ R G w false u (arr.getD i undef)) :
    OpS P ge st o (.ptr st.h.length 0) (st.h ++ [.var cs]) := by
  intro G a w hr
  obtain ⟨arr, T, h1, h2, h3⟩ := H G a w hr
  have hk : ∀ k', (G.push (some w.heap.size) 1 1).at G.n (.var cs) = some k' → w.heap.size ≤ k' := fun k' h => by
    simp [Gh.at, Gh.push] at h; omega
  refine ⟨_, G.push (some w.heap.size) 1 1, _, .inl h1, hr.rh.push (.alloc w _) (RB_newVar hr.rh h2 h3) hk, ?_, .push hr.rh (.alloc w _) hk⟩
  rw [hr.rh.n]
  exact .ptr (by simp [Gh.push]) (by simp [Gh.push])
theorem run_sizeOf {t : TypeId} {n : Nat} (h : szOf P t = n) (h0 : 0 < n) (w : World) : (sizeOf t).run P w = .ok n w := by
  unfold szOf at h
  cases hi : P.info? t with
  | none => rw [hi] at h; simp at h; omega
  | some i => rw [hi] at h; simp at h; simp [sizeOf, typeInfo, hi, h]
theorem run_zeroValue {t : TypeId} {zs : List V} (h : zeroOf P t = some zs) : ∃ z : Value, (∀ w, (zeroValue t).run P w = .ok z w) ∧ (P.info? t).bind (·.zero) = some z ∧ z.cells.size = zs.length ∧ z.cells.toList.all (·.oneCell') = true ∧
    ∀ (i : Nat) (u : V), zs[i]? = some u → (z.cells.getD i undef).oneCell' = true ∧ ∀ (G : Gh) (w : World) (fr : Bool), R G w fr u (z.cells.getD i undef) := by
  unfold zeroOf at h
  cases hi : P.info? t with
  | none => rw [hi] at h; simp at h
  | some i =>
    cases hz : i.zero with
    | none => rw [hi] at h; simp [hz] at h
    | some z =>
      rw [hi] at h
      simp only [Option.bind_some, hz] at h
      split at h
      · rename_i hone
        cases h
        refine ⟨z, fun w => by simp [zeroValue, typeInfo, hi, hz], by simp [hz], by simp, hone, fun i u hu => ?_⟩
        rw [List.getElem?_map] at hu
        obtain ⟨x, hx, rfl⟩ := Option.map_eq_some_iff.1 hu
        have hx' : z.cells[i]? = some x := by simpa using hx
        rw [Array.getD_eq_getD_getElem?, hx']
        exact ⟨List.all_eq_true.1 hone x (List.mem_of_getElem? hx), fun G w fr => .ofCell x⟩
      · cases h
theorem S_alloc {d : Option Tmp} {e : TypeId} {t : TypeId} {p : String} {af : Array Edge} {g : Option (Nat × Bool)} {zs : List V} (h : zeroOf P e = some zs) :
    OpS P ge st ⟨d, .alloc e, t, p, af, g⟩ (.ptr st.h.length 0) (st.h ++ [.var zs]) := by
  obtain ⟨z, h1, _, h2, _, h3⟩ := run_zeroValue h
  refine OpS_newVar fun G a w hr => ⟨z.cells, e, ?_, h2, fun i u hu => ⟨(h3 i u hu).1, (h3 i u hu).2 G w false⟩⟩
  simp [execOp, Instr.alloc, h1, newVar, newRow]
theorem S_box {d : Option Tmp} {e : TypeId} {x : Operand} {t : TypeId} {p : String} {af : Array Edge} {g : Option (Nat × Bool)} (h : (ev ge st.tm x).cellsOk = true) :
    OpS P ge st ⟨d, .box e x, t, p, af, g⟩ (.ptr st.h.length 0) (st.h ++ [.var (ev ge st.tm x).cellsOf]) := by
  refine OpS_newVar fun G a w hr => ⟨(a.eval x).cells, e, ?_, ?_⟩
  · simp [execOp, Instr.box, newVar, newRow]
  · exact cells_of (hr.ev x) h
end
end Go.AM
end
