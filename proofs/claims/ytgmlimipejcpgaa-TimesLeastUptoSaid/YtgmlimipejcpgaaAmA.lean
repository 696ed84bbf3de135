/-
  YtgmlimipejcpgaaAmA: a step of the proof of a law of the program: what this text proves holds under the hypotheses that its theorems name, and no others.
-/
import Derived.Tactics
import Derived.Below
/-! AM, part A: abstract values, and what they stand for. -/
namespace Go.AM

/-- Abstract values. 'vec': a slice whose cells nobody writes any more, as a list of elements (each the list of its cells), and its length. 'fp': a pointer into such cells. 'ref', 'ptr', 'ep': into a block of the abstract heap. -/
inductive V where
  | junk | void
  | bool (b : Bool) | int (k : IntKind) (n : Int) | str (s : ByteArray)
  | nils | nilp | nilf | nilm | nili
  | vec (xs : List (List V)) (len : Nat)
  | fp (cs : List V) (off : Nat)
  | ref (b g off len : Nat)
  | ptr (b off : Nat)
  | ep (b g i off : Nat)
  | agg (cs : List V)
  | tup (vs : List V)
  | fn (f : Fn) (first captured : List V)
  | mp (b : Nat)
  | ifc (t : TypeId) (v : V)
  | own (T : TypeId) (xs : List (List V))
  deriving Inhabited

/-- The ghost: which cells are frozen; where abstract blocks lie. -/
structure Gh where
  fz : Nat → Nat
  n : Nat
  gm : Nat → Nat
  m : Nat → Nat → Option Nat
  sz : Nat → Nat
  cap : Nat → Nat → Nat

def cellD (w : World) (k o : Nat) : Value := (w.cell? ⟨k, o, none⟩).getD undef

inductive R (G : Gh) (w : World) : Bool → V → Value → Prop
  | junk {fr c} : R G w fr .junk c
  | void {fr} : R G w fr .void undef
  | bool {fr b} : R G w fr (.bool b) (.bool b)
  | int {fr k n} : R G w fr (.int k n) (.int k n)
  | str {fr s} : R G w fr (.str s) (.string s)
  | nils {fr} : R G w fr .nils (.slice none 0 0)
  | nilp {fr} : R G w fr .nilp (.pointer none)
  | nilf {fr} : R G w fr .nilf .nilFunc
  | nilm {fr} : R G w fr .nilm (.map none)
  | nili {fr} : R G w fr .nili .nilIface
  | emp {fr a cap} (h : cap ≤ maxLen) : R G w fr (.vec [] 0) (.slice a 0 cap)
  | vec {fr xs len k o cap sz} (h1 : len ≤ xs.length) (h2 : xs.length ≤ cap) (h3 : cap ≤ maxLen)
      (hl : ∀ (i : Nat) (x : List V), xs[i]? = some x → x.length = sz)
      (hc : ∀ (i : Nat) (x : List V) (j : Nat) (v : V), xs[i]? = some x → x[j]? = some v → (w.cell? ⟨k, o + (i * sz + j), none⟩).isSome = true ∧ o + (i * sz + j) < G.fz k)
      (ho : ∀ (i : Nat) (x : List V) (j : Nat) (v : V), xs[i]? = some x → x[j]? = some v → (cellD w k (o + (i * sz + j))).oneCell' = true)
      (hr : ∀ (i : Nat) (x : List V) (j : Nat) (v : V), xs[i]? = some x → x[j]? = some v → R G w true v (cellD w k (o + (i * sz + j)))) :
      R G w fr (.vec xs len) (.slice (some ⟨k, o, none⟩) len cap)
  | fp {fr cs off k o} (hc : ∀ (j : Nat) (v : V), cs[j]? = some v → (w.cell? ⟨k, o + j, none⟩).isSome = true ∧ o + j < G.fz k)
      (ho : ∀ (j : Nat) (v : V), cs[j]? = some v → (cellD w k (o + j)).oneCell' = true)
      (hr : ∀ (j : Nat) (v : V), cs[j]? = some v → R G w true v (cellD w k (o + j))) :
      R G w fr (.fp cs off) (.pointer (some ⟨k, o + off, none⟩))
  | agg {fr cs} {arr : Array Value} (hs : arr.size = cs.length) (ho : ∀ (i : Nat) (v : V), cs[i]? = some v → (arr.getD i undef).oneCell' = true)
      (hr : ∀ (i : Nat) (v : V), cs[i]? = some v → R G w fr v (arr.getD i undef)) : R G w fr (.agg cs) (.agg arr)
  | tup {fr cs} {arr : Array Value} (hs : arr.size = cs.length) (hr : ∀ (i : Nat) (v : V), cs[i]? = some v → R G w fr v (arr.getD i undef)) : R G w fr (.tup cs) (.tuple arr)
  | fn {fr f A B} {C D : Array Value} (hs : C.size = A.length) (hr : ∀ (i : Nat) (v : V), A[i]? = some v → R G w fr v (C.getD i undef))
      (hs' : D.size = B.length) (hr' : ∀ (i : Nat) (v : V), B[i]? = some v → R G w fr v (D.getD i undef)) : R G w fr (.fn f A B) (.func f C D)
  | ifc {fr t v c} (hr : R G w fr v c) : R G w fr (.ifc t v) (.iface t c)
  | ref {b g off len k} (hb : b < G.n) (hg : g ≤ G.gm b) (hm : G.m b g = some k) (h : off + len ≤ G.cap b g) :
      R G w false (.ref b g off len) (.slice (some ⟨k, off * G.sz b, none⟩) len (G.cap b g - off))
  | refn {b g} (hb : b < G.n) (hg : g ≤ G.gm b) (hm : G.m b g = none) : R G w false (.ref b g 0 0) (.slice none 0 0)
  | ptr {b off k} (hb : b < G.n) (hm : G.m b 0 = some k) : R G w false (.ptr b off) (.pointer (some ⟨k, off, none⟩))
  | ep {b g i off k} (hb : b < G.n) (hg : g ≤ G.gm b) (hm : G.m b g = some k) : R G w false (.ep b g i off) (.pointer (some ⟨k, i * G.sz b + off, none⟩))
  | mp {b k} (hb : b < G.n) (hm : G.m b 0 = some k) : R G w false (.mp b) (.map (some k))

/-- A later ghost and world, as far as values are concerned. -/
structure GLe (G : Gh) (w : World) (G' : Gh) (w' : World) : Prop where
  fz : ∀ k, G.fz k ≤ G'.fz k
  cells : ∀ k o, o < G.fz k → w'.cell? ⟨k, o, none⟩ = w.cell? ⟨k, o, none⟩
  n : G.n ≤ G'.n
  gm : ∀ b, b < G.n → G.gm b ≤ G'.gm b
  m : ∀ b g, b < G.n → g ≤ G.gm b → G'.m b g = G.m b g
  sz : ∀ b, b < G.n → G'.sz b = G.sz b
  cap : ∀ b g, b < G.n → g ≤ G.gm b → G'.cap b g = G.cap b g

theorem GLe.refl (G : Gh) (w : World) : GLe G w G w := ⟨fun _ => Nat.le_refl _, fun _ _ _ => rfl, Nat.le_refl _, fun _ _ => Nat.le_refl _, fun _ _ _ _ => rfl, fun _ _ => rfl, fun _ _ _ _ => rfl⟩
theorem GLe.trans {G G1 G2 : Gh} {w w1 w2 : World} (h : GLe G w G1 w1) (h' : GLe G1 w1 G2 w2) : GLe G w G2 w2 where
  fz k := Nat.le_trans (h.fz k) (h'.fz k)
  cells k o ho := by rw [h'.cells k o (Nat.lt_of_lt_of_le ho (h.fz k)), h.cells k o ho]
  n := Nat.le_trans h.n h'.n
  gm b hb := Nat.le_trans (h.gm b hb) (h'.gm b (Nat.lt_of_lt_of_le hb h.n))
  m b g hb hg := by rw [h'.m b g (Nat.lt_of_lt_of_le hb h.n) (Nat.le_trans hg (h.gm b hb)), h.m b g hb hg]
  sz b hb := by rw [h'.sz b (Nat.lt_of_lt_of_le hb h.n), h.sz b hb]
  cap b g hb hg := by rw [h'.cap b g (Nat.lt_of_lt_of_le hb h.n) (Nat.le_trans hg (h.gm b hb)), h.cap b g hb hg]

theorem R.mono {G G' : Gh} {w w' : World} (h : GLe G w G' w') {fr : Bool} {v : V} {c : Value} (hr : R G w fr v c) : R G' w' fr v c := by
  have hd : ∀ k o, o < G.fz k → cellD w' k o = cellD w k o := fun k o ho => by unfold cellD; rw [h.cells k o ho]
  induction hr with
  | junk => exact .junk
  | void => exact .void
  | bool => exact .bool
  | int => exact .int
  | str => exact .str
  | nils => exact .nils
  | nilp => exact .nilp
  | nilf => exact .nilf
  | nilm => exact .nilm
  | nili => exact .nili
  | emp h => exact .emp h
  | vec h1 h2 h3 hl hc ho hr ih =>
    refine .vec h1 h2 h3 hl (fun i x j v hx hv => ?_) (fun i x j v hx hv => ?_) (fun i x j v hx hv => ?_)
    · have := hc i x j v hx hv
      exact ⟨by rw [h.cells _ _ this.2]; exact this.1, Nat.lt_of_lt_of_le this.2 (h.fz _)⟩
    · rw [hd _ _ (hc i x j v hx hv).2]; exact ho i x j v hx hv
    · rw [hd _ _ (hc i x j v hx hv).2]; exact ih i x j v hx hv
  | fp hc ho hr ih =>
    refine .fp (fun j v hv => ?_) (fun j v hv => ?_) (fun j v hv => ?_)
    · have := hc j v hv
      exact ⟨by rw [h.cells _ _ this.2]; exact this.1, Nat.lt_of_lt_of_le this.2 (h.fz _)⟩
    · rw [hd _ _ (hc j v hv).2]; exact ho j v hv
    · rw [hd _ _ (hc j v hv).2]; exact ih j v hv
  | agg hs ho hr ih => exact .agg hs ho ih
  | tup hs hr ih => exact .tup hs ih
  | fn hs hr hs' hr' ih ih' => exact .fn hs ih hs' ih'
  | ifc hr ih => exact .ifc ih
  | ref hb hg hm hle =>
    rw [← h.sz _ hb, ← h.cap _ _ hb hg]
    exact .ref (Nat.lt_of_lt_of_le hb h.n) (Nat.le_trans hg (h.gm _ hb)) (by rw [h.m _ _ hb hg]; exact hm) (by rw [h.cap _ _ hb hg]; exact hle)
  | refn hb hg hm => exact .refn (Nat.lt_of_lt_of_le hb h.n) (Nat.le_trans hg (h.gm _ hb)) (by rw [h.m _ _ hb hg]; exact hm)
  | ptr hb hm => exact .ptr (Nat.lt_of_lt_of_le hb h.n) (by rw [h.m _ _ hb (Nat.zero_le _)]; exact hm)
  | ep hb hg hm =>
    rw [← h.sz _ hb]
    exact .ep (Nat.lt_of_lt_of_le hb h.n) (Nat.le_trans hg (h.gm _ hb)) (by rw [h.m _ _ hb hg]; exact hm)
  | mp hb hm => exact .mp (Nat.lt_of_lt_of_le hb h.n) (by rw [h.m _ _ hb (Nat.zero_le _)]; exact hm)

/-- Frozen values look at frozen cells alone. -/
theorem R.monoT {G G' : Gh} {w w' : World} (hfz : ∀ k, G.fz k ≤ G'.fz k) (hcell : ∀ k o, o < G.fz k → w'.cell? ⟨k, o, none⟩ = w.cell? ⟨k, o, none⟩)
    {fr : Bool} {v : V} {c : Value} (hr : R G w fr v c) (hfr : fr = true) : R G' w' true v c := by
  have hd : ∀ k o, o < G.fz k → cellD w' k o = cellD w k o := fun k o ho => by unfold cellD; rw [hcell k o ho]
  induction hr with
  | junk => exact .junk
  | void => exact .void
  | bool => exact .bool
  | int => exact .int
  | str => exact .str
  | nils => exact .nils
  | nilp => exact .nilp
  | nilf => exact .nilf
  | nilm => exact .nilm
  | nili => exact .nili
  | emp h => exact .emp h
  | vec h1 h2 h3 hl hc ho hr ih =>
    refine .vec h1 h2 h3 hl (fun i x j v hx hv => ?_) (fun i x j v hx hv => ?_) (fun i x j v hx hv => ?_)
    · have := hc i x j v hx hv
      exact ⟨by rw [hcell _ _ this.2]; exact this.1, Nat.lt_of_lt_of_le this.2 (hfz _)⟩
    · rw [hd _ _ (hc i x j v hx hv).2]; exact ho i x j v hx hv
    · rw [hd _ _ (hc i x j v hx hv).2]; exact ih i x j v hx hv rfl
  | fp hc ho hr ih =>
    refine .fp (fun j v hv => ?_) (fun j v hv => ?_) (fun j v hv => ?_)
    · have := hc j v hv
      exact ⟨by rw [hcell _ _ this.2]; exact this.1, Nat.lt_of_lt_of_le this.2 (hfz _)⟩
    · rw [hd _ _ (hc j v hv).2]; exact ho j v hv
    · rw [hd _ _ (hc j v hv).2]; exact ih j v hv rfl
  | agg hs ho hr ih => exact .agg hs ho fun i v h => ih i v h hfr
  | tup hs hr ih => exact .tup hs fun i v h => ih i v h hfr
  | fn hs hr hs' hr' ih ih' => exact .fn hs (fun i v h => ih i v h hfr) hs' (fun i v h => ih' i v h hfr)
  | ifc hr ih => exact .ifc (ih hfr)
  | ref => cases hfr
  | refn => cases hfr
  | ptr => cases hfr
  | ep => cases hfr
  | mp => cases hfr

theorem R.weak {G : Gh} {w : World} {fr : Bool} {v : V} {c : Value} (hr : R G w fr v c) (hfr : fr = true) : R G w false v c := by
  induction hr with
  | junk => exact .junk
  | void => exact .void
  | bool => exact .bool
  | int => exact .int
  | str => exact .str
  | nils => exact .nils
  | nilp => exact .nilp
  | nilf => exact .nilf
  | nilm => exact .nilm
  | nili => exact .nili
  | emp h => exact .emp h
  | vec h1 h2 h3 hl hc ho hr ih => exact .vec h1 h2 h3 hl hc ho hr
  | fp hc ho hr ih => exact .fp hc ho hr
  | agg hs ho hr ih => exact .agg hs ho fun i v h => ih i v h hfr
  | tup hs hr ih => exact .tup hs fun i v h => ih i v h hfr
  | fn hs hr hs' hr' ih ih' => exact .fn hs (fun i v h => ih i v h hfr) hs' (fun i v h => ih' i v h hfr)
  | ifc hr ih => exact .ifc (ih hfr)
  | ref => cases hfr
  | refn => cases hfr
  | ptr => cases hfr
  | ep => cases hfr
  | mp => cases hfr

mutual
/-- No reference into the abstract heap (frozen cells hold none). -/
def V.isF : V → Bool
  | .ref .. | .ptr .. | .ep .. | .mp _ | .own .. => false
  | .agg cs | .tup cs => V.isFs cs
  | .fn _ a b => V.isFs a && V.isFs b
  | .ifc _ v => V.isF v
  | _ => true
def V.isFs : List V → Bool
  | [] => true
  | v :: vs => V.isF v && V.isFs vs
end

theorem V.isFs_get {cs : List V} (h : V.isFs cs = true) : ∀ (i : Nat) (v : V), cs[i]? = some v → v.isF = true := by
  induction cs with
  | nil => intro i v hv; simp at hv
  | cons a r ih =>
    simp only [V.isFs, Bool.and_eq_true] at h
    intro i v hv
    cases i with
    | zero => simp at hv; subst hv; exact h.1
    | succ i => exact ih h.2 i v (by simpa using hv)

theorem R.frozen {G : Gh} {w : World} {fr : Bool} {v : V} {c : Value} (hr : R G w fr v c) (hf : v.isF = true) : R G w true v c := by
  induction hr with
  | junk => exact .junk
  | void => exact .void
  | bool => exact .bool
  | int => exact .int
  | str => exact .str
  | nils => exact .nils
  | nilp => exact .nilp
  | nilf => exact .nilf
  | nilm => exact .nilm
  | nili => exact .nili
  | emp h => exact .emp h
  | vec h1 h2 h3 hl hc ho hr ih => exact .vec h1 h2 h3 hl hc ho hr
  | fp hc ho hr ih => exact .fp hc ho hr
  | agg hs ho hr ih => simp only [V.isF] at hf; exact .agg hs ho fun i v h => ih i v h (V.isFs_get hf i v h)
  | tup hs hr ih => simp only [V.isF] at hf; exact .tup hs fun i v h => ih i v h (V.isFs_get hf i v h)
  | fn hs hr hs' hr' ih ih' => simp only [V.isF, Bool.and_eq_true] at hf; exact .fn hs (fun i v h => ih i v h (V.isFs_get hf.1 i v h)) hs' (fun i v h => ih' i v h (V.isFs_get hf.2 i v h))
  | ifc hr ih => simp only [V.isF] at hf; exact .ifc (ih hf)
  | ref => simp [V.isF] at hf
  | refn => simp [V.isF] at hf
  | ptr => simp [V.isF] at hf
  | ep => simp [V.isF] at hf
  | mp => simp [V.isF] at hf

mutual
/-- All ids are below n. -/
def V.lt (n : Nat) : V → Bool
  | .ref b .. | .ptr b _ | .ep b .. | .mp b => b < n
  | .agg cs | .tup cs => V.lts n cs
  | .fn _ a b => V.lts n a && V.lts n b
  | .ifc _ v => V.lt n v
  | _ => true
def V.lts (n : Nat) : List V → Bool
  | [] => true
  | v :: vs => V.lt n v && V.lts n vs
end

theorem V.lts_get {n : Nat} {cs : List V} (h : V.lts n cs = true) : ∀ (i : Nat) (v : V), cs[i]? = some v → v.lt n = true := by
  induction cs with
  | nil => intro i v hv; simp at hv
  | cons a r ih =>
    simp only [V.lts, Bool.and_eq_true] at h
    intro i v hv
    cases i with
    | zero => simp at hv; subst hv; exact h.1
    | succ i => exact ih h.2 i v (by simpa using hv)

/-- The ghost with fewer ids. -/
def Gh.cut (G : Gh) (n : Nat) : Gh := { G with n := n }

theorem R.cut {G : Gh} {w : World} {fr : Bool} {v : V} {c : Value} {n : Nat} (hr : R G w fr v c) (hf : v.lt n = true) : R (G.cut n) w fr v c := by
  induction hr with
  | junk => exact .junk
  | void => exact .void
  | bool => exact .bool
  | int => exact .int
  | str => exact .str
  | nils => exact .nils
  | nilp => exact .nilp
  | nilf => exact .nilf
  | nilm => exact .nilm
  | nili => exact .nili
  | emp h => exact .emp h
  | vec h1 h2 h3 hl hc ho hr ih => exact .vec h1 h2 h3 hl hc ho fun i x j v hx hv => (hr i x j v hx hv).monoT (G := G) (G' := G.cut n) (fun k => Nat.le_refl (G.fz k)) (fun _ _ _ => rfl) rfl
  | fp hc ho hr ih => exact .fp hc ho fun j v hv => (hr j v hv).monoT (G := G) (G' := G.cut n) (fun k => Nat.le_refl (G.fz k)) (fun _ _ _ => rfl) rfl
  | agg hs ho hr ih => simp only [V.lt] at hf; exact .agg hs ho fun i v h => ih i v h (V.lts_get hf i v h)
  | tup hs hr ih => simp only [V.lt] at hf; exact .tup hs fun i v h => ih i v h (V.lts_get hf i v h)
  | fn hs hr hs' hr' ih ih' => simp only [V.lt, Bool.and_eq_true] at hf; exact .fn hs (fun i v h => ih i v h (V.lts_get hf.1 i v h)) hs' (fun i v h => ih' i v h (V.lts_get hf.2 i v h))
  | ifc hr ih => simp only [V.lt] at hf; exact .ifc (ih hf)
  | ref hb hg hm hle => simp [V.lt] at hf; exact .ref (G := G.cut n) hf hg hm hle
  | refn hb hg hm => simp [V.lt] at hf; exact .refn (G := G.cut n) hf hg hm
  | ptr hb hm => simp [V.lt] at hf; exact .ptr (G := G.cut n) hf hm
  | ep hb hg hm => simp [V.lt] at hf; exact .ep (G := G.cut n) hf hg hm
  | mp hb hm => simp [V.lt] at hf; exact .mp (G := G.cut n) hf hm

/-- One cell wide. -/
def V.one : V → Bool
  | .junk | .void | .agg _ | .tup _ | .own .. => false
  | _ => true
theorem R.one {G : Gh} {w : World} {fr : Bool} {v : V} {c : Value} (hr : R G w fr v c) (h : v.one = true) : c.oneCell' = true := by
  cases hr <;> first | rfl | simp [V.one] at h
end Go.AM
