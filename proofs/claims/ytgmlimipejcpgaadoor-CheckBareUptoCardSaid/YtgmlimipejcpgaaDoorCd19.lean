/-
  YtgmlimipejcpgaaDoorCd19: steps of the proof of a law of the program: what these texts prove holds under the hypotheses that their theorems name, and no others.
-/
import Derived.Test.YtgmlimipejcpgaaDoorCd18
section
set_option linter.unusedSimpArgs false
set_option linter.unusedVariables false
namespace Go.Proofs.YtgmlimipejcpgaaDoor
open Go Go.AM Fx
theorem fZ {x : Int} {l : List Int} (h : firstE (x :: l) = 0) : x = 0 ∧ firstE l = 0 := by
  rw [fC] at h
  by_cases hx : x = 0
  · rw [if_neg (by simp [hx])] at h; exact ⟨hx, h⟩
  · rw [if_pos hx] at h; exact absurd h hx
theorem netE_whole {n : NetD} (h : netE n = 0) : wholeE n = 0 := by
  unfold netE whereE at h
  by_cases hw : wholeE n = 0
  · exact hw
  · rw [if_pos hw] at h; exact absurd h hw
theorem clkE_zero {n : NetD} {l : List GuardD} (h : clkE n l = 0) : ∀ g ∈ l, clkG n g = false := by
  unfold clkE at h
  intro g hg
  cases hc : clkG n g
  · rfl
  · rw [if_pos (List.any_eq_true.2 ⟨g, hg, hc⟩)] at h; cases h
theorem okG_of {n : NetD} {l : List GuardD} (h : clkE n l = 0) : ∀ g ∈ l, okG n.clocks.length g := fun g hg => by
  have := clkE_zero h g hg
  unfold clkG isClk at this
  simp only [Bool.or_eq_false_iff, Bool.not_eq_false', decide_eq_true_eq] at this
  exact this.1
theorem whole_guards {n : NetD} (h : wholeE n = 0) : ∀ g ∈ guardsL n, okG n.clocks.length g := by
  unfold wholeE at h
  have h1 := (fZ (fZ (fZ (fZ (fZ (fZ (fZ h).2).2).2).2).2).2).1
  unfold clocksE at h1
  by_cases hc : clkE n (guardsL n) = 0
  · exact okG_of hc
  · rw [if_pos hc] at h1; exact absurd h1 hc
theorem goF_zero {f : PartD → Int} : ∀ {g : List PartD}, goF f g = 0 → ∀ p ∈ g, f p = 0
  | [], _, p, hp => by cases hp
  | q :: r, h, p, hp => by
    rw [goF_cons] at h
    by_cases hq : f q = 0
    · rw [if_neg (by simp [hq])] at h
      rcases List.mem_cons.1 hp with rfl | hp
      · exact hq
      · exact goF_zero h p hp
    · rw [if_pos hq] at h; exact absurd h hq
theorem goal_guards {n : NetD} {g : List PartD} (h : goalE n g = 0) : ∀ p ∈ g, ∀ x ∈ p.guards, okG n.clocks.length x := by
  unfold goalE at h
  have h1 := (fZ (fZ h).2).1
  unfold wholeGoalE at h1
  have h2 := (fZ (fZ (fZ (fZ (fZ h1).2).2).2).2).1
  exact fun p hp => okG_of (goF_zero h2 p hp)
def raisePs (so : Int → Bool) (l : List PartD) (o : List Int) : List Int := raiseL so (l.flatMap (·.guards)) o
theorem raisePs_nil {so : Int → Bool} {o : List Int} : raisePs so [] o = o := rfl
theorem raisePs_cons {so : Int → Bool} {x : PartD} {l : List PartD} {o : List Int} : raisePs so (x :: l) o = raisePs so l (raiseL so x.guards o) := by simp only [raisePs, List.flatMap_cons, raiseL_append]
def gsV (gs : List (List PartD)) : V := .vec (gs.map fun g => [vl PartD.cells g]) gs.length
end Go.Proofs.YtgmlimipejcpgaaDoor
end
section
set_option linter.unusedVariables false
set_option linter.unusedSimpArgs false
namespace Go.AM
section
variable {P : Program} {ge : GEnv} {st : St} {Q : Exit → St → Prop} {ops : Array Oper}
variable {d : Option Tmp} {t : TypeId} {p : String} {af : Array Edge} {g : Option (Nat × Bool)}
/-- The walk of a region whose slices are built frozen. -/
def AOL (P : Program) (ge : GEnv) (ops : Array Oper) (Q : Exit → St → Prop) : List Oper → St → Prop
  | [], st => Q .normal st
  | ⟨d, .buildSlice T len parts, _, _, _, none⟩ :: rest, st => dstOk st.n d = true ∧ bsOk P ge st T len parts ∧
      AOL P ge ops Q rest ⟨st.n, putD d (.vec (rowsV (List.replicate len (zeroD P (elemOf P T))) (partsV ge st.tm parts.toList)) len) st.tm, st.h⟩
  | ⟨d, op, t, p, af, none⟩ :: rest, st =>
      if plainOp op = true then dstOk st.n d = true ∧ opOk P ge st op ∧ AOL P ge ops Q rest ⟨st.n, putD d (opVal P ge st op).1 st.tm, (opVal P ge st op).2⟩
      else AS P ge ops (⟨d, op, t, p, af, none⟩ :: rest) Q st
  | ⟨d, op, t, p, af, some g⟩ :: rest, st => AS P ge ops (⟨d, op, t, p, af, some g⟩ :: rest) Q st
theorem AS_of_AOL : ∀ {l : List Oper} {st : St}, AOL P ge ops Q l st → AS P ge ops l Q st
  | [], st, h => by rw [AOL] at h; exact AS_nil h
  | ⟨d, op, t, p, af, some g⟩ :: rest, st, h => by
    cases op <;> (rw [AOL] at h; try exact h) <;> (intro hh; cases hh)
  | ⟨d, op, t, p, af, none⟩ :: rest, st, h => by
    by_cases hb : ∃ T len parts, op = .buildSlice T len parts
    · obtain ⟨T, len, parts, rfl⟩ := hb
      rw [AOL] at h
      obtain ⟨h1, h2, h3⟩ := h
      exact AS_op rfl h1 (S_bsOk h2) (AS_of_AOL h3)
    · rw [AOL] at h
      · split at h
        · obtain ⟨h1, h2, h3⟩ := h
          exact AS_op rfl h1 (opS_of_ok h2) (AS_of_AOL h3)
        · exact h
      · intro T len parts e; exact hb ⟨T, len, parts, e⟩
theorem AW_region_AOL {id : Nat} (h : AOL P ge ops Q ops.toList st) : AW P ge (.region id ops false) Q st := AW_region (AS_of_AOL h)
end
mutual
def V.dn : V → V
  | .nils => .vec [] 0
  | .vec xs len => .vec (V.dnR xs) len
  | .agg cs => .agg (V.dns cs)
  | .tup cs => .tup (V.dns cs)
  | .fp cs off => .fp (V.dns cs) off
  | v => v
def V.dns : List V → List V
  | [] => []
  | v :: r => V.dn v :: V.dns r
def V.dnR : List (List V) → List (List V)
  | [] => []
  | x :: r => V.dns x :: V.dnR r
end
theorem dns_eq : ∀ cs : List V, V.dns cs = cs.map V.dn
  | [] => rfl
  | v :: r => by rw [V.dns, List.map_cons, dns_eq r]
theorem dnR_eq : ∀ xs : List (List V), V.dnR xs = xs.map V.dns
  | [] => rfl
  | x :: r => by rw [V.dnR, List.map_cons, dnR_eq r]
theorem R.dn {G : Gh} {w : World} {fr : Bool} {v : V} {c : Value} (h : R G w fr v c) : R G w fr v.dn c := by
  have tg : ∀ {cs : List V} {j : Nat} {v : V}, (V.dns cs)[j]? = some v → ∃ u, cs[j]? = some u ∧ v = u.dn := fun {cs j v} hv => by
    rw [dns_eq, List.getElem?_map] at hv
    obtain ⟨u, h1, h2⟩ := Option.map_eq_some_iff.1 hv
    exact ⟨u, h1, h2.symm⟩
  have rg : ∀ {xs : List (List V)} {i : Nat} {x : List V}, (V.dnR xs)[i]? = some x → ∃ y, xs[i]? = some y ∧ x = V.dns y := fun {xs i x} hx => by
    rw [dnR_eq, List.getElem?_map] at hx
    obtain ⟨y, h1, h2⟩ := Option.map_eq_some_iff.1 hx
    exact ⟨y, h1, h2.symm⟩
  induction h with
  | nils => exact .emp (Nat.zero_le _)
  | emp h => exact .emp h
  | @vec _ _ _ _ _ _ sz h1 h2 h3 hl hc ho hr ih =>
    refine .vec (sz := sz) (by rw [dnR_eq, List.length_map]; exact h1) (by rw [dnR_eq, List.length_map]; exact h2) h3 (fun i x hx => ?_) (fun i x j v hx hv => ?_) (fun i x j v hx hv => ?_) (fun i x j v hx hv => ?_)
    · obtain ⟨y, h4, rfl⟩ := rg hx; rw [dns_eq, List.length_map]; exact hl i y h4
    · obtain ⟨y, h4, rfl⟩ := rg hx; obtain ⟨u, h5, rfl⟩ := tg hv; exact hc i y j u h4 h5
    · obtain ⟨y, h4, rfl⟩ := rg hx; obtain ⟨u, h5, rfl⟩ := tg hv; exact ho i y j u h4 h5
    · obtain ⟨y, h4, rfl⟩ := rg hx; obtain ⟨u, h5, rfl⟩ := tg hv; exact ih i y j u h4 h5
  | fp hc ho hr ih =>
    refine .fp (fun j v hv => ?_) (fun j v hv => ?_) (fun j v hv => ?_)
    · obtain ⟨u, h5, rfl⟩ := tg hv; exact hc j u h5
    · obtain ⟨u, h5, rfl⟩ := tg hv; exact ho j u h5
    · obtain ⟨u, h5, rfl⟩ := tg hv; exact ih j u h5
  | agg hs ho hr ih =>
    refine .agg (by rw [dns_eq, List.length_map]; exact hs) (fun i v hv => ?_) (fun i v hv => ?_)
    · obtain ⟨u, h5, rfl⟩ := tg hv; exact ho i u h5
    · obtain ⟨u, h5, rfl⟩ := tg hv; exact ih i u h5
  | tup hs hr ih =>
    refine .tup (by rw [dns_eq, List.length_map]; exact hs) (fun i v hv => ?_)
    obtain ⟨u, h5, rfl⟩ := tg hv; exact ih i u h5
  | fn hs hr hs' hr' => exact .fn hs hr hs' hr'
  | ifc hr => exact .ifc hr
  | junk => exact .junk
  | void => exact .void
  | bool => exact .bool
  | int => exact .int
  | str => exact .str
  | nilp => exact .nilp
  | nilf => exact .nilf
  | nilm => exact .nilm
  | nili => exact .nili
  | ref hb hg hm hle => exact .ref hb hg hm hle
  | refn hb hg hm => exact .refn hb hg hm
  | ptr hb hm => exact .ptr hb hm
  | ep hb hg hm => exact .ep hb hg hm
  | mp hb hm => exact .mp hb hm
/-- A contract for what nil, deep inside the arguments, shows. -/
theorem PCall.dn {P : Program} {ge : GEnv} {f : Nat} {args args' : List V} {r : V} (hc : PCall P ge f args' r) (ha : V.dns args = args') : PCall P ge f args r := by
  subst ha
  refine ⟨hc.1, fun G w cargs h hg => hc.2 G w cargs ⟨by rw [dns_eq, List.length_map]; exact h.1, fun i v hv => ?_⟩ hg⟩
  rw [dns_eq, List.getElem?_map] at hv
  obtain ⟨u, h1, rfl⟩ := Option.map_eq_some_iff.1 hv
  exact (h.2 i u h1).dn
/-- A result, as it shows with nil deep inside. -/
theorem PCall.dnr {P : Program} {ge : GEnv} {f : Nat} {args : List V} {r r' : V} (hc : PCall P ge f args r) (hp : r.plain = true) (he : r.dn = r') (h1 : ∀ T xs, r' ≠ .own T xs) (h2 : ∀ vs, r' ≠ .tup vs) : PCall P ge f args r' := by
  refine ⟨hc.1, fun G w cargs ha hg => (hc.2 G w cargs ha hg).mono fun e w' ⟨c, G', k1, k2, k3⟩ => ⟨c, G', k1, k2, ?_⟩⟩
  have h4 := (k3.plain hp).dn
  rw [he] at h4
  cases r' <;> first | exact h4 | exact (h1 _ _ rfl).elim | exact (h2 _ rfl).elim
attribute [simp] AOL
end Go.AM
end
section
set_option linter.unusedSimpArgs false
set_option linter.unusedVariables false
namespace Go.Proofs.YtgmlimipejcpgaaDoor
open Go Go.AM Fx
def lowB (c : Int) : Bool := decide (c = 4 ∨ c = 5 ∨ c = 3)
def smallN : NetD := { clocks := [⟨#[120]⟩], vars := [], chans := [], autos := [{ name := ⟨#[65]⟩, locs := [{ name := ⟨#[97]⟩, kind := 0, inv := [{ clock := 1, other := 0, cmp := 2, n := 5 }] }, { name := ⟨#[98]⟩, kind := 0, inv := [] }], edges := [{ frm := 0, to := 1, guards := [{ clock := 1, other := 0, cmp := 4, n := 3 }], test := [], chan := 0, send := false, sets := [{ clock := 1, n := 0, var := 0, expr := [] }] }] }] }
theorem small_ok : smallN.ok := by
  simp [smallN, NetD.ok, AutoD.ok, LocD.ok, EdgeD.ok, GuardD.ok, SetD.ok, I64]
  decide
end Go.Proofs.YtgmlimipejcpgaaDoor
end
section
set_option linter.unusedSimpArgs false
set_option linter.unusedVariables false
namespace Go.AM
def refsV : Nat → List V → List V
  | _, [] => []
  | n, .own _ xs :: r => .ref n 0 0 xs.length :: refsV (n + 1) r
  | n, v :: r => v :: refsV n r
def rowsB : List V → List B
  | [] => []
  | .own T xs :: r => .row T 0 0 true xs :: rowsB r
  | _ :: r => rowsB r
attribute [simp] refsV rowsB
end Go.AM
end
section
set_option linter.unusedVariables false
set_option linter.unusedSimpArgs false
namespace Go.AM
section
variable {P : Program} {ge : GEnv} {st : St} {Q : Exit → St → Prop} {G : Gh} {w : World}
theorem AW_viewrow {c : Code} (b0 i j : Nat) {b gg off len : Nat} {T T0 : TypeId} {g0 f0 fzn : Nat} {xs rows : List (List V)} {x : List V} (h0 : st.h[b0]? = some (.row T0 g0 f0 false rows)) (hi : rows[i]? = some x) (hj : x[j]? = some (.ref b gg off len))
    (hb : st.h[b]? = some (.row T gg fzn true xs)) (hle : off + len ≤ xs.length)
    (h : AW P ge c Q { st with h := (st.h.set b (.row T gg xs.length true xs)).set b0 (.row T0 g0 f0 false (rows.set i (x.set j (.vec (xs.drop off) len)))) }) : AW P ge c Q st := by
  intro G a w hr
  have hil := (List.getElem?_eq_some_iff.1 hi).1
  have hne : b0 ≠ b := fun e => by subst e; rw [h0] at hb; cases hb
  have hold : ∀ (G : Gh) (a : Act) (h : List B), RB P G w b0 (.row T0 g0 f0 false rows) → ∃ k arr, G.m b0 g0 = some k ∧ w.heap[k]? = some (.cells arr T0 (0, 0)) ∧
      ∀ (i : Nat) (x : List V) (j : Nat) (v : V), rows[i]? = some x → x[j]? = some v → (arr.getD (i * G.sz b0 + j) undef).oneCell' = true ∧ R G w false v (arr.getD (i * G.sz b0 + j) undef) := by
    rintro G a h ⟨_, _, _, hrow⟩
    rcases hrow with ⟨_, rfl⟩ | ⟨k, arr, hm, hh, _, _, _, _, _, hcells⟩
    · simp at hi
    · exact ⟨k, arr, hm, hh, hcells⟩
  obtain ⟨k, arr, hm, hh, hcells⟩ := hold G a st.h (hr.rh.bl b0 _ h0)
  obtain ⟨G', r, xt, hv⟩ := view_any hr (hcells i x j _ hi hj).2 hb hle
  have h0' : (st.h.set b (.row T gg xs.length true xs))[b0]? = some (.row T0 g0 f0 false rows) := by
    rw [List.getElem?_set, if_neg (fun e => hne e.symm)]; exact h0
  have hbn : b0 < G.n := by have := (List.getElem?_eq_some_iff.1 h0).1; rw [hr.rh.n] at this; exact this
  obtain ⟨q1, q2, q3, hrow'⟩ := r.rh.bl b0 _ h0'
  obtain ⟨p1, _⟩ := hr.rh.bl b0 _ h0
  have hmm : G'.m b0 g0 = G.m b0 g0 := xt.le.m b0 g0 hbn (by rw [p1]; exact Nat.le_refl _)
  have hsz : G'.sz b0 = G.sz b0 := xt.le.sz b0 hbn
  rcases hrow' with ⟨hn, _⟩ | ⟨k', arr', hm', hh', r1, r2, r3, r4, r5, hcells'⟩
  · rw [hmm, hm] at hn; cases hn
  have hkk : k' = k := by rw [hmm, hm] at hm'; cases hm'; rfl
  subst hkk
  have haa : arr' = arr := by rw [hh] at hh'; cases hh'; rfl
  subst haa
  have hset : ∀ (i' : Nat) (x' : List V), (rows.set i (x.set j (.vec (xs.drop off) len)))[i']? = some x' → (i' = i ∧ x' = x.set j (.vec (xs.drop off) len)) ∨ (i' ≠ i ∧ rows[i']? = some x') := fun i' x' hx' => by
    rw [List.getElem?_set] at hx'
    split at hx'
    · rename_i e
      cases hx'
      exact .inl ⟨e.symm, rfl⟩
    · rename_i e; exact .inr ⟨fun e' => e e'.symm, hx'⟩
  obtain ⟨rh2, x2⟩ := RH_upd (w' := w) (y := .row T0 g0 f0 false (rows.set i (x.set j (.vec (xs.drop off) len)))) r.rh h0' hm' rfl (fun _ _ => rfl) rfl ⟨rfl, rfl⟩ (.refl _ _)
    ⟨q1, by rw [List.length_set]; exact q2, q3, .inr ⟨k', arr', hm', hh', r1, r2, by rw [List.length_set]; exact r3, r4, fun i' x' hx' => by
      rcases hset i' x' hx' with ⟨rfl, rfl⟩ | ⟨_, hx'⟩
      · rw [List.length_set]; exact r5 _ x hi
      · exact r5 i' x' hx', fun i' x' j' u hx' hu => by
      rcases hset i' x' hx' with ⟨rfl, rfl⟩ | ⟨_, hx'⟩
      · rw [List.getElem?_set] at hu
        split at hu
        · rename_i e
          subst e
          split at hu
          · cases hu
            refine ⟨(hcells' _ x j _ hi hj).1, ?_⟩
            rw [hsz]; exact hv
          · cases hu
        · exact hcells' _ x j' u hi hu
      · exact hcells' i' x' j' u hx' hu⟩⟩ hm'
  exact wp_mono (h G' a w ⟨rh2, r.tm, r.n, r.d⟩) fun _ _ _ hp => hp.mono (xt.trans x2) fun _ _ h => h
/-- A symbolic heap, what is new behind it falls. -/
theorem Weak.sym {st : St} {tm : List (Nat × V)} {h x : List B} (hh : st.h = h ++ x) (hl : ∀ y ∈ h, y.lt h.length) (ht : ∀ p ∈ tm, lk st.tm p.1 = p.2 ∧ p.2.lt h.length = true) : Weak st ⟨st.n, tm, h⟩ := by
  refine ⟨rfl, by rw [hh]; simp, ht, fun b y hy => .inr ⟨?_, hl y (List.mem_of_getElem? hy)⟩⟩
  rw [hh, List.getElem?_append_left (List.getElem?_eq_some_iff.1 hy).1]; exact hy
theorem Leaves.sym {h0 h : List B} (h1 : h0.length ≤ h.length) (hl : ∀ y ∈ h, y.lt h.length) : Leaves h0 h h :=
  ⟨h1, Nat.le_refl _, fun b x hx => .inr ⟨hx, .inr (hl x (List.mem_of_getElem? hx))⟩⟩
end
end Go.AM
end
section
set_option linter.unusedSimpArgs false
set_option linter.unusedVariables false
namespace Go.Proofs.YtgmlimipejcpgaaDoor
open Go Go.AM Fx
def isV (l : List Int) : V := .vec (l.map fun k => [V.int .i64 k]) l.length
/-- All references lead into the heap. -/
def HL (h : List B) : Prop := ∀ y ∈ h, y.lt h.length
theorem HL.set {h : List B} (hl : HL h) {i : Nat} {y : B} (hy : y.lt h.length) : HL (h.set i y) := fun z hz => by
  rw [List.length_set]
  rcases List.mem_or_eq_of_mem_set hz with h | h
  · exact hl z h
  · subst h; exact hy
theorem HL.get {h : List B} (hl : HL h) {i : Nat} {y : B} (hy : h[i]? = some y) : y.lt h.length := hl y (List.mem_of_getElem? hy)
theorem HL.push {h : List B} (hl : HL h) {y : B} (hy : y.lt (h.length + 1)) : HL (h ++ [y]) := fun z hz => by
  rw [List.length_append, List.length_singleton]
  rcases List.mem_append.1 hz with h | h
  · exact B.lt_mono (by omega) (hl z h)
  · rw [List.mem_singleton.1 h]; exact hy
theorem gN {h : List B} {i j : Nat} {y : B} (hne : i ≠ j) : (h.set i y)[j]? = h[j]? := by rw [List.getElem?_set, if_neg hne]
theorem get_set_eq {h : List B} {i : Nat} {y z : B} (hi : h[i]? = some z) : (h.set i y)[i]? = some y := by
  have := (List.getElem?_eq_some_iff.1 hi).1
  rw [List.getElem?_set, if_pos rfl, if_pos this]
theorem rowF_lt {T g f n : Nat} {xs : List (List V)} : (B.row T g f true xs).lt n := .inl rfl
theorem rowR_lt {T g f n : Nat} {fl : Bool} {xs : List (List V)} (h : ∀ x ∈ xs, V.lts n x = true) : (B.row T g f fl xs).lt n := .inr h
theorem set_app {h x : List B} {i : Nat} {y : B} (hi : i < h.length) : (h ++ x).set i y = h.set i y ++ x := by rw [List.set_append, if_pos hi]
theorem get_app {h x : List B} {i : Nat} (hi : i < h.length) : (h ++ x)[i]? = h[i]? := List.getElem?_append_left hi
def namedB (c : Int) (l : List GuardD) : Bool := anyL (fun g => decide (g.clock = c)) l
def setsB (c : Int) (l : List SetD) : Bool := anyL (fun s => decide (s.clock = c)) l
/-- A clock that guards name at a location, on an edge from there, or in a goal. -/
def usedPs (c : Int) (X : Bool) : List PartD → Bool
  | [] => X
  | p :: l => namedB c p.guards || usedPs c X l
def usedGs (c : Int) : List (List PartD) → Bool
  | [] => false
  | g :: l => usedPs c (usedGs c l) g
def usedEs (i : Nat) (c : Int) (X : Bool) : List EdgeD → Bool
  | [] => X
  | e :: l => (decide (e.frm = i) && namedB c e.guards) || usedEs i c X l
def usedB (a : AutoD) (gs : List (List PartD)) (i : Nat) (c : Int) : Bool := namedB c (a.locs.getD i default).inv || usedEs i c (usedGs c gs) a.edges
inductive Act (a : AutoD) (gs : List (List PartD)) (c : Int) : Nat → Prop
  | use {i : Nat} (hi : i < a.locs.length) (h : usedB a gs i c = true) : Act a gs c i
  | edge {e : EdgeD} (he : e ∈ a.edges) (hto : Act a gs c e.to.toNat) (hs : setsB c e.sets = false) : Act a gs c e.frm.toNat
def badLoc (n : NetD) (au lo : Int) : Prop := au < 0 ∨ (n.autos.length : Int) ≤ au ∨ lo < 0 ∨ ((n.autos.getD au.toNat default).locs.length : Int) ≤ lo
instance {n : NetD} {au lo : Int} : Decidable (badLoc n au lo) := by unfold badLoc; infer_instance
end Go.Proofs.YtgmlimipejcpgaaDoor
end
section
set_option linter.unusedVariables false
set_option linter.unusedSimpArgs false
namespace Go.AM
section
variable {P : Program} {ge : GEnv} {st : St} {Q : Exit → St → Prop}
theorem AW_loopG {σ : Type} (S : σ → St) (I : σ → Prop) (μ : σ → Nat) {c : Code} {x0 : σ} (h0 : I x0) (hst : Weak st (S x0)) (hlen : ∀ x, I x → st.h.length ≤ (S x).h.length)
    (round : ∀ x, I x → AW P ge c (SThen (fun s => ∃ x', I x' ∧ μ x' < μ x ∧ Weak s (S x')) Q) (S x)) : AW P ge (.loop c) Q st := by
  intro G0 a0 w0 hr0 b k cs
  have key : ∀ (n : Nat) (x : σ) (G : Gh) (a : Act) (w : World), μ x = n → I x → Rep P ge G (S x) a w → Ext G0 st.h w0 G (S x).h w →
      ∃ e a' w', CPost P ge Q G0 st.h w0 e a' w' ∧ Arrives P (lone (b.at a (.code c :: .inLoop c :: k)) cs w) b k cs e a' w' := by
    intro n
    induction n using Nat.strongRecOn with
    | _ n ih =>
      intro x G a w hn hI hr hx
      obtain ⟨e, a1, w1, hq, harr⟩ := round x hI G a w hr b (.inLoop c :: k) cs
      obtain ⟨G', s, q, r, ex⟩ := hq
      cases e with
      | normal =>
        obtain ⟨x', hI', hlt, hw⟩ := q
        have hl := hlen x' hI'
        obtain ⟨e2, a2, w2, hq2, harr2⟩ := ih (μ x') (hn ▸ hlt) x' _ a1 w1 rfl hI' (hw.rep r) (Ext.cut hw (hx.trans ex) (by rw [← hr0.rh.n]; exact hl))
        exact ⟨e2, a2, w2, hq2, .of_steps (Steps.trans harr (.one step_inLoop)) harr2⟩
      | exit id => exact ⟨_, a1, w1, ⟨G', s, q, r, hx.trans ex⟩, .pass (x := .inLoop c) rfl (fun _ _ => .inl (by simp)) harr⟩
      | goto l => exact ⟨_, a1, w1, ⟨G', s, q, r, hx.trans ex⟩, .pass (x := .inLoop c) rfl (fun _ _ => .inl (by simp)) harr⟩
      | ret => exact ⟨_, a1, w1, ⟨G', s, q, r, hx.trans ex⟩, .pass (x := .inLoop c) rfl (fun _ _ => .inl (by simp)) harr⟩
      | panic ch => exact ⟨_, a1, w1, ⟨G', s, q, r, hx.trans ex⟩, .pass (x := .inLoop c) rfl (fun _ _ => .inl (by simp)) harr⟩
      | outgrown => exact ⟨_, a1, w1, ⟨G', s, q, r, hx.trans ex⟩, .pass (x := .inLoop c) rfl (fun _ _ => .inl (by simp)) harr⟩
  obtain ⟨e, a', w', hq, harr⟩ := key _ x0 _ a0 w0 rfl h0 (hst.rep hr0) (Ext.cut hst (.refl _ _ _) (by rw [← hr0.rh.n]; exact hlen x0 h0))
  exact ⟨e, a', w', hq, .of_steps (.one step_loop) harr⟩
theorem AW_loopGL {σ : Type} (L : List Nat) (vs : σ → List (Nat × V)) (H : σ → List B) (I : σ → Prop) (μ : σ → Nat) {c : Code} (x0 : σ) (h0 : I x0)
    (hst : Weak st (headSt st L (vs x0) (H x0))) (hlen : ∀ x, I x → st.h.length ≤ (H x).length)
    (round : ∀ x, I x → AW P ge c (SThen (fun s => ∃ x', I x' ∧ μ x' < μ x ∧ Weak s (headSt st L (vs x') (H x'))) Q) (headSt st L (vs x) (H x))) : AW P ge (.loop c) Q st :=
  AW_loopG (fun x => headSt st L (vs x) (H x)) I μ h0 hst hlen round
end
end Go.AM
end
section
set_option linter.unusedSimpArgs false
set_option linter.unusedVariables false
namespace Go.Proofs.YtgmlimipejcpgaaDoor
open Go Go.AM Fx
/-- Marks: rows of rows. -/
abbrev Marks := List (List Bool)
end Go.Proofs.YtgmlimipejcpgaaDoor
end
