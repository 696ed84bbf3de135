/-
  YtgmlimipejcpgaaGreatDoorLj22: steps of the proof of a law of the program: what these texts prove holds under the hypotheses that their theorems name, and no others.
-/
import Derived.Test.YtgmlimipejcpgaaGreatDoorLj16
import Derived.Test.YtgmlimipejcpgaaGreatDoorLj21
import Derived.Test.YtgmlimipejcpgaaGreatDoorLj07
import Derived.Test.YtgmlimipejcpgaaGreatDoorLj12
import Derived.Test.YtgmlimipejcpgaaGreatDoorLj10
import Derived.Test.YtgmlimipejcpgaaGreatDoorLj20
section
set_option linter.unusedVariables false
set_option linter.unusedSimpArgs false
namespace Go.AM
section
variable {P : Program} {ge : GEnv} {st : St} {Q : Exit → St → Prop} {ops : Array Oper}
variable {d : Option Tmp} {t : TypeId} {p : String} {af : Array Edge} {g : Option (Nat × Bool)}
/-- The walk of a region whose slices are built frozen. -/
def AOL (P : Program) (ge : GEnv) (ops : Array Oper) (Q : Exit → St → Prop) : List Oper → St → Prop
  | [], st => Q .normal st
  | ⟨d, .buildSlice T len parts, _, _, _, none⟩ :: rest, st => dstOk st.n d = true ∧ bsOk P ge st T len parts ∧
      AOL P ge ops Q rest ⟨st.n, putD d (.vec (rowsV (List.replicate len (zeroD P (elemOf P T))) (partsV ge st.tm parts.toList)) len) st.tm, st.h⟩
  | ⟨d, op, t, p, af, none⟩ :: rest, st =>
      if plainOp op = true then dstOk st.n d = true ∧ opOk P ge st op ∧ AOL P ge ops Q rest ⟨st.n, putD d (opVal P ge st op).1 st.tm, (opVal P ge st op).2⟩
      else AS P ge ops (⟨d, op, t, p, af, none⟩ :: rest) Q st
  | ⟨d, op, t, p, af, some g⟩ :: rest, st => AS P ge ops (⟨d, op, t, p, af, some g⟩ :: rest) Q st
theorem AS_of_AOL : ∀ {l : List Oper} {st : St}, AOL P ge ops Q l st → AS P ge ops l Q st
  | [], st, h => by rw [AOL] at h; exact AS_nil h
  | ⟨d, op, t, p, af, some g⟩ :: rest, st, h => by
    cases op <;> (rw [AOL] at h; try exact h) <;> (intro hh; cases hh)
  | ⟨d, op, t, p, af, none⟩ :: rest, st, h => by
    by_cases hb : ∃ T len parts, op = .buildSlice T len parts
    · obtain ⟨T, len, parts, rfl⟩ := hb
      rw [AOL] at h
      obtain ⟨h1, h2, h3⟩ := h
      exact AS_op rfl h1 (S_bsOk h2) (AS_of_AOL h3)
    · rw [AOL] at h
      · split at h
        · obtain ⟨h1, h2, h3⟩ := h
          exact AS_op rfl h1 (opS_of_ok h2) (AS_of_AOL h3)
        · exact h
      · intro T len parts e; exact hb ⟨T, len, parts, e⟩
theorem AW_region_AOL {id : Nat} (h : AOL P ge ops Q ops.toList st) : AW P ge (.region id ops false) Q st := AW_region (AS_of_AOL h)
end
mutual
def V.dn : V → V
  | .nils => .vec [] 0
  | .vec xs len => .vec (V.dnR xs) len
  | .agg cs => .agg (V.dns cs)
  | .tup cs => .tup (V.dns cs)
  | .fp cs off => .fp (V.dns cs) off
  | v => v
def V.dns : List V → List V
  | [] => []
  | v :: r => V.dn v :: V.dns r
def V.dnR : List (List V) → List (List V)
  | [] => []
  | x :: r => V.dns x :: V.dnR r
end
theorem dns_eq : ∀ cs : List V, V.dns cs = cs.map V.dn
  | [] => rfl
  | v :: r => by rw [V.dns, List.map_cons, dns_eq r]
theorem dnR_eq : ∀ xs : List (List V), V.dnR xs = xs.map V.dns
  | [] => rfl
  | x :: r => by rw [V.dnR, List.map_cons, dnR_eq r]
theorem R.dn {G : Gh} {w : World} {fr : Bool} {v : V} {c : Value} (h : R G w fr v c) : R G w fr v.dn c := by
  have tg : ∀ {cs : List V} {j : Nat} {v : V}, (V.dns cs)[j]? = some v → ∃ u, cs[j]? = some u ∧ v = u.dn := fun {cs j v} hv => by
    rw [dns_eq, List.getElem?_map] at hv
    obtain ⟨u, h1, h2⟩ := Option.map_eq_some_iff.1 hv
    exact ⟨u, h1, h2.symm⟩
  have rg : ∀ {xs : List (List V)} {i : Nat} {x : List V}, (V.dnR xs)[i]? = some x → ∃ y, xs[i]? = some y ∧ x = V.dns y := fun {xs i x} hx => by
    rw [dnR_eq, List.getElem?_map] at hx
    obtain ⟨y, h1, h2⟩ := Option.map_eq_some_iff.1 hx
    exact ⟨y, h1, h2.symm⟩
  induction h with
  | nils => exact .emp (Nat.zero_le _)
  | emp h => exact .emp h
  | @vec _ _ _ _ _ _ sz h1 h2 h3 hl hc ho hr ih =>
    refine .vec (sz := sz) (by rw [dnR_eq, List.length_map]; exact h1) (by rw [dnR_eq, List.length_map]; exact h2) h3 (fun i x hx => ?_) (fun i x j v hx hv => ?_) (fun i x j v hx hv => ?_) (fun i x j v hx hv => ?_)
    · obtain ⟨y, h4, rfl⟩ := rg hx; rw [dns_eq, List.length_map]; exact hl i y h4
    · obtain ⟨y, h4, rfl⟩ := rg hx; obtain ⟨u, h5, rfl⟩ := tg hv; exact hc i y j u h4 h5
    · obtain ⟨y, h4, rfl⟩ := rg hx; obtain ⟨u, h5, rfl⟩ := tg hv; exact ho i y j u h4 h5
    · obtain ⟨y, h4, rfl⟩ := rg hx; obtain ⟨u, h5, rfl⟩ := tg hv; exact ih i y j u h4 h5
  | fp hc ho hr ih =>
    refine .fp (fun j v hv => ?_) (fun j v hv => ?_) (fun j v hv => ?_)
    · obtain ⟨u, h5, rfl⟩ := tg hv; exact hc j u h5
    · obtain ⟨u, h5, rfl⟩ := tg hv; exact ho j u h5
    · obtain ⟨u, h5, rfl⟩ := tg hv; exact ih j u h5
  | agg hs ho hr ih =>
    refine .agg (by rw [dns_eq, List.length_map]; exact hs) (fun i v hv => ?_) (fun i v hv => ?_)
    · obtain ⟨u, h5, rfl⟩ := tg hv; exact ho i u h5
    · obtain ⟨u, h5, rfl⟩ := tg hv; exact ih i u h5
  | tup hs hr ih =>
    refine .tup (by rw [dns_eq, List.length_map]; exact hs) (fun i v hv => ?_)
    obtain ⟨u, h5, rfl⟩ := tg hv; exact ih i u h5
  | fn hs hr hs' hr' => exact .fn hs hr hs' hr'
  | ifc hr => exact .ifc hr
  | junk => exact .junk
  | void => exact .void
  | bool => exact .bool
  | int => exact .int
  | str => exact .str
  | nilp => exact .nilp
  | nilf => exact .nilf
  | nilm => exact .nilm
  | nili => exact .nili
  | ref hb hg hm hle => exact .ref hb hg hm hle
  | refn hb hg hm => exact .refn hb hg hm
  | ptr hb hm => exact .ptr hb hm
  | ep hb hg hm => exact .ep hb hg hm
  | mp hb hm => exact .mp hb hm
/-- A contract for what nil, deep inside the arguments, shows. -/
theorem PCall.dn {P : Program} {ge : GEnv} {f : Nat} {args args' : List V} {r : V} (hc : PCall P ge f args' r) (ha : V.dns args = args') : PCall P ge f args r := by
  subst ha
  refine ⟨hc.1, fun G w cargs h hg => hc.2 G w cargs ⟨by rw [dns_eq, List.length_map]; exact h.1, fun i v hv => ?_⟩ hg⟩
  rw [dns_eq, List.getElem?_map] at hv
  obtain ⟨u, h1, rfl⟩ := Option.map_eq_some_iff.1 hv
  exact (h.2 i u h1).dn
/-- A result, as it shows with nil deep inside. -/
theorem PCall.dnr {P : Program} {ge : GEnv} {f : Nat} {args : List V} {r r' : V} (hc : PCall P ge f args r) (hp : r.plain = true) (he : r.dn = r') (h1 : ∀ T xs, r' ≠ .own T xs) (h2 : ∀ vs, r' ≠ .tup vs) : PCall P ge f args r' := by
  refine ⟨hc.1, fun G w cargs ha hg => (hc.2 G w cargs ha hg).mono fun e w' ⟨c, G', k1, k2, k3⟩ => ⟨c, G', k1, k2, ?_⟩⟩
  have h4 := (k3.plain hp).dn
  rw [he] at h4
  cases r' <;> first | exact h4 | exact (h1 _ _ rfl).elim | exact (h2 _ rfl).elim
attribute [simp] AOL
end Go.AM
end
section
set_option linter.unusedSimpArgs false
set_option linter.unusedVariables false
namespace Go.Proofs.YtgmlimipejcpgaaGreatDoor
open Go Go.AM Fx
def lowB (c : Int) : Bool := decide (c = 4 ∨ c = 5 ∨ c = 3)
def smallN : NetD := { clocks := [⟨#[120]⟩], vars := [], chans := [], autos := [{ name := ⟨#[65]⟩, locs := [{ name := ⟨#[97]⟩, kind := 0, inv := [{ clock := 1, other := 0, cmp := 2, n := 5 }] }, { name := ⟨#[98]⟩, kind := 0, inv := [] }], edges := [{ frm := 0, to := 1, guards := [{ clock := 1, other := 0, cmp := 4, n := 3 }], test := [], chan := 0, send := false, sets := [{ clock := 1, n := 0, var := 0, expr := [] }] }] }] }
theorem small_ok : smallN.ok := by
  simp [smallN, NetD.ok, AutoD.ok, LocD.ok, EdgeD.ok, GuardD.ok, SetD.ok, I64]
  decide
end Go.Proofs.YtgmlimipejcpgaaGreatDoor
end
section
set_option linter.unusedVariables false
set_option linter.unusedSimpArgs false
namespace Go.AM
def refsV : Nat → List V → List V
  | _, [] => []
  | n, .own _ xs :: r => .ref n 0 0 xs.length :: refsV (n + 1) r
  | n, v :: r => v :: refsV n r
def rowsB : List V → List B
  | [] => []
  | .own T xs :: r => .row T 0 0 true xs :: rowsB r
  | _ :: r => rowsB r
theorem refsV_not {n : Nat} {v : V} {r : List V} (h : v.isOwn = false) : refsV n (v :: r) = v :: refsV n r := by cases v <;> first | rfl | cases h
theorem rowsB_not {v : V} {r : List V} (h : v.isOwn = false) : rowsB (v :: r) = rowsB r := by cases v <;> first | rfl | cases h
theorem isOwn_iff {v : V} (h : v.isOwn = true) : ∃ T xs, v = .own T xs := by cases v <;> first | exact ⟨_, _, rfl⟩ | cases h
section
variable {P : Program} {ge : GEnv} {st : St} {G : Gh} {w w' : World} {Q : Exit → St → Prop}
variable {d : Option Tmp} {t : TypeId} {p : String} {af : Array Edge}
theorem RO1_not {base : Nat} {v : V} {c : Value} (h : v.isOwn = false) (hr : RO1 P G w base v c) : R G w true v c := by cases v <;> first | exact hr | cases h
/-- A block that is no block yet. -/
theorem RH.push2 {h : List B} (rh : RH P ge G h w) {k : Option Nat} {sz cap : Nat} {x : B} (hx : RB P (G.push k sz cap) w G.n x)
    (hk : ∀ k', (G.push k sz cap).at G.n x = some k' → ∀ (b : Nat) (y : B), h[b]? = some y → G.at b y ≠ some k') : RH P ge (G.push k sz cap) (h ++ [x]) w := by
  have le := GLe.push rh (.refl w) k sz cap
  have hlt : ∀ {b y}, h[b]? = some y → b < G.n := fun {b y} hy => by have := (List.getElem?_eq_some_iff.1 hy).1; rw [rh.n] at this; exact this
  have part : ∀ {b y}, (h ++ [x])[b]? = some y → (h[b]? = some y ∧ b < G.n) ∨ (b = G.n ∧ y = x) := fun {b y} hy => by
    rcases Nat.lt_or_ge b h.length with h1 | h1
    · rw [List.getElem?_append_left h1] at hy; exact .inl ⟨hy, hlt hy⟩
    · rw [List.getElem?_append_right h1] at hy
      have h2 : b - h.length = 0 := by
        rcases Nat.eq_zero_or_pos (b - h.length) with h | h
        · exact h
        · rw [List.getElem?_eq_none (by simp; omega)] at hy; cases hy
      rw [h2] at hy; simp at hy
      exact .inr ⟨by rw [← rh.n]; omega, hy.symm⟩
  refine ⟨by simp [Gh.push, rh.n], ?_, ?_, ?_, ?_⟩
  · intro b y hy
    rcases part hy with ⟨hy, hb⟩ | ⟨rfl, rfl⟩
    · refine RB.keep le hb (by simp only [Gh.push]; rw [if_neg (by omega)]) (fun k' hk' => ⟨rfl, rfl⟩) (rh.bl b y hy)
    · exact hx
  · intro b b' y y' k' hy hy' h1 h2
    rcases part hy with ⟨oy, hb⟩ | ⟨rfl, rfl⟩ <;> rcases part hy' with ⟨oy', hb'⟩ | ⟨rfl, rfl⟩
    · rw [at_push (by omega)] at h1 h2; exact rh.inj b b' y y' k' oy oy' h1 h2
    · rw [at_push (by omega)] at h1
      exact absurd h1 (hk k' h2 b y oy)
    · rw [at_push (by omega)] at h2
      exact absurd h2 (hk k' h1 b' y' oy')
    · rfl
  · exact rh.fzlt
  · intro g cs hg; exact (rh.ge g cs hg).mono le
theorem owns_push {G0 G' : Gh} {h0 : List B} {w0 : World} : ∀ (us : List V) (cs : List Value) (Gc : Gh) (hc : List B), us.length = cs.length → RH P ge Gc hc w' → Ext G0 h0 w0 Gc hc w' → Gc.fz = G'.fz →
    (∀ (i : Nat) (u : V) (c : Value), us[i]? = some u → cs[i]? = some c → RO1 P G' w' w0.heap.size u c) →
    (∀ (i : Nat) (u : V) (c : Value) (k : Nat), us[i]? = some u → u.isOwn = true → cs[i]? = some c → blkOf c = some k → ∀ (b : Nat) (y : B), hc[b]? = some y → Gc.at b y ≠ some k) →
    (∀ (i j : Nat) (u v : V) (c e : Value) (k : Nat), us[i]? = some u → us[j]? = some v → u.isOwn = true → v.isOwn = true → cs[i]? = some c → cs[j]? = some e → blkOf c = some k → blkOf e = some k → i = j) →
    ∃ Gn, RH P ge Gn (hc ++ rowsB us) w' ∧ Ext G0 h0 w0 Gn (hc ++ rowsB us) w' ∧ GLe Gc w' Gn w' ∧ (refsV hc.length us).length = us.length ∧
      ∀ (i : Nat) (v : V) (c : Value), (refsV hc.length us)[i]? = some v → cs[i]? = some c → R Gn w' false v c
  | [], cs, Gc, hc, hl, rh, ext, hfz, h1, h2, h3 => ⟨Gc, by simpa [rowsB] using rh, by simpa [rowsB] using ext, .refl _ _, rfl, fun i v c hv => by simp [refsV] at hv⟩
  | u :: us, [], Gc, hc, hl, _, _, _, _, _, _ => by simp at hl
  | u :: us, c :: cs, Gc, hc, hl, rh, ext, hfz, h1, h2, h3 => by
    have hl' : us.length = cs.length := by simpa using hl
    cases ho : u.isOwn with
    | false =>
      obtain ⟨Gn, a1, a2, a3, a4, a5⟩ := owns_push us cs Gc hc hl' rh ext hfz (fun i u c hu hc => h1 (i + 1) u c (by simpa using hu) (by simpa using hc))
        (fun i u c k hu ho hc hk => h2 (i + 1) u c k (by simpa using hu) ho (by simpa using hc) hk)
        (fun i j u v c e k hu hv a b hc he a' b' => by have := h3 (i + 1) (j + 1) u v c e k (by simpa using hu) (by simpa using hv) a b (by simpa using hc) (by simpa using he) a' b'; omega)
      rw [refsV_not ho, rowsB_not ho]
      refine ⟨Gn, a1, a2, a3, by simp [a4], fun i v c' hv hc' => ?_⟩
      cases i with
      | zero =>
        simp at hv hc'; subst hv; subst hc'
        exact ((RO1_not ho (h1 0 u c (by simp) (by simp))).monoT (fun k => by rw [← hfz]; exact a3.fz k) (fun _ _ _ => rfl) rfl).weak rfl
      | succ i => exact a5 i v c' (by simpa using hv) (by simpa using hc')
    | true =>
      obtain ⟨T, xs, rfl⟩ := isOwn_iff ho
      obtain ⟨k, cap, hcv, hk1, hk2, hk3, hrb⟩ := RB_own (show OwnR P G' w' w0.heap.size T xs c from h1 0 (.own T xs) c (by simp) (by simp))
      have hat : (Gc.push k (szOf P T) cap).at Gc.n (.row T 0 0 true xs) = k := by simp [Gh.at, Gh.push]
      have hblk : ∀ j, k = some j → blkOf c = some j := fun j hj => by subst hj; rw [hcv]; rfl
      have rh1 := rh.push2 (hrb Gc hfz) (fun k' hk' b y hy => by rw [hat] at hk'; exact h2 0 _ c k' (by simp) ho (by simp) (hblk k' hk') b y hy)
      have le1 : GLe Gc w' (Gc.push k (szOf P T) cap) w' := GLe.push rh (.refl w') _ _ _
      have part : ∀ {b y}, (hc ++ [B.row T 0 0 true xs])[b]? = some y → (hc[b]? = some y ∧ b < Gc.n) ∨ (b = Gc.n ∧ y = .row T 0 0 true xs) := fun {b y} hy => by
        rcases Nat.lt_or_ge b hc.length with h3 | h3
        · rw [List.getElem?_append_left h3] at hy; exact .inl ⟨hy, by rw [← rh.n]; exact h3⟩
        · rw [List.getElem?_append_right h3] at hy
          have h4 : b - hc.length = 0 := by
            rcases Nat.eq_zero_or_pos (b - hc.length) with h | h
            · exact h
            · rw [List.getElem?_eq_none (by simp; omega)] at hy; cases hy
          rw [h4] at hy; simp at hy
          exact .inr ⟨by rw [← rh.n]; omega, hy.symm⟩
      have atp : ∀ {b y}, b < Gc.n → (Gc.push k (szOf P T) cap).at b y = Gc.at b y := fun {b y} hb => at_push (by omega)
      have ext1 : Ext G0 h0 w0 (Gc.push k (szOf P T) cap) (hc ++ [B.row T 0 0 true xs]) w' := by
        refine ⟨ext.le.trans le1, ext.size, fun j hj hn => ext.frame j hj hn, fun b y j hy hj => ?_, ext.os, ext.out⟩
        rcases part hy with ⟨hy, hb⟩ | ⟨rfl, rfl⟩
        · rw [atp hb] at hj; exact ext.fresh b y j hy hj
        · rw [hat] at hj; exact .inl (hk1 j hj)
      obtain ⟨Gn, a1, a2, a3, a4, a5⟩ := owns_push us cs (Gc.push k (szOf P T) cap) (hc ++ [B.row T 0 0 true xs]) hl' rh1 ext1 hfz (fun i u c hu hc => h1 (i + 1) u c (by simpa using hu) (by simpa using hc))
        (fun i u e k' hu hu' he hk' b y hy => by
          rcases part hy with ⟨hy, hb⟩ | ⟨rfl, rfl⟩
          · rw [atp hb]; exact h2 (i + 1) u e k' (by simpa using hu) hu' (by simpa using he) hk' b y hy
          · rw [hat]; intro hkk
            have := h3 0 (i + 1) _ u c e k' (by simp) (by simpa using hu) ho hu' (by simp) (by simpa using he) (hblk k' hkk) hk'
            omega)
        (fun i j u v c e k hu hv a b hc he a' b' => by have := h3 (i + 1) (j + 1) u v c e k (by simpa using hu) (by simpa using hv) a b (by simpa using hc) (by simpa using he) a' b'; omega)
      have hlen : (hc ++ [B.row T 0 0 true xs]).length = hc.length + 1 := by simp
      rw [hlen] at a4 a5
      simp only [refsV, rowsB]
      rw [List.append_assoc] at a1 a2
      refine ⟨Gn, a1, a2, le1.trans a3, by simp [a4], fun i v c' hv hc' => ?_⟩
      cases i with
      | zero =>
        simp at hv hc'; subst hv; subst hc'
        refine R.mono a3 ?_
        rw [rh.n]
        cases k with
        | none =>
          simp only at hcv
          subst hcv
          rw [hk2 rfl]
          exact .refn (by simp [Gh.push]) (by simp [Gh.push]) (by simp [Gh.push])
        | some k =>
          simp only at hcv
          subst hcv
          have := R.ref (G := Gc.push (some k) (szOf P T) cap) (w := w') (b := Gc.n) (g := 0) (off := 0) (len := xs.length) (k := k) (by simp [Gh.push]) (by simp [Gh.push]) (by simp [Gh.push])
            (by simp [Gh.push]; exact hk3 k rfl)
          simpa [Gh.push] using this
      | succ i => exact a5 i v c' (by simpa using hv) (by simpa using hc')
theorem GCall_owns {f : Nat} {args vs : List V} (hc : PCall P ge f args (.tup vs)) (hf : V.isFs args = true) (h : List B) :
    GCall P ge f args h fun v h' => v = .tup (refsV h.length vs) ∧ h' = h ++ rowsB vs := by
  refine ⟨hc.1, fun G w cargs ha hr => ?_⟩
  have ha' : ArgsR G w true args cargs := ⟨ha.1, fun i v hv => (ha.2 i v hv).frozen (V.isFs_get hf i v hv)⟩
  refine (hc.2 G w cargs ha' ⟨hr.fzlt, hr.ge⟩).mono ?_
  rintro e w' ⟨c, G', rfl, kept, arr, rfl, hsz, hro, hdis⟩
  obtain ⟨h1, h2⟩ := kept.rh hr
  have hget : ∀ (i : Nat) (c : Value), arr.toList[i]? = some c → arr.getD i undef = c := fun i c h => by
    have : arr[i]? = some c := by simpa using h
    rw [Array.getD_eq_getD_getElem?, this]; rfl
  obtain ⟨Gn, a1, a2, a3, a4, a5⟩ := owns_push (G' := G') vs arr.toList (G.withFz G'.fz) h (by simp [hsz]) h1 h2 rfl (fun i u c hu hc => by have := hro i u hu; rw [hget i c hc] at this; exact this)
    (fun i u c k hu ho hc hk b y hy hat => by
      have h3 := hro i u hu
      rw [hget i c hc] at h3
      obtain ⟨T, xs, rfl⟩ := isOwn_iff ho
      have h4 : G.at b y = some k := by cases y <;> exact hat
      have h5 := at_lt hr hy h4
      obtain ⟨_, ⟨rfl, rfl⟩ | ⟨k', cap, arr', rfl, hb, _⟩⟩ := h3
      · cases hk
      · simp only [blkOf, Option.some.injEq] at hk; subst hk; omega)
    (fun i j u v c e k hu hv a b hc he a' b' => hdis i j u v k hu hv a b (by rw [hget i c hc]; exact a') (by rw [hget j e he]; exact b'))
  refine ⟨_, Gn, _, _, rfl, ⟨rfl, rfl⟩, a1, .tup (by rw [a4]; exact hsz) (fun i v hv => ?_), a2⟩
  have hi : i < arr.size := by have := (List.getElem?_eq_some_iff.1 hv).1; omega
  have hc' : arr.toList[i]? = some arr[i] := by simp [hi]
  rw [hget i _ hc']
  exact a5 i v _ hv hc'
theorem AS_callT {ops : Array Oper} {rest : List Oper} {x : Operand} {xs : Array Operand} {ts : Array TypeId} {f : Nat} {A C args : List V} {vs : List V}
    (hx : ev ge st.tm x = .fn (.func f) A C) (ha : A ++ evs ge st.tm xs.toList ++ C = args) (hc : PCall P ge f args (.tup vs)) (hf : V.isFs args = true) (hd : dstOk st.n d = true)
    (h : AO P ge ops Q rest ⟨st.n, putD d (.tup (refsV st.h.length vs)) st.tm, st.h ++ rowsB vs⟩) :
    AS P ge ops (⟨d, .call { callee := .value x, args := xs, argTypes := ts }, t, p, af, none⟩ :: rest) Q st :=
  aG hx ha (GCall_owns hc hf st.h) hd (by rintro v h' ⟨rfl, rfl⟩; exact h)
end
attribute [simp] refsV rowsB
end Go.AM
end
section
set_option linter.unusedVariables false
set_option linter.unusedSimpArgs false
namespace Go.AM
section
variable {P : Program} {ge : GEnv} {st : St} {Q : Exit → St → Prop} {G : Gh} {w : World}
theorem AW_viewrow {c : Code} (b0 i j : Nat) {b gg off len : Nat} {T T0 : TypeId} {g0 f0 fzn : Nat} {xs rows : List (List V)} {x : List V} (h0 : st.h[b0]? = some (.row T0 g0 f0 false rows)) (hi : rows[i]? = some x) (hj : x[j]? = some (.ref b gg off len))
    (hb : st.h[b]? = some (.row T gg fzn true xs)) (hle : off + len ≤ xs.length)
    (h : AW P ge c Q { st with h := (st.h.set b (.row T gg xs.length true xs)).set b0 (.row T0 g0 f0 false (rows.set i (x.set j (.vec (xs.drop off) len)))) }) : AW P ge c Q st := by
  intro G a w hr
  have hil := (List.getElem?_eq_some_iff.1 hi).1
  have hne : b0 ≠ b := fun e => by subst e; rw [h0] at hb; cases hb
  have hold : ∀ (G : Gh) (a : Act) (h : List B), RB P G w b0 (.row T0 g0 f0 false rows) → ∃ k arr, G.m b0 g0 = some k ∧ w.heap[k]? = some (.cells arr T0 (0, 0)) ∧
      ∀ (i : Nat) (x : List V) (j : Nat) (v : V), rows[i]? = some x → x[j]? = some v → (arr.getD (i * G.sz b0 + j) undef).oneCell' = true ∧ R G w false v (arr.getD (i * G.sz b0 + j) undef) := by
    rintro G a h ⟨_, _, _, hrow⟩
    rcases hrow with ⟨_, rfl⟩ | ⟨k, arr, hm, hh, _, _, _, _, _, hcells⟩
    · simp at hi
    · exact ⟨k, arr, hm, hh, hcells⟩
  obtain ⟨k, arr, hm, hh, hcells⟩ := hold G a st.h (hr.rh.bl b0 _ h0)
  obtain ⟨G', r, xt, hv⟩ := view_any hr (hcells i x j _ hi hj).2 hb hle
  have h0' : (st.h.set b (.row T gg xs.length true xs))[b0]? = some (.row T0 g0 f0 false rows) := by
    rw [List.getElem?_set, if_neg (fun e => hne e.symm)]; exact h0
  have hbn : b0 < G.n := by have := (List.getElem?_eq_some_iff.1 h0).1; rw [hr.rh.n] at this; exact this
  obtain ⟨q1, q2, q3, hrow'⟩ := r.rh.bl b0 _ h0'
  obtain ⟨p1, _⟩ := hr.rh.bl b0 _ h0
  have hmm : G'.m b0 g0 = G.m b0 g0 := xt.le.m b0 g0 hbn (by rw [p1]; exact Nat.le_refl _)
  have hsz : G'.sz b0 = G.sz b0 := xt.le.sz b0 hbn
  rcases hrow' with ⟨hn, _⟩ | ⟨k', arr', hm', hh', r1, r2, r3, r4, r5, hcells'⟩
  · rw [hmm, hm] at hn; cases hn
  have hkk : k' = k := by rw [hmm, hm] at hm'; cases hm'; rfl
  subst hkk
  have haa : arr' = arr := by rw [hh] at hh'; cases hh'; rfl
  subst haa
  have hset : ∀ (i' : Nat) (x' : List V), (rows.set i (x.set j (.vec (xs.drop off) len)))[i']? = some x' → (i' = i ∧ x' = x.set j (.vec (xs.drop off) len)) ∨ (i' ≠ i ∧ rows[i']? = some x') := fun i' x' hx' => by
    rw [List.getElem?_set] at hx'
    split at hx'
    · rename_i e
      cases hx'
      exact .inl ⟨e.symm, rfl⟩
    · rename_i e; exact .inr ⟨fun e' => e e'.symm, hx'⟩
  obtain ⟨rh2, x2⟩ := RH_upd (w' := w) (y := .row T0 g0 f0 false (rows.set i (x.set j (.vec (xs.drop off) len)))) r.rh h0' hm' rfl (fun _ _ => rfl) rfl ⟨rfl, rfl⟩ (.refl _ _)
    ⟨q1, by rw [List.length_set]; exact q2, q3, .inr ⟨k', arr', hm', hh', r1, r2, by rw [List.length_set]; exact r3, r4, fun i' x' hx' => by
      rcases hset i' x' hx' with ⟨rfl, rfl⟩ | ⟨_, hx'⟩
      · rw [List.length_set]; exact r5 _ x hi
      · exact r5 i' x' hx', fun i' x' j' u hx' hu => by
      rcases hset i' x' hx' with ⟨rfl, rfl⟩ | ⟨_, hx'⟩
      · rw [List.getElem?_set] at hu
        split at hu
        · rename_i e
          subst e
          split at hu
          · cases hu
            refine ⟨(hcells' _ x j _ hi hj).1, ?_⟩
            rw [hsz]; exact hv
          · cases hu
        · exact hcells' _ x j' u hi hu
      · exact hcells' i' x' j' u hx' hu⟩⟩ hm'
  exact wp_mono (h G' a w ⟨rh2, r.tm, r.n, r.d⟩) fun _ _ _ hp => hp.mono (xt.trans x2) fun _ _ h => h
/-- A loop that ends in its first round. -/
theorem AW_loop0 {c : Code} (h : AW P ge c (SThen (fun _ => False) Q) st) : AW P ge (.loop c) Q st := by
  intro G a w hr
  refine wp_loop (fun a' w' => a' = a ∧ w' = w) (fun _ _ => 0) ⟨rfl, rfl⟩ ?_
  rintro a' w' ⟨rfl, rfl⟩
  refine wp_mono (h G a' w' hr) ?_
  rintro e a1 w1 ⟨G', s, q, r, ex⟩
  cases e <;> simp only [SThen, Exit.then] at q ⊢ <;> first | exact q.elim | exact ⟨G', s, q, r, ex⟩
/-- A symbolic heap, what is new behind it falls. -/
theorem Weak.sym {st : St} {tm : List (Nat × V)} {h x : List B} (hh : st.h = h ++ x) (hl : ∀ y ∈ h, y.lt h.length) (ht : ∀ p ∈ tm, lk st.tm p.1 = p.2 ∧ p.2.lt h.length = true) : Weak st ⟨st.n, tm, h⟩ := by
  refine ⟨rfl, by rw [hh]; simp, ht, fun b y hy => .inr ⟨?_, hl y (List.mem_of_getElem? hy)⟩⟩
  rw [hh, List.getElem?_append_left (List.getElem?_eq_some_iff.1 hy).1]; exact hy
theorem Leaves.sym {h0 h : List B} (h1 : h0.length ≤ h.length) (hl : ∀ y ∈ h, y.lt h.length) : Leaves h0 h h :=
  ⟨h1, Nat.le_refl _, fun b x hx => .inr ⟨hx, .inr (hl x (List.mem_of_getElem? hx))⟩⟩
end
end Go.AM
end
section
set_option linter.unusedSimpArgs false
set_option linter.unusedVariables false
namespace Go.Proofs.YtgmlimipejcpgaaGreatDoor
open Go Go.AM Fx
def isV (l : List Int) : V := .vec (l.map fun k => [V.int .i64 k]) l.length
set_option maxHeartbeats 4000000 in
theorem c_SameInts (a : List Int) (ha : a.length ≤ 1099511627776) : PC 26 [isV a, isV a] (.bool true) := by
  refine pB Tryz.func26 rfl (by decide) Tryz.ntmps26 (by simp) Tryz.results26 ?_
  repeat' (first
 |refine aK fun K hK=>?_|refine Step.by1 ?_|refine sE (by decide) ?_|refine cz rfl ?_|refine Fork.by2 (fun h=>?_) fun h=>?_
 |(refine aR ?_;simp [isV])
 |(refine Split.by2 (fun h=>?_) (fun h=>?_)<;>(simp [h, isV]))
 |(apply hK;clear hK K)|refine AWh ‹_› ?_)
  refine aL [0, 1] (fun i : Nat => [(5, .int .i64 i)]) (fun _ => []) (fun i => i ≤ a.length) (fun i => a.length - i) 0 (Nat.zero_le _) (by apply Weak.mk' <;> simp [isV]) (fun _ _ => rfl) ?_
  intro i hi
  by_cases hlt : i < a.length
  · have hlt' : (i : Int) < a.length := by omega
    have w1 : IntKind.i64.wrap ((i : Int) + 1) = i + 1 := wI (by omega) (by omega)
    repeat' (first
 |refine aK fun K hK=>?_|refine Step.by1 ?_|refine sE (by decide) ?_|refine cz rfl ?_|refine Fork.by2 (fun h=>?_) fun h=>?_
 |((first|refine aR ?_|refine aX (id:=6) 9 mixed (by decide) ?_);simp [isV, hlt, hlt', w1])
 |(refine Split.by2 (fun h=>?_) (fun h=>?_)<;>(simp [h, isV, hlt, hlt', w1]))
 |(apply hK;clear hK K)|refine AWh ‹_› ?_)
    refine ⟨i + 1, by omega, by omega, ?_⟩
    apply Weak.mk' <;> simp [isV]
  · have hie : i = a.length := by omega
    subst hie
    repeat' (first
 |refine aK fun K hK=>?_|refine Step.by1 ?_|refine sE (by decide) ?_|refine cz rfl ?_|refine Fork.by2 (fun h=>?_) fun h=>?_
 |(refine aR ?_;simp [isV])
 |(refine Split.by2 (fun h=>?_) (fun h=>?_)<;>(simp [h, isV]))
 |(apply hK;clear hK K)|refine AWh ‹_› ?_)
    exact r1q (cE rfl rfl)
def upB (c : Int) : Bool := decide (c = 1 ∨ c = 2 ∨ c = 3)





end Go.Proofs.YtgmlimipejcpgaaGreatDoor
end
section
set_option linter.unusedVariables false
set_option linter.unusedSimpArgs false
namespace Go.Proofs.YtgmlimipejcpgaaGreatDoor
open Go Go.AM Fx
/-- All references lead into the heap. -/
def HL (h : List B) : Prop := ∀ y ∈ h, y.lt h.length
theorem HL.set {h : List B} (hl : HL h) {i : Nat} {y : B} (hy : y.lt h.length) : HL (h.set i y) := fun z hz => by
  rw [List.length_set]
  rcases List.mem_or_eq_of_mem_set hz with h | h
  · exact hl z h
  · subst h; exact hy
theorem HL.get {h : List B} (hl : HL h) {i : Nat} {y : B} (hy : h[i]? = some y) : y.lt h.length := hl y (List.mem_of_getElem? hy)
theorem HL.push {h : List B} (hl : HL h) {y : B} (hy : y.lt (h.length + 1)) : HL (h ++ [y]) := fun z hz => by
  rw [List.length_append, List.length_singleton]
  rcases List.mem_append.1 hz with h | h
  · exact B.lt_mono (by omega) (hl z h)
  · rw [List.mem_singleton.1 h]; exact hy
theorem set_same {α : Type} {l : List α} {i : Nat} {a : α} (h : l[i]? = some a) : l.set i a = l := by
  obtain ⟨h1, h2⟩ := List.getElem?_eq_some_iff.1 h
  rw [← h2]; simp
theorem gN {h : List B} {i j : Nat} {y : B} (hne : i ≠ j) : (h.set i y)[j]? = h[j]? := by rw [List.getElem?_set, if_neg hne]
theorem get_set_eq {h : List B} {i : Nat} {y z : B} (hi : h[i]? = some z) : (h.set i y)[i]? = some y := by
  have := (List.getElem?_eq_some_iff.1 hi).1
  rw [List.getElem?_set, if_pos rfl, if_pos this]
def ivs (l : List Int) : List (List V) := l.map fun k => [V.int .i64 k]
def bookB (r g m : Nat) : B := .var [.nils, .nils, .ref r g 0 m, .nils, .nils, .nils, .nils, .nils, .nils, .nils, .nils, .nils, .nils, .nils]
def rv (x : Nat × Nat × Nat) : V := .ref x.1 x.2.1 0 x.2.2
theorem rowF_lt {T g f n : Nat} {xs : List (List V)} : (B.row T g f true xs).lt n := .inl rfl
theorem rowR_lt {T g f n : Nat} {fl : Bool} {xs : List (List V)} (h : ∀ x ∈ xs, V.lts n x = true) : (B.row T g f fl xs).lt n := .inr h
theorem bookB_lt {r g m n : Nat} (h : r < n) : (bookB r g m).lt n := by simp [bookB, h]
/-- A book of rows of one's own, no two of them the same. -/
structure Pre (h : List B) (bk r g : Nat) (refs : List (Nat × Nat × Nat)) : Prop where
  hl : HL h
  bk : h[bk]? = some (bookB r g refs.length)
  rr : h[r]? = some (.row 47 g 0 false (refs.map fun x => [rv x]))
  rows : ∀ (j : Nat) (x : Nat × Nat × Nat), refs[j]? = some x → ∃ ns, h[x.1]? = some (.row 3 x.2.1 0 true (ivs ns)) ∧ ns.length = x.2.2
  inj : ∀ (i j : Nat) (x y : Nat × Nat × Nat), refs[i]? = some x → refs[j]? = some y → x.1 = y.1 → i = j
/-- While each list is written. -/
structure P1 (h : List B) (bk r g : Nat) (refs : List (Nat × Nat × Nat)) (i k : Nat) (hc : List B) : Prop where
  len : hc.length = h.length
  hl : HL hc
  bk : hc[bk]? = some (bookB r g refs.length)
  rr : hc[r]? = some (.row 47 g 0 false (refs.map fun x => [rv x]))
  rows : ∀ (j : Nat) (x : Nat × Nat × Nat), refs[j]? = some x → ∃ ns, hc[x.1]? = some (.row 3 x.2.1 0 true (ivs ns)) ∧ ns.length = x.2.2 ∧ ∀ q, q < x.2.2 → (j < i ∨ (j = i ∧ q < k)) → ns[q]? = some (-9000 - (j : Int))
  inj : ∀ (i j : Nat) (x y : Nat × Nat × Nat), refs[i]? = some x → refs[j]? = some y → x.1 = y.1 → i = j
  rest : ∀ b, b ≠ r → (∀ x ∈ refs, x.1 ≠ b) → hc[b]? = h[b]?
section
variable {h hc : List B} {bk r g i k : Nat} {refs : List (Nat × Nat × Nat)}
theorem Pre.p1 (p : Pre h bk r g refs) : P1 h bk r g refs 0 0 h :=
  ⟨rfl, p.hl, p.bk, p.rr, fun j x hx => by
    obtain ⟨ns, h1, h2⟩ := p.rows j x hx
    exact ⟨ns, h1, h2, fun q hq hj => by omega⟩, p.inj, fun _ _ _ => rfl⟩
theorem ne_r {x : Nat × Nat × Nat} {ns cs : List (List V)} {f : Nat} {fl : Bool} {g' : Nat} (hr : hc[r]? = some (.row 47 g 0 false cs)) (hx : hc[x.1]? = some (.row 3 g' f fl ns)) : x.1 ≠ r := fun e => by
  rw [e, hr] at hx; cases hx
theorem bk_ne_r {cs : List (List V)} (hb : hc[bk]? = some (bookB r g k)) (hr : hc[r]? = some (.row 47 g 0 false cs)) : bk ≠ r := fun e => by
  rw [e, hr] at hb; cases hb
theorem P1.step (p : P1 h bk r g refs i k hc) {x : Nat × Nat × Nat} (hx : refs[i]? = some x) {ns : List Int} (hr : hc[x.1]? = some (.row 3 x.2.1 0 true (ivs ns))) (hn : ns.length = x.2.2) (hk : k < x.2.2) :
    P1 h bk r g refs i (k + 1) (hc.set x.1 (.row 3 x.2.1 0 true (ivs (ns.set k (-9000 - (i : Int)))))) := by
  have n1 : x.1 ≠ bk := fun e => by have := p.bk; rw [e, this] at hr; cases hr
  have n2 := ne_r p.rr hr
  refine ⟨by rw [List.length_set]; exact p.len, p.hl.set rowF_lt, by rw [gN n1]; exact p.bk, by rw [gN n2]; exact p.rr, fun j y hy => ?_, p.inj, fun b hb hb' => by rw [gN (hb' x (List.mem_of_getElem? hx))]; exact p.rest b hb hb'⟩
  by_cases e : j = i
  · subst e
    obtain rfl : x = y := by rw [hx] at hy; cases hy; rfl
    obtain ⟨ms, h1, h2, h3⟩ := p.rows j x hx
    have : ms = ns := by
      rw [hr] at h1
      simp only [Option.some.injEq, B.row.injEq, true_and] at h1
      have inj : ∀ (a b : List Int), ivs a = ivs b → a = b := fun a => by
        induction a with
        | nil => intro b hb; cases b <;> simp [ivs] at hb ⊢
        | cons z a ih =>
          intro b hb
          cases b with
          | nil => simp [ivs] at hb
          | cons w b =>
            simp only [ivs, List.map_cons, List.cons.injEq, V.int.injEq, true_and, and_true] at hb
            rw [hb.1, ih b hb.2]
      exact (inj _ _ h1).symm
    subst this
    refine ⟨_, get_set_eq hr, by simp [hn], fun q hq hj => ?_⟩
    rw [List.getElem?_set]
    by_cases e : k = q
    · subst e; rw [if_pos rfl, if_pos (by omega)]
    · rw [if_neg e]; exact h3 q hq (by omega)
  · obtain ⟨ms, h1, h2, h3⟩ := p.rows j y hy
    have hne : x.1 ≠ y.1 := fun e' => e (p.inj i j x y hx hy e').symm
    exact ⟨ms, by rw [gN hne]; exact h1, h2, fun q hq hj => h3 q hq (by omega)⟩
theorem P1.next (p : P1 h bk r g refs i k hc) {x : Nat × Nat × Nat} (hx : refs[i]? = some x) (hk : k = x.2.2) : P1 h bk r g refs (i + 1) 0 hc :=
  ⟨p.len, p.hl, p.bk, p.rr, fun j y hy => by
    obtain ⟨ms, h1, h2, h3⟩ := p.rows j y hy
    refine ⟨ms, h1, h2, fun q hq hj => h3 q hq ?_⟩
    by_cases e : j = i
    · subst e
      obtain rfl : x = y := by rw [hx] at hy; cases hy; rfl
      omega
    · omega, p.inj, p.rest⟩
/-- All places the same. -/
def repV (n : Nat) (v : Int) : List (List V) := List.replicate n [V.int .i64 v]
theorem ivs_rep {ns : List Int} {n : Nat} {v : Int} (hn : ns.length = n) (h : ∀ q, q < n → ns[q]? = some v) : ivs ns = repV n v := by
  have : ns = List.replicate n v := by
    apply List.ext_getElem?
    intro q
    by_cases hq : q < n
    · rw [h q hq]; simp [hq]
    · rw [List.getElem?_eq_none (by omega), List.getElem?_eq_none (by simp; omega)]
  subst this
  simp [ivs, repV]
/-- While each list is grown. -/
structure P2 (h : List B) (bk r g : Nat) (refs : List (Nat × Nat × Nat)) (i : Nat) (hc : List B) : Prop where
  len : hc.length = h.length + 1
  hl : HL hc
  bk : hc[bk]? = some (bookB r g refs.length)
  rr : ∃ cs : List (List V), hc[r]? = some (.row 47 g 0 false cs) ∧ cs.length = refs.length ∧ ∀ (j : Nat) (x : Nat × Nat × Nat), refs[j]? = some x → cs[j]? = some [if j < i then .vec (repV x.2.2 (-9000 - (j : Int))) x.2.2 else rv x]
  all : ∃ (fl : Bool) (ds : List (List V)), hc[h.length]? = some (.row 47 i 0 fl ds) ∧ ds.length = i ∧ ∀ (j : Nat) (x : Nat × Nat × Nat), j < i → refs[j]? = some x → ds[j]? = some [.ref x.1 (x.2.1 + 20) 0 (x.2.2 + 20)]
  rows : ∀ (j : Nat) (x : Nat × Nat × Nat), refs[j]? = some x → hc[x.1]? = some (if j < i then .row 3 (x.2.1 + 20) x.2.2 true (repV (x.2.2 + 20) (-9000 - (j : Int))) else .row 3 x.2.1 0 true (repV x.2.2 (-9000 - (j : Int))))
  inj : ∀ (i j : Nat) (x y : Nat × Nat × Nat), refs[i]? = some x → refs[j]? = some y → x.1 = y.1 → i = j
  rest : ∀ b, b < h.length → b ≠ r → (∀ x ∈ refs, x.1 ≠ b) → hc[b]? = h[b]?
theorem P1.p2 (p : P1 h bk r g refs refs.length 0 hc) : P2 h bk r g refs 0 (hc ++ [.row 47 0 0 true []]) := by
  have hlt : ∀ {b : Nat} {y : B}, hc[b]? = some y → (hc ++ [B.row 47 0 0 true []])[b]? = some y := fun {b y} hy => by
    rw [List.getElem?_append_left (List.getElem?_eq_some_iff.1 hy).1]; exact hy
  refine ⟨by rw [List.length_append, p.len]; rfl, p.hl.push rowF_lt, hlt p.bk, ⟨_, hlt p.rr, by simp, fun j x hx => ?_⟩, ⟨true, [], ?_, rfl, fun j x hj => by omega⟩, fun j x hx => ?_, p.inj, fun b hb hb1 hb2 => ?_⟩
  · rw [List.getElem?_map, hx, if_neg (by omega)]; rfl
  · rw [← p.len]; simp
  · obtain ⟨ns, h1, h2, h3⟩ := p.rows j x hx
    have hj := (List.getElem?_eq_some_iff.1 hx).1
    rw [if_neg (by omega), hlt h1, ivs_rep h2 fun q hq => h3 q hq (.inl hj)]
  · rw [List.getElem?_append_left (by rw [p.len]; exact hb)]; exact p.rest b hb1 hb2
/-- The heap while the list i is grown: k places more. -/
def grown (hc : List B) (r g i : Nat) (cs : List (List V)) (x : Nat × Nat × Nat) (v : Int) (k : Nat) : List B :=
  (hc.set r (.row 47 g 0 false (cs.set i [.vec (repV x.2.2 v) x.2.2]))).set x.1 (.row 3 (x.2.1 + k) x.2.2 true (repV (x.2.2 + k) v))
theorem grown_succ {hc : List B} {r g i k : Nat} {cs : List (List V)} {x : Nat × Nat × Nat} {v : Int} : grown hc r g i cs x v (k + 1) = (grown hc r g i cs x v k).set x.1 (.row 3 (x.2.1 + (k + 1)) x.2.2 true (repV (x.2.2 + (k + 1)) v)) := by
  simp [grown]
theorem P2.grows (p : P2 h bk r g refs i hc) {x : Nat × Nat × Nat} (hx : refs[i]? = some x) {cs ds : List (List V)} {fl : Bool} (hcs : hc[r]? = some (.row 47 g 0 false cs)) (hds : hc[h.length]? = some (.row 47 i 0 fl ds)) (v : Int) (k : Nat) :
    (grown hc r g i cs x v k).length = h.length + 1 ∧ HL (grown hc r g i cs x v k) ∧ (grown hc r g i cs x v k)[h.length]? = some (.row 47 i 0 fl ds) ∧
    (grown hc r g i cs x v k)[x.1]? = some (.row 3 (x.2.1 + k) x.2.2 true (repV (x.2.2 + k) v)) ∧ x.1 ≠ bk ∧ x.1 ≠ r ∧ bk ≠ r ∧ x.1 ≠ h.length ∧ bk ≠ h.length ∧ r ≠ h.length := by
  have hrow := p.rows i x hx
  rw [if_neg (by omega)] at hrow
  have n1 : x.1 ≠ bk := fun e => by have := p.bk; rw [e, this] at hrow; cases hrow
  have n2 : x.1 ≠ r := ne_r hcs hrow
  have n3 : bk ≠ r := bk_ne_r p.bk hcs
  have n4 : x.1 ≠ h.length := fun e => by rw [e, hds] at hrow; cases hrow
  have n5 : bk ≠ h.length := fun e => by have := p.bk; rw [e, hds] at this; cases this
  have n6 : r ≠ h.length := fun e => by
    have hr : r < hc.length := (List.getElem?_eq_some_iff.1 hcs).1
    have h1 := (p.hl.get hcs)
    have h2 := p.hl.get p.bk
    obtain ⟨cs', q1, q2, q3⟩ := p.rr
    obtain ⟨fl', ds', t1, t2, t3⟩ := p.all
    rw [e, t1] at q1
    have hi := (List.getElem?_eq_some_iff.1 hx).1
    cases q1
    omega
  have hi := (List.getElem?_eq_some_iff.1 hx).1
  obtain ⟨cs', q1, q2, q3⟩ := p.rr
  obtain rfl : cs' = cs := by rw [hcs] at q1; cases q1; rfl
  obtain ⟨fl', ds', t1, t2, t3⟩ := p.all
  obtain ⟨rfl, rfl⟩ : fl' = fl ∧ ds' = ds := by rw [hds] at t1; cases t1; exact ⟨rfl, rfl⟩
  have hxl : x.1 < h.length + 1 := by rw [← p.len]; exact (List.getElem?_eq_some_iff.1 hrow).1
  have hcsl : ∀ y ∈ cs'.set i [V.vec (repV x.2.2 v) x.2.2], V.lts hc.length y = true := fun y hy => by
    rcases List.mem_or_eq_of_mem_set hy with h | h
    · exact ((p.hl.get hcs).resolve_left (by simp)) y h
    · subst h; simp
  have e1 : (hc.set r (.row 47 g 0 false (cs'.set i [V.vec (repV x.2.2 v) x.2.2])))[x.1]? = hc[x.1]? := gN (fun e => n2 e.symm)
  exact ⟨by simp only [Go.Proofs.YtgmlimipejcpgaaGreatDoor.grown, List.length_set]; exact p.len, (p.hl.set (rowR_lt hcsl)).set rowF_lt, by rw [Go.Proofs.YtgmlimipejcpgaaGreatDoor.grown, gN n4, gN n6]; exact t1, get_set_eq (e1.trans hrow), n1, n2, n3, n4, n5, n6⟩
theorem P2.step (p : P2 h bk r g refs i hc) {x : Nat × Nat × Nat} (hx : refs[i]? = some x) {cs ds : List (List V)} {fl : Bool} (hcs : hc[r]? = some (.row 47 g 0 false cs)) (hds : hc[h.length]? = some (.row 47 i 0 fl ds)) :
    P2 h bk r g refs (i + 1) ((grown hc r g i cs x (-9000 - (i : Int)) 20).set h.length (.row 47 (i + 1) 0 false (ds ++ [[.ref x.1 (x.2.1 + 20) 0 (x.2.2 + 20)]]))) := by
  obtain ⟨hg_len, hg_hl, hg_all, hg_x, n1, n2, n3, n4, n5, n6⟩ := p.grows hx hcs hds (-9000 - (i : Int)) 20
  have hrow := p.rows i x hx
  rw [if_neg (by omega)] at hrow
  have hi := (List.getElem?_eq_some_iff.1 hx).1
  obtain ⟨cs', q1, q2, q3⟩ := p.rr
  obtain rfl : cs' = cs := by rw [hcs] at q1; cases q1; rfl
  obtain ⟨fl', ds', t1, t2, t3⟩ := p.all
  obtain ⟨rfl, rfl⟩ : fl' = fl ∧ ds' = ds := by rw [hds] at t1; cases t1; exact ⟨rfl, rfl⟩
  have hxl : x.1 < h.length + 1 := by rw [← p.len]; exact (List.getElem?_eq_some_iff.1 hrow).1
  have hdl : ∀ y ∈ ds' ++ [[V.ref x.1 (x.2.1 + 20) 0 (x.2.2 + 20)]], V.lts (h.length + 1) y = true := fun y hy => by
    rcases List.mem_append.1 hy with h | h
    · obtain ⟨j, hj⟩ := List.getElem?_of_mem h
      have hjl := (List.getElem?_eq_some_iff.1 hj).1
      have hjr : j < refs.length := by omega
      have := t3 j refs[j] (by omega) (List.getElem?_eq_getElem hjr)
      rw [hj] at this; cases this
      have h5 := p.rows j refs[j] (List.getElem?_eq_getElem hjr)
      have h6 := (List.getElem?_eq_some_iff.1 h5).1
      rw [p.len] at h6
      simp [h6]
    · rw [List.mem_singleton.1 h]; simp [hxl]
  refine ⟨by rw [List.length_set]; exact hg_len, hg_hl.set (rowR_lt (by rw [hg_len]; exact hdl)), ?_, ⟨cs'.set i [V.vec (repV x.2.2 (-9000 - (i : Int))) x.2.2], ?_, by rw [List.length_set]; exact q2, fun j y hy => ?_⟩, ⟨false, ds' ++ [[.ref x.1 (x.2.1 + 20) 0 (x.2.2 + 20)]], get_set_eq hg_all, by simp [t2], fun j y hj hy => ?_⟩, fun j y hy => ?_, p.inj, fun b hb hb1 hb2 => ?_⟩
  · rw [gN (fun e => n5 e.symm), Go.Proofs.YtgmlimipejcpgaaGreatDoor.grown, gN n1, gN (fun e => n3 e.symm)]; exact p.bk
  · rw [gN (fun e => n6 e.symm), Go.Proofs.YtgmlimipejcpgaaGreatDoor.grown, gN n2]; exact get_set_eq hcs
  · rw [List.getElem?_set]
    by_cases e : i = j
    · subst e
      obtain rfl : x = y := by rw [hx] at hy; cases hy; rfl
      rw [if_pos rfl, if_pos (by omega), if_pos (by omega)]
    · rw [if_neg e, q3 j y hy]
      by_cases e2 : j < i
      · rw [if_pos e2, if_pos (by omega)]
      · rw [if_neg e2, if_neg (by omega)]
  · by_cases e : j = i
    · subst e
      obtain rfl : x = y := by rw [hx] at hy; cases hy; rfl
      rw [List.getElem?_append_right (by omega), t2]; simp
    · rw [List.getElem?_append_left (by omega)]; exact t3 j y (by omega) hy
  · have hjn : y.1 ≠ h.length := fun e => by
      have h5 := p.rows j y hy
      rw [e, t1] at h5
      by_cases e2 : j < i
      · rw [if_pos e2] at h5; cases h5
      · rw [if_neg e2] at h5; cases h5
    rw [gN (fun e => hjn e.symm), Go.Proofs.YtgmlimipejcpgaaGreatDoor.grown]
    by_cases e : j = i
    · subst e
      obtain rfl : x = y := by rw [hx] at hy; cases hy; rfl
      rw [if_pos (by omega)]
      exact get_set_eq (z := .row 3 x.2.1 0 true (repV x.2.2 (-9000 - (j : Int)))) (by rw [gN (fun e => n2 e.symm)]; exact hrow)
    · have hne : x.1 ≠ y.1 := fun e' => e (p.inj i j x y hx hy e').symm
      have h5 := p.rows j y hy
      have hyr : r ≠ y.1 := fun e' => by
        rw [← e', hcs] at h5
        by_cases e2 : j < i
        · rw [if_pos e2] at h5; cases h5
        · rw [if_neg e2] at h5; cases h5
      rw [gN hne, gN hyr, h5]
      by_cases e2 : j < i
      · rw [if_pos e2, if_pos (by omega)]
      · rw [if_neg e2, if_neg (by omega)]
  · rw [gN (by omega), Go.Proofs.YtgmlimipejcpgaaGreatDoor.grown, gN (hb2 x (List.mem_of_getElem? hx)), gN (fun e => hb1 e.symm)]; exact p.rest b hb hb1 hb2
end
end Go.Proofs.YtgmlimipejcpgaaGreatDoor
end
