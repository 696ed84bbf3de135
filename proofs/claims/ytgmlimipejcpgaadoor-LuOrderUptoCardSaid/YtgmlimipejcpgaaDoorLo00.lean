/-
  YtgmlimipejcpgaaDoorLo00: steps of the proof of a law of the program: what these texts prove holds under the hypotheses that their theorems name, and no others.
-/
import Derived.Test.YtgmlimipejcpgaaDoorCd19
section
set_option linter.unusedVariables false
set_option linter.unusedSimpArgs false
namespace Go.AM
section
variable {P : Program} {ge : GEnv} {st : St} {G : Gh} {w w' : World} {Q : Exit → St → Prop}
variable {d : Option Tmp} {t : TypeId} {p : String} {af : Array Edge}
theorem GCall.mono {f : Nat} {args : List V} {h : List B} {Q Q' : V → List B → Prop} (hc : GCall P ge f args h Q) (hq : ∀ v h', Q v h' → Q' v h') : GCall P ge f args h Q' :=
  ⟨hc.1, fun G w cargs ha hr => (hc.2 G w cargs ha hr).mono fun e w' ⟨c, G', v, h', h1, h2, h3⟩ => ⟨c, G', v, h', h1, hq _ _ h2, h3⟩⟩
end
end Go.AM
end
section
set_option linter.unusedVariables false
set_option linter.unusedSimpArgs false
namespace Go.AM
section
variable {P : Program} {ge : GEnv} {st : St} {Q : Exit → St → Prop}
variable {d : Option Tmp} {t : TypeId} {p : String} {af : Array Edge} {g : Option (Nat × Bool)}
theorem retq2 {t u : Nat} {r : V} (h : Conv st.h (.tup [lk st.tm t, lk st.tm u]) r) : RetQ P #[.tmp t, .tmp u] r .ret st := ⟨.inr rfl, _, ⟨[lk st.tm t, lk st.tm u], rfl, rfl, rfl, trivial⟩, h⟩
theorem retq3 {t u q : Nat} {r : V} (h : Conv st.h (.tup [lk st.tm t, lk st.tm u, lk st.tm q]) r) : RetQ P #[.tmp t, .tmp u, .tmp q] r .ret st := ⟨.inr rfl, _, ⟨[lk st.tm t, lk st.tm u, lk st.tm q], rfl, rfl, rfl, rfl, trivial⟩, h⟩
end
end Go.AM
end
section
set_option maxRecDepth 100000
namespace Go.Proofs.YtgmlimipejcpgaaDoor
open Go.AM
namespace Fx
@[simp] theorem ik3 : intKindT Tryd.prog 3 = some .i64 := by kernel_rfl
@[simp] theorem by30 : bytesOf Tryd.prog 30 = 24 := by kernel_rfl
@[simp] theorem sz51 : szOf Tryd.prog 51 = 1 := by kernel_rfl
@[simp] theorem ia51 : isAggT Tryd.prog 51 = false := by kernel_rfl
@[simp] theorem is51 : isSliceT Tryd.prog 51 = true := by kernel_rfl
@[simp] theorem el51 : Go.AM.elemOf Tryd.prog 51 = 57 := by kernel_rfl
@[simp] theorem es51 : elemSz Tryd.prog 51 = 1 := by kernel_rfl
@[simp] theorem sz53 : szOf Tryd.prog 53 = 2 := by kernel_rfl
@[simp] theorem zo53 : (zeroOf Tryd.prog 53).isSome = true := by kernel_rfl
@[simp] theorem zd53 : zeroD Tryd.prog 53 = [.nils, .nils] := by kernel_rfl
@[simp] theorem ia53 : isAggT Tryd.prog 53 = true := by kernel_rfl
@[simp] theorem ss53 : isStructT Tryd.prog 53 = true := by kernel_rfl
@[simp] theorem fk53 : fldOk Tryd.prog 53 = true := by kernel_rfl
@[simp] theorem fo53_0 : fieldOff Tryd.prog 53 0 = some 0 := by kernel_rfl
@[simp] theorem fo53_1 : fieldOff Tryd.prog 53 1 = some 1 := by kernel_rfl
@[simp] theorem fi53_0 : fInfo Tryd.prog 53 0 = some (0, 1) := by kernel_rfl
@[simp] theorem fi53_1 : fInfo Tryd.prog 53 1 = some (1, 1) := by kernel_rfl
@[simp] theorem sz57 : szOf Tryd.prog 57 = 1 := by kernel_rfl
@[simp] theorem by57 : bytesOf Tryd.prog 57 = 24 := by kernel_rfl
@[simp] theorem zo57 : (zeroOf Tryd.prog 57).isSome = true := by kernel_rfl
@[simp] theorem zd57 : zeroD Tryd.prog 57 = [.nils] := by kernel_rfl
@[simp] theorem ia57 : isAggT Tryd.prog 57 = false := by kernel_rfl
@[simp] theorem is57 : isSliceT Tryd.prog 57 = true := by kernel_rfl
@[simp] theorem el57 : Go.AM.elemOf Tryd.prog 57 = 30 := by kernel_rfl
@[simp] theorem es57 : elemSz Tryd.prog 57 = 1 := by kernel_rfl
@[simp] theorem is104 : isSliceT Tryd.prog 104 = true := by kernel_rfl
@[simp] theorem el104 : Go.AM.elemOf Tryd.prog 104 = 53 := by kernel_rfl
@[simp] theorem es104 : elemSz Tryd.prog 104 = 2 := by kernel_rfl
@[simp] theorem is134 : isSliceT Tryd.prog 134 = true := by kernel_rfl
@[simp] theorem el134 : Go.AM.elemOf Tryd.prog 134 = 30 := by kernel_rfl
@[simp] theorem es134 : elemSz Tryd.prog 134 = 1 := by kernel_rfl
@[simp] theorem ik166 : intKindT Tryd.prog 166 = some .u64 := by kernel_rfl
end Fx
end Go.Proofs.YtgmlimipejcpgaaDoor
end
section
set_option linter.unusedVariables false
set_option linter.unusedSimpArgs false
namespace Go.AM
section
variable {P : Program} {ge : GEnv} {st : St} {Q : Exit → St → Prop} {ops : Array Oper} {K : St → Prop}
variable {d : Option Tmp} {t : TypeId} {p : String} {af : Array Edge}
/-- A slice that is built frozen, where the order is drawn. -/
theorem AP_lit {rest : List Oper} {T : TypeId} {len : Nat} {parts : Array (Nat × Operand)} (hd : dstOk st.n d = true) (hb : bsOk P ge st T len parts)
    (h : APx P ge ops K rest ⟨st.n, putD d (.vec (rowsV (List.replicate len (zeroD P (elemOf P T))) (partsV ge st.tm parts.toList)) len) st.tm, st.h⟩) :
    AP P ge ops K (⟨d, .buildSlice T len parts, t, p, af, none⟩ :: rest) st :=
  ⟨_, hd, .inr (.inr (.inl ⟨T, len, parts, rfl, hb, rfl⟩)), AP_of_APx h⟩
/-- A call on rows of one's own, as they are seen. -/
theorem AP_scall {rest : List Oper} {x : Operand} {xs : Array Operand} {ts : Array TypeId} {f : Nat} {args' : List V} {r : V}
    (hx : ev ge st.tm x = .fn (.func f) [] []) (hs : (evs ge st.tm xs.toList).map (seenV st.h) = args') (hc : PCall P ge f args' r) (hf : V.isFs args' = true) (hp : r.scal = true) (hd : dstOk st.n d = true)
    (h : APx P ge ops K rest ⟨st.n, putD d r st.tm, st.h⟩) :
    AP P ge ops K (⟨d, .call { callee := .value x, args := xs, argTypes := ts }, t, p, af, none⟩ :: rest) st := by
  rw [evs_eq] at hs
  exact ⟨r, hd, .inr (.inr (.inr (.inl ⟨x, xs, ts, f, args', rfl, hx, hc, hs, hf, hp⟩))), AP_of_APx h⟩
end
end Go.AM
namespace Go.AM
end Go.AM
end
section
set_option linter.unusedVariables false
set_option linter.unusedSimpArgs false
namespace Go.AM
section
variable {P : Program} {ge : GEnv} {st : St} {Q : Exit → St → Prop} {G : Gh} {w : World}
/-- A variable's cell is told otherwise. -/
theorem RH_retell {h : List B} (rh : RH P ge G h w) {b0 j : Nat} {cs : List V} {v : V} (hb : h[b0]? = some (.var cs))
    (hv : ∀ (c : Value) (u : V), cs[j]? = some u → R G w false u c → c.oneCell' = true → R G w false v c) :
    RH P ge G (h.set b0 (.var (cs.set j v))) w ∧ Ext G h w G (h.set b0 (.var (cs.set j v))) w := by
  obtain ⟨h00, k, arr, T, hm, hh, hfz, hs, hcells⟩ := rh.bl b0 _ hb
  refine RH_upd (w' := w) rh hb hm rfl (fun _ _ => rfl) rfl ⟨rfl, rfl⟩ (.refl _ _) ⟨h00, k, arr, T, hm, hh, hfz, by simp [hs], fun i u hu => ?_⟩ hm
  rw [List.getElem?_set] at hu
  split at hu
  · rename_i e
    subst e
    split at hu
    · rename_i hj
      cases hu
      have := hcells j cs[j] (List.getElem?_eq_getElem hj)
      exact ⟨this.1, hv _ _ (List.getElem?_eq_getElem hj) this.2 this.1⟩
    · cases hu
  · exact hcells i u hu
/-- A nil slice in a variable's cell, as an empty row of one's own. -/
theorem AW_nilcell {c : Code} (b0 j : Nat) (T : TypeId) {cs : List V} (h0 : st.h[b0]? = some (.var cs)) (hj : cs[j]? = some .nils) (hT : 0 < szOf P T)
    (h : AW P ge c Q { st with h := (st.h ++ [B.row T 0 0 true []]).set b0 (.var (cs.set j (.ref st.h.length 0 0 0))) }) : AW P ge c Q st := by
  intro G a w hr
  have hk : ∀ k', (G.push none (szOf P T) 0).at G.n (.row T 0 0 true []) = some k' → w.heap.size ≤ k' := fun k' h => by
    simp [Gh.at, Gh.push] at h
  have hrb : RB P (G.push none (szOf P T) 0) w G.n (.row T 0 0 true []) := ⟨by simp [Gh.push], Nat.zero_le _, by simp [Gh.push, hT], .inl ⟨by simp [Gh.push], rfl⟩⟩
  have rh := hr.rh.push (.refl w) hrb hk
  have ext := Ext.push hr.rh (.refl w) hk
  have hlt : b0 < st.h.length := (List.getElem?_eq_some_iff.1 h0).1
  have h0' : (st.h ++ [B.row T 0 0 true []])[b0]? = some (.var cs) := by rw [List.getElem?_append_left hlt]; exact h0
  obtain ⟨rh2, x2⟩ := RH_retell (j := j) (v := .ref st.h.length 0 0 0) rh h0' (fun c u hu hc ho => by
    rw [hj] at hu; cases hu
    cases hc
    rw [hr.rh.n]
    exact .refn (by simp [Gh.push]) (by simp [Gh.push]) (by simp [Gh.push]))
  exact wp_mono (h _ a w ⟨rh2, fun t => (hr.tm t).mono ext.le, hr.n, hr.d⟩) fun _ _ _ hp => hp.mono (ext.trans x2) fun _ _ h => h
end
end Go.AM
end
section
set_option linter.unusedVariables false
set_option linter.unusedSimpArgs false
namespace Go.AM
theorem refsV_not {n : Nat} {v : V} {r : List V} (h : v.isOwn = false) : refsV n (v :: r) = v :: refsV n r := by cases v <;> first | rfl | cases h
theorem rowsB_not {v : V} {r : List V} (h : v.isOwn = false) : rowsB (v :: r) = rowsB r := by cases v <;> first | rfl | cases h
theorem isOwn_iff {v : V} (h : v.isOwn = true) : ∃ T xs, v = .own T xs := by cases v <;> first | exact ⟨_, _, rfl⟩ | cases h
section
variable {P : Program} {ge : GEnv} {st : St} {G : Gh} {w w' : World} {Q : Exit → St → Prop}
variable {d : Option Tmp} {t : TypeId} {p : String} {af : Array Edge}
theorem RO1_not {base : Nat} {v : V} {c : Value} (h : v.isOwn = false) (hr : RO1 P G w base v c) : R G w true v c := by cases v <;> first | exact hr | cases h
/-- A block that is no block yet. -/
theorem RH.push2 {h : List B} (rh : RH P ge G h w) {k : Option Nat} {sz cap : Nat} {x : B} (hx : RB P (G.push k sz cap) w G.n x)
    (hk : ∀ k', (G.push k sz cap).at G.n x = some k' → ∀ (b : Nat) (y : B), h[b]? = some y → G.at b y ≠ some k') : RH P ge (G.push k sz cap) (h ++ [x]) w := by
  have le := GLe.push rh (.refl w) k sz cap
  have hlt : ∀ {b y}, h[b]? = some y → b < G.n := fun {b y} hy => by have := (List.getElem?_eq_some_iff.1 hy).1; rw [rh.n] at this; exact this
  have part : ∀ {b y}, (h ++ [x])[b]? = some y → (h[b]? = some y ∧ b < G.n) ∨ (b = G.n ∧ y = x) := fun {b y} hy => by
    rcases Nat.lt_or_ge b h.length with h1 | h1
    · rw [List.getElem?_append_left h1] at hy; exact .inl ⟨hy, hlt hy⟩
    · rw [List.getElem?_append_right h1] at hy
      have h2 : b - h.length = 0 := by
        rcases Nat.eq_zero_or_pos (b - h.length) with h | h
        · exact h
        · rw [List.getElem?_eq_none (by simp; omega)] at hy; cases hy
      rw [h2] at hy; simp at hy
      exact .inr ⟨by rw [← rh.n]; omega, hy.symm⟩
  refine ⟨by simp [Gh.push, rh.n], ?_, ?_, ?_, ?_⟩
  · intro b y hy
    rcases part hy with ⟨hy, hb⟩ | ⟨rfl, rfl⟩
    · refine RB.keep le hb (by simp only [Gh.push]; rw [if_neg (by omega)]) (fun k' hk' => ⟨rfl, rfl⟩) (rh.bl b y hy)
    · exact hx
  · intro b b' y y' k' hy hy' h1 h2
    rcases part hy with ⟨oy, hb⟩ | ⟨rfl, rfl⟩ <;> rcases part hy' with ⟨oy', hb'⟩ | ⟨rfl, rfl⟩
    · rw [at_push (by omega)] at h1 h2; exact rh.inj b b' y y' k' oy oy' h1 h2
    · rw [at_push (by omega)] at h1
      exact absurd h1 (hk k' h2 b y oy)
    · rw [at_push (by omega)] at h2
      exact absurd h2 (hk k' h1 b' y' oy')
    · rfl
  · exact rh.fzlt
  · intro g cs hg; exact (rh.ge g cs hg).mono le
theorem owns_push {G0 G' : Gh} {h0 : List B} {w0 : World} : ∀ (us : List V) (cs : List Value) (Gc : Gh) (hc : List B), us.length = cs.length → RH P ge Gc hc w' → Ext G0 h0 w0 Gc hc w' → Gc.fz = G'.fz →
    (∀ (i : Nat) (u : V) (c : Value), us[i]? = some u → cs[i]? = some c → RO1 P G' w' w0.heap.size u c) →
    (∀ (i : Nat) (u : V) (c : Value) (k : Nat), us[i]? = some u → u.isOwn = true → cs[i]? = some c → blkOf c = some k → ∀ (b : Nat) (y : B), hc[b]? = some y → Gc.at b y ≠ some k) →
    (∀ (i j : Nat) (u v : V) (c e : Value) (k : Nat), us[i]? = some u → us[j]? = some v → u.isOwn = true → v.isOwn = true → cs[i]? = some c → cs[j]? = some e → blkOf c = some k → blkOf e = some k → i = j) →
    ∃ Gn, RH P ge Gn (hc ++ rowsB us) w' ∧ Ext G0 h0 w0 Gn (hc ++ rowsB us) w' ∧ GLe Gc w' Gn w' ∧ (refsV hc.length us).length = us.length ∧
      ∀ (i : Nat) (v : V) (c : Value), (refsV hc.length us)[i]? = some v → cs[i]? = some c → R Gn w' false v c
  | [], cs, Gc, hc, hl, rh, ext, hfz, h1, h2, h3 => ⟨Gc, by simpa [rowsB] using rh, by simpa [rowsB] using ext, .refl _ _, rfl, fun i v c hv => by simp [refsV] at hv⟩
  | u :: us, [], Gc, hc, hl, _, _, _, _, _, _ => by simp at hl
  | u :: us, c :: cs, Gc, hc, hl, rh, ext, hfz, h1, h2, h3 => by
    have hl' : us.length = cs.length := by simpa using hl
    cases ho : u.isOwn with
    | false =>
      obtain ⟨Gn, a1, a2, a3, a4, a5⟩ := owns_push us cs Gc hc hl' rh ext hfz (fun i u c hu hc => h1 (i + 1) u c (by simpa using hu) (by simpa using hc))
        (fun i u c k hu ho hc hk => h2 (i + 1) u c k (by simpa using hu) ho (by simpa using hc) hk)
        (fun i j u v c e k hu hv a b hc he a' b' => by have := h3 (i + 1) (j + 1) u v c e k (by simpa using hu) (by simpa using hv) a b (by simpa using hc) (by simpa using he) a' b'; omega)
      rw [refsV_not ho, rowsB_not ho]
      refine ⟨Gn, a1, a2, a3, by simp [a4], fun i v c' hv hc' => ?_⟩
      cases i with
      | zero =>
        simp at hv hc'; subst hv; subst hc'
        exact ((RO1_not ho (h1 0 u c (by simp) (by simp))).monoT (fun k => by rw [← hfz]; exact a3.fz k) (fun _ _ _ => rfl) rfl).weak rfl
      | succ i => exact a5 i v c' (by simpa using hv) (by simpa using hc')
    | true =>
      obtain ⟨T, xs, rfl⟩ := isOwn_iff ho
      obtain ⟨k, cap, hcv, hk1, hk2, hk3, hrb⟩ := RB_own (show OwnR P G' w' w0.heap.size T xs c from h1 0 (.own T xs) c (by simp) (by simp))
      have hat : (Gc.push k (szOf P T) cap).at Gc.n (.row T 0 0 true xs) = k := by simp [Gh.at, Gh.push]
      have hblk : ∀ j, k = some j → blkOf c = some j := fun j hj => by subst hj; rw [hcv]; rfl
      have rh1 := rh.push2 (hrb Gc hfz) (fun k' hk' b y hy => by rw [hat] at hk'; exact h2 0 _ c k' (by simp) ho (by simp) (hblk k' hk') b y hy)
      have le1 : GLe Gc w' (Gc.push k (szOf P T) cap) w' := GLe.push rh (.refl w') _ _ _
      have part : ∀ {b y}, (hc ++ [B.row T 0 0 true xs])[b]? = some y → (hc[b]? = some y ∧ b < Gc.n) ∨ (b = Gc.n ∧ y = .row T 0 0 true xs) := fun {b y} hy => by
        rcases Nat.lt_or_ge b hc.length with h3 | h3
        · rw [List.getElem?_append_left h3] at hy; exact .inl ⟨hy, by rw [← rh.n]; exact h3⟩
        · rw [List.getElem?_append_right h3] at hy
          have h4 : b - hc.length = 0 := by
            rcases Nat.eq_zero_or_pos (b - hc.length) with h | h
            · exact h
            · rw [List.getElem?_eq_none (by simp; omega)] at hy; cases hy
          rw [h4] at hy; simp at hy
          exact .inr ⟨by rw [← rh.n]; omega, hy.symm⟩
      have atp : ∀ {b y}, b < Gc.n → (Gc.push k (szOf P T) cap).at b y = Gc.at b y := fun {b y} hb => at_push (by omega)
      have ext1 : Ext G0 h0 w0 (Gc.push k (szOf P T) cap) (hc ++ [B.row T 0 0 true xs]) w' := by
        refine ⟨ext.le.trans le1, ext.size, fun j hj hn => ext.frame j hj hn, fun b y j hy hj => ?_, ext.os, ext.out⟩
        rcases part hy with ⟨hy, hb⟩ | ⟨rfl, rfl⟩
        · rw [atp hb] at hj; exact ext.fresh b y j hy hj
        · rw [hat] at hj; exact .inl (hk1 j hj)
      obtain ⟨Gn, a1, a2, a3, a4, a5⟩ := owns_push us cs (Gc.push k (szOf P T) cap) (hc ++ [B.row T 0 0 true xs]) hl' rh1 ext1 hfz (fun i u c hu hc => h1 (i + 1) u c (by simpa using hu) (by simpa using hc))
        (fun i u e k' hu hu' he hk' b y hy => by
          rcases part hy with ⟨hy, hb⟩ | ⟨rfl, rfl⟩
          · rw [atp hb]; exact h2 (i + 1) u e k' (by simpa using hu) hu' (by simpa using he) hk' b y hy
          · rw [hat]; intro hkk
            have := h3 0 (i + 1) _ u c e k' (by simp) (by simpa using hu) ho hu' (by simp) (by simpa using he) (hblk k' hkk) hk'
            omega)
        (fun i j u v c e k hu hv a b hc he a' b' => by have := h3 (i + 1) (j + 1) u v c e k (by simpa using hu) (by simpa using hv) a b (by simpa using hc) (by simpa using he) a' b'; omega)
      have hlen : (hc ++ [B.row T 0 0 true xs]).length = hc.length + 1 := by simp
      rw [hlen] at a4 a5
      simp only [refsV, rowsB]
      rw [List.append_assoc] at a1 a2
      refine ⟨Gn, a1, a2, le1.trans a3, by simp [a4], fun i v c' hv hc' => ?_⟩
      cases i with
      | zero =>
        simp at hv hc'; subst hv; subst hc'
        refine R.mono a3 ?_
        rw [rh.n]
        cases k with
        | none =>
          simp only at hcv
          subst hcv
          rw [hk2 rfl]
          exact .refn (by simp [Gh.push]) (by simp [Gh.push]) (by simp [Gh.push])
        | some k =>
          simp only at hcv
          subst hcv
          have := R.ref (G := Gc.push (some k) (szOf P T) cap) (w := w') (b := Gc.n) (g := 0) (off := 0) (len := xs.length) (k := k) (by simp [Gh.push]) (by simp [Gh.push]) (by simp [Gh.push])
            (by simp [Gh.push]; exact hk3 k rfl)
          simpa [Gh.push] using this
      | succ i => exact a5 i v c' (by simpa using hv) (by simpa using hc')
theorem GCall_owns {f : Nat} {args vs : List V} (hc : PCall P ge f args (.tup vs)) (hf : V.isFs args = true) (h : List B) :
    GCall P ge f args h fun v h' => v = .tup (refsV h.length vs) ∧ h' = h ++ rowsB vs := by
  refine ⟨hc.1, fun G w cargs ha hr => ?_⟩
  have ha' : ArgsR G w true args cargs := ⟨ha.1, fun i v hv => (ha.2 i v hv).frozen (V.isFs_get hf i v hv)⟩
  refine (hc.2 G w cargs ha' ⟨hr.fzlt, hr.ge⟩).mono ?_
  rintro e w' ⟨c, G', rfl, kept, arr, rfl, hsz, hro, hdis⟩
  obtain ⟨h1, h2⟩ := kept.rh hr
  have hget : ∀ (i : Nat) (c : Value), arr.toList[i]? = some c → arr.getD i undef = c := fun i c h => by
    have : arr[i]? = some c := by simpa using h
    rw [Array.getD_eq_getD_getElem?, this]; rfl
  obtain ⟨Gn, a1, a2, a3, a4, a5⟩ := owns_push (G' := G') vs arr.toList (G.withFz G'.fz) h (by simp [hsz]) h1 h2 rfl (fun i u c hu hc => by have := hro i u hu; rw [hget i c hc] at this; exact this)
    (fun i u c k hu ho hc hk b y hy hat => by
      have h3 := hro i u hu
      rw [hget i c hc] at h3
      obtain ⟨T, xs, rfl⟩ := isOwn_iff ho
      have h4 : G.at b y = some k := by cases y <;> exact hat
      have h5 := at_lt hr hy h4
      obtain ⟨_, ⟨rfl, rfl⟩ | ⟨k', cap, arr', rfl, hb, _⟩⟩ := h3
      · cases hk
      · simp only [blkOf, Option.some.injEq] at hk; subst hk; omega)
    (fun i j u v c e k hu hv a b hc he a' b' => hdis i j u v k hu hv a b (by rw [hget i c hc]; exact a') (by rw [hget j e he]; exact b'))
  refine ⟨_, Gn, _, _, rfl, ⟨rfl, rfl⟩, a1, .tup (by rw [a4]; exact hsz) (fun i v hv => ?_), a2⟩
  have hi : i < arr.size := by have := (List.getElem?_eq_some_iff.1 hv).1; omega
  have hc' : arr.toList[i]? = some arr[i] := by simp [hi]
  rw [hget i _ hc']
  exact a5 i v _ hv hc'
theorem AS_callT {ops : Array Oper} {rest : List Oper} {x : Operand} {xs : Array Operand} {ts : Array TypeId} {f : Nat} {A C args : List V} {vs : List V}
    (hx : ev ge st.tm x = .fn (.func f) A C) (ha : A ++ evs ge st.tm xs.toList ++ C = args) (hc : PCall P ge f args (.tup vs)) (hf : V.isFs args = true) (hd : dstOk st.n d = true)
    (h : AO P ge ops Q rest ⟨st.n, putD d (.tup (refsV st.h.length vs)) st.tm, st.h ++ rowsB vs⟩) :
    AS P ge ops (⟨d, .call { callee := .value x, args := xs, argTypes := ts }, t, p, af, none⟩ :: rest) Q st :=
  aG hx ha (GCall_owns hc hf st.h) hd (by rintro v h' ⟨rfl, rfl⟩; exact h)
end
end Go.AM
end
section
set_option linter.unusedSimpArgs false
set_option linter.unusedVariables false
namespace Go.Proofs.YtgmlimipejcpgaaDoor
open Go Go.AM Fx
set_option maxHeartbeats 4000000 in
theorem c_SameInts (a : List Int) (ha : a.length ≤ 1099511627776) : PC 11 [isV a, isV a] (.bool true) := by
  refine pB Tryd.func11 rfl (by decide) Tryd.ntmps11 (by simp) Tryd.results11 ?_
  repeat' (first
 |refine aK fun K hK=>?_|refine Step.by1 ?_|refine sE (by decide) ?_|refine cz rfl ?_|refine Fork.by2 (fun h=>?_) fun h=>?_
 |(refine aR ?_;simp [isV])
 |(refine Split.by2 (fun h=>?_) (fun h=>?_)<;>(simp [h, isV]))
 |(apply hK;clear hK K)|refine AWh ‹_› ?_)
  refine aL [0, 1] (fun i : Nat => [(5, .int .i64 i)]) (fun _ => []) (fun i => i ≤ a.length) (fun i => a.length - i) 0 (Nat.zero_le _) (by apply Weak.mk' <;> simp [isV]) (fun _ _ => rfl) ?_
  intro i hi
  by_cases hlt : i < a.length
  · have hlt' : (i : Int) < a.length := by omega
    have w1 : IntKind.i64.wrap ((i : Int) + 1) = i + 1 := wI (by omega) (by omega)
    repeat' (first
 |refine aK fun K hK=>?_|refine Step.by1 ?_|refine sE (by decide) ?_|refine cz rfl ?_|refine Fork.by2 (fun h=>?_) fun h=>?_
 |((first|refine aR ?_|refine aX (id:=6) 9 mixed (by decide) ?_);simp [isV, hlt, hlt', w1])
 |(refine Split.by2 (fun h=>?_) (fun h=>?_)<;>(simp [h, isV, hlt, hlt', w1]))
 |(apply hK;clear hK K)|refine AWh ‹_› ?_)
    refine ⟨i + 1, by omega, by omega, ?_⟩
    apply Weak.mk' <;> simp [isV]
  · have hie : i = a.length := by omega
    subst hie
    repeat' (first
 |refine aK fun K hK=>?_|refine Step.by1 ?_|refine sE (by decide) ?_|refine cz rfl ?_|refine Fork.by2 (fun h=>?_) fun h=>?_
 |(refine aR ?_;simp [isV])
 |(refine Split.by2 (fun h=>?_) (fun h=>?_)<;>(simp [h, isV]))
 |(apply hK;clear hK K)|refine AWh ‹_› ?_)
    exact r1q (cE rfl rfl)
def upB (c : Int) : Bool := decide (c = 1 ∨ c = 2 ∨ c = 3)
end Go.Proofs.YtgmlimipejcpgaaDoor
end
section
set_option linter.unusedVariables false
set_option linter.unusedSimpArgs false
namespace Go.Proofs.YtgmlimipejcpgaaDoor
open Go Go.AM Fx
theorem set_same {α : Type} {l : List α} {i : Nat} {a : α} (h : l[i]? = some a) : l.set i a = l := by
  obtain ⟨h1, h2⟩ := List.getElem?_eq_some_iff.1 h
  rw [← h2]; simp
def ivs (l : List Int) : List (List V) := l.map fun k => [V.int .i64 k]
def bookB (r g m : Nat) : B := .var [.nils, .nils, .ref r g 0 m, .nils, .nils, .nils, .nils, .nils, .nils, .nils, .nils, .nils, .nils, .nils]
def rv (x : Nat × Nat × Nat) : V := .ref x.1 x.2.1 0 x.2.2
/-- While each list is written. -/
structure P1 (h : List B) (bk r g : Nat) (refs : List (Nat × Nat × Nat)) (i k : Nat) (hc : List B) : Prop where
  len : hc.length = h.length
  hl : HL hc
  bk : hc[bk]? = some (bookB r g refs.length)
  rr : hc[r]? = some (.row 30 g 0 false (refs.map fun x => [rv x]))
  rows : ∀ (j : Nat) (x : Nat × Nat × Nat), refs[j]? = some x → ∃ ns, hc[x.1]? = some (.row 3 x.2.1 0 true (ivs ns)) ∧ ns.length = x.2.2 ∧ ∀ q, q < x.2.2 → (j < i ∨ (j = i ∧ q < k)) → ns[q]? = some (-9000 - (j : Int))
  inj : ∀ (i j : Nat) (x y : Nat × Nat × Nat), refs[i]? = some x → refs[j]? = some y → x.1 = y.1 → i = j
  rest : ∀ b, b ≠ r → (∀ x ∈ refs, x.1 ≠ b) → hc[b]? = h[b]?
section
variable {h hc : List B} {bk r g i k : Nat} {refs : List (Nat × Nat × Nat)}
/-- All places the same. -/
def repV (n : Nat) (v : Int) : List (List V) := List.replicate n [V.int .i64 v]
/-- While each list is grown. -/
structure P2 (h : List B) (bk r g : Nat) (refs : List (Nat × Nat × Nat)) (i : Nat) (hc : List B) : Prop where
  len : hc.length = h.length + 1
  hl : HL hc
  bk : hc[bk]? = some (bookB r g refs.length)
  rr : ∃ cs : List (List V), hc[r]? = some (.row 30 g 0 false cs) ∧ cs.length = refs.length ∧ ∀ (j : Nat) (x : Nat × Nat × Nat), refs[j]? = some x → cs[j]? = some [if j < i then .vec (repV x.2.2 (-9000 - (j : Int))) x.2.2 else rv x]
  all : ∃ (fl : Bool) (ds : List (List V)), hc[h.length]? = some (.row 30 i 0 fl ds) ∧ ds.length = i ∧ ∀ (j : Nat) (x : Nat × Nat × Nat), j < i → refs[j]? = some x → ds[j]? = some [.ref x.1 (x.2.1 + 20) 0 (x.2.2 + 20)]
  rows : ∀ (j : Nat) (x : Nat × Nat × Nat), refs[j]? = some x → hc[x.1]? = some (if j < i then .row 3 (x.2.1 + 20) x.2.2 true (repV (x.2.2 + 20) (-9000 - (j : Int))) else .row 3 x.2.1 0 true (repV x.2.2 (-9000 - (j : Int))))
  inj : ∀ (i j : Nat) (x y : Nat × Nat × Nat), refs[i]? = some x → refs[j]? = some y → x.1 = y.1 → i = j
  rest : ∀ b, b < h.length → b ≠ r → (∀ x ∈ refs, x.1 ≠ b) → hc[b]? = h[b]?
/-- The heap while the list i is grown: k places more. -/
def grown (hc : List B) (r g i : Nat) (cs : List (List V)) (x : Nat × Nat × Nat) (v : Int) (k : Nat) : List B :=
  (hc.set r (.row 30 g 0 false (cs.set i [.vec (repV x.2.2 v) x.2.2]))).set x.1 (.row 3 (x.2.1 + k) x.2.2 true (repV (x.2.2 + k) v))
end
end Go.Proofs.YtgmlimipejcpgaaDoor
end
section
set_option linter.unusedSimpArgs false
set_option linter.unusedVariables false
namespace Go.Proofs.YtgmlimipejcpgaaDoor
open Go Go.AM Fx
theorem Leaves.symx {h0 h x : List B} (h1 : h0.length ≤ h.length) (hl : HL h) : Go.AM.Leaves h0 (h ++ x) h :=
  ⟨h1, by simp, fun b y hy => .inr ⟨by rw [List.getElem?_append_left (List.getElem?_eq_some_iff.1 hy).1]; exact hy, .inr (hl.get hy)⟩⟩
def lookF (n : NetD) : List (List PartD) → Int
  | [] => 0
  | g :: r => if goalE n g ≠ 0 then goalE n g else lookF n r
theorem lookF_nil {n : NetD} : lookF n [] = 0 := rfl
theorem lookF_cons {n : NetD} {g : List PartD} {r : List (List PartD)} : lookF n (g :: r) = if goalE n g ≠ 0 then goalE n g else lookF n r := rfl
def lookE (n : NetD) (gs : List (List PartD)) : Int := if netE n ≠ 0 then netE n else lookF n gs
def bvs (l : List Bool) : List (List V) := l.map fun b => [V.bool b]
open Classical in
noncomputable def actB (a : AutoD) (gs : List (List PartD)) (c : Int) (i : Nat) : Bool := decide (Act a gs c i)
/-- Edges that lead from and to places of the automaton. -/
def okE (a : AutoD) : Prop := ∀ e ∈ a.edges, (0 ≤ e.frm ∧ e.frm < a.locs.length) ∧ (0 ≤ e.to ∧ e.to < a.locs.length)
end Go.Proofs.YtgmlimipejcpgaaDoor
end
