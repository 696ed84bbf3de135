/-
  YtbgooadmonnjaaaGreatDoorRc06: steps of the proof of a law of the program: what these texts prove holds under the hypotheses that their theorems name, and no others.
-/
import Derived.Test.YtbgooadmonnjaaaGreatDoorRc05
section
set_option linter.unusedVariables false
set_option linter.unusedSimpArgs false
namespace Go.AM
section
variable {P : Program} {ge : GEnv} {st : St} {G G' : Gh} {w w' : World} {Q : Exit → St → Prop}
variable {d : Option Tmp} {t : TypeId} {p : String} {af : Array Edge} {g : Option (Nat × Bool)}
/-- A bound that may be left out. -/
def bndV (ge : GEnv) (tm : List (Nat × V)) (o : Option Operand) (dflt : Nat) : Nat := match o with
  | none => dflt
  | some x => match ev ge tm x with
    | .int _ n => n.toNat
    | _ => 0
def bndOk (ge : GEnv) (tm : List (Nat × V)) (o : Option Operand) : Prop := match o with
  | none => True
  | some x => match ev ge tm x with
    | .int _ n => 0 ≤ n
    | _ => False
theorem bnd_spec {a : Act} (hr : Rep P ge G st a w) {o : Option Operand} {dflt : Nat} (h : bndOk ge st.tm o) : (o = none ∧ bndV ge st.tm o dflt = dflt) ∨ ∃ x k n, o = some x ∧ a.eval x = .int k n ∧ 0 ≤ n ∧ bndV ge st.tm o dflt = n.toNat := by
  cases o with
  | none => exact .inl ⟨rfl, rfl⟩
  | some x =>
    right
    have hx := hr.ev x
    unfold bndOk at h
    unfold bndV
    simp only at h ⊢
    cases hv : ev ge st.tm x <;> rw [hv] at h hx <;> simp only at h
    rename_i k n
    exact ⟨x, k, n, rfl, hx.inv_int, h, rfl⟩
theorem run_bounds {a : Act} (hr : Rep P ge G st a w) {lo hi : Option Operand} {isS : Bool} {len cap : Nat} (hlo : bndOk ge st.tm lo) (hhi : bndOk ge st.tm hi)
    (h1 : bndV ge st.tm lo 0 ≤ bndV ge st.tm hi len) (h2 : bndV ge st.tm hi len ≤ cap) :
    (Instr.sliceBounds isS len cap (lo.map a.eval) (hi.map a.eval) none).run P w = .ok (bndV ge st.tm lo 0, bndV ge st.tm hi len, cap) w := by
  have key : ∀ {x : Operand} {k : IntKind} {n : Int} {y : Nat} {code : BoundsCode}, a.eval x = .int k n → 0 ≤ n → n.toNat ≤ y → (Instr.sliceBound (a.eval x) y code).run P w = .ok n.toNat w := fun {x k n y code} e h0 hle => by
    have : n ≤ (y : Int) := by omega
    simp [Instr.sliceBound, e, asIntOf, h0, this]
  rcases bnd_spec hr (dflt := len) hhi with ⟨rfl, e1⟩ | ⟨x, k, n, rfl, e1, e2, e3⟩
  · rcases bnd_spec hr (dflt := 0) hlo with ⟨rfl, f1⟩ | ⟨y, k', n', rfl, f1, f2, f3⟩
    · simp [Instr.sliceBounds, e1, f1]
    · rw [f3, e1] at h1
      simp [Instr.sliceBounds, e1, f3, key f1 f2 h1]
  · rw [e3] at h2
    rcases bnd_spec hr (dflt := 0) hlo with ⟨rfl, f1⟩ | ⟨y, k', n', rfl, f1, f2, f3⟩
    · simp [Instr.sliceBounds, e3, f1, key e1 e2 h2]
    · rw [f3, e3] at h1
      simp [Instr.sliceBounds, e3, f3, key e1 e2 h2, key f1 f2 h1]
theorem S_slice_str {T : TypeId} {x : Operand} {lo hi : Option Operand} {s : ByteArray} (hs : isStrT P T = true) (hx : ev ge st.tm x = .str s) (hlo : bndOk ge st.tm lo) (hhi : bndOk ge st.tm hi)
    (h1 : bndV ge st.tm lo 0 ≤ bndV ge st.tm hi s.size) (h2 : bndV ge st.tm hi s.size ≤ s.size) :
    OpS P ge st ⟨d, .slice T x lo hi none, t, p, af, g⟩ (.str (s.extract (bndV ge st.tm lo 0) (bndV ge st.tm hi s.size))) st.h :=
  OpS_pure fun G a w hr => by
    have hvx := hr.ev x
    rw [hx] at hvx
    have hcx := hvx.inv_str
    refine ⟨_, ?_, .str⟩
    simp [execOp, Instr.sliceAt, Instr.slice, run_underlying (isStrT_spec hs), hcx, run_bounds hr hlo hhi h1 h2]
theorem S_slice_fp {T : TypeId} {x : Operand} {cs : List V} (hx : ev ge st.tm x = .fp cs 0) (hn : arrLen P T = some cs.length) (hs : elemSz P T = 1) (hm : cs.length ≤ maxLen) :
    OpS P ge st ⟨d, .slice T x none none none, t, p, af, g⟩ (.vec (cs.map fun c => [c]) cs.length) st.h :=
  OpS_pure fun G a w hr => by
    have hvx := hr.ev x
    rw [hx] at hvx
    generalize hcx : a.eval x = cx at *
    cases hvx with
    | @fp _ _ _ k o hc ho hr' =>
      unfold arrLen at hn
      split at hn
      · rename_i n e hu
        cases hn
        have hse : szOf P e = 1 := by unfold elemSz at hs; rw [hu] at hs; exact hs
        refine ⟨.slice (some ⟨k, o, none⟩) cs.length cs.length, ?_, ?_⟩
        · have hadd : (⟨k, o + 0, none⟩ : Addr).add 0 = ⟨k, o, none⟩ := by unfold Addr.add; split <;> rfl
          simp only [execOp, hcx, Instr.sliceAt, Sem.run_bind, run_underlying hu, Result.andThen_ok, Instr.sureAddr, Instr.sliceBounds, Option.map_none, Sem.run_pure, run_sizeOf hse (by decide), Nat.zero_mul, Nat.sub_zero, hadd]
          split <;> rfl
        · have hget : ∀ (i : Nat) (y : List V) (j : Nat) (v : V), (cs.map fun c => [c])[i]? = some y → y[j]? = some v → j = 0 ∧ cs[i]? = some v := fun i y j v hy hv => by
            rw [List.getElem?_map] at hy
            obtain ⟨c, h1, rfl⟩ := Option.map_eq_some_iff.1 hy
            cases j with
            | zero => simp at hv; subst hv; exact ⟨rfl, h1⟩
            | succ j => simp at hv
          refine .vec (sz := 1) (by simp) (by simp) hm (fun i y hy => ?_) (fun i y j v hy hv => ?_) (fun i y j v hy hv => ?_) (fun i y j v hy hv => ?_)
          · rw [List.getElem?_map] at hy
            obtain ⟨c, h1, rfl⟩ := Option.map_eq_some_iff.1 hy; rfl
          · obtain ⟨rfl, h1⟩ := hget i y j v hy hv
            rw [Nat.mul_one, Nat.add_zero]; exact hc i v h1
          · obtain ⟨rfl, h1⟩ := hget i y j v hy hv
            rw [Nat.mul_one, Nat.add_zero]; exact ho i v h1
          · obtain ⟨rfl, h1⟩ := hget i y j v hy hv
            rw [Nat.mul_one, Nat.add_zero]; exact hr' i v h1
      · cases hn
theorem S_slice_vec {T : TypeId} {x : Operand} {lo hi : Option Operand} {xs : List (List V)} {len : Nat} (hs : isSliceT P T = true) (h0 : 0 < elemSz P T) (hx : ev ge st.tm x = .vec xs len) (hl : ∀ x ∈ xs, x.length = elemSz P T) (hlo : bndOk ge st.tm lo) (hhi : bndOk ge st.tm hi)
    (h1 : bndV ge st.tm lo 0 ≤ bndV ge st.tm hi len) (h2 : bndV ge st.tm hi len ≤ xs.length) :
    OpS P ge st ⟨d, .slice T x lo hi none, t, p, af, g⟩ (.vec (xs.drop (bndV ge st.tm lo 0)) (bndV ge st.tm hi len - bndV ge st.tm lo 0)) st.h :=
  OpS_pure fun G a w hr => by
    have hvx := hr.ev x
    rw [hx] at hvx
    obtain ⟨e, he, hee⟩ := isSliceT_spec hs
    rw [hee] at h0 hl
    generalize hL : bndV ge st.tm lo 0 = L at *
    generalize hH : bndV ge st.tm hi len = H at *
    generalize hcx : a.eval x = cx at *
    cases hvx with
    | @emp _ aa cap hcap =>
      simp at h2
      subst h2
      have hL0 : L = 0 := by omega
      subst hL0
      have hb := run_bounds (isS := true) (len := 0) (cap := cap) hr hlo hhi (by omega) (by omega)
      rw [hL, hH] at hb
      refine ⟨.slice (if cap = 0 then aa else aa.map (·.add (0 * szOf P e))) (0 - 0) (cap - 0), ?_, ?_⟩
      · simp only [execOp, Instr.sliceAt, Instr.slice, Sem.run_bind, run_underlying he, Result.andThen_ok, hcx]
        simp only [Option.map_none]
        rw [hb]
        simp [run_sizeOf rfl h0]
      · simp only [List.drop_nil, Nat.sub_zero]; exact .emp hcap
    | @vec fr xs' len' k o cap sz a1 a2 a3 hlen hc ho hr' =>
      have hb := run_bounds (isS := true) (len := len) (cap := cap) hr hlo hhi (by omega) (by omega)
      rw [hL, hH] at hb
      refine ⟨.slice (some (if cap = L then ⟨k, o, none⟩ else (⟨k, o, none⟩ : Addr).add (L * szOf P e))) (H - L) (cap - L), ?_, ?_⟩
      · simp only [execOp, Instr.sliceAt, Instr.slice, Sem.run_bind, run_underlying he, Result.andThen_ok, hcx]
        simp only [Option.map_none]
        rw [hb]
        by_cases hcl : cap = L
        · simp [run_sizeOf rfl h0, hcl]
        · simp [run_sizeOf rfl h0, hcl]
      · by_cases hcl : cap = L
        · rw [if_pos hcl]
          have e1 : H - L = 0 := by omega
          have e2 : xs.drop L = [] := List.drop_eq_nil_of_le (by omega)
          rw [e1, e2]; exact .emp (by omega)
        · rw [if_neg hcl, Addr.add_lit]
          by_cases hnil : xs.drop L = []
          · have e1 : H - L = 0 := by have := List.drop_eq_nil_iff.1 hnil; omega
            rw [hnil, e1]; exact .emp (by omega)
          · have hsz : sz = szOf P e := by
              have h5 : 0 < xs.length := by have := List.length_pos_iff.2 hnil; rw [List.length_drop] at this; omega
              rw [← hlen 0 _ (List.getElem?_eq_getElem h5), hl _ (List.getElem_mem h5)]
            subst hsz
            have hd : ∀ (i : Nat) (x : List V), (xs.drop L)[i]? = some x → xs[L + i]? = some x := fun i x hx => by rw [List.getElem?_drop] at hx; exact hx
            have haddr : ∀ i j, o + L * szOf P e + (i * szOf P e + j) = o + ((L + i) * szOf P e + j) := fun i j => by rw [Nat.add_mul]; omega
            refine .vec (sz := szOf P e) (by rw [List.length_drop]; omega) (by rw [List.length_drop]; omega) (by omega) (fun i x hx => hlen _ x (hd i x hx)) (fun i x j v hx hv => ?_) (fun i x j v hx hv => ?_) (fun i x j v hx hv => ?_)
            · rw [haddr]; exact hc _ x j v (hd i x hx) hv
            · rw [haddr]; exact ho _ x j v (hd i x hx) hv
            · rw [haddr]; exact hr' _ x j v (hd i x hx) hv
theorem S_slice_ref {T : TypeId} {x : Operand} {lo hi : Option Operand} {b gg off len : Nat} {T' : TypeId} {fzn : Nat} {flat : Bool} {xs : List (List V)} (hs : isSliceT P T = true) (hT : szOf P T' = elemSz P T) (hx : ev ge st.tm x = .ref b gg off len) (hb : st.h[b]? = some (.row T' gg fzn flat xs))
    (hlo : bndOk ge st.tm lo) (hhi : bndOk ge st.tm hi) (h1 : bndV ge st.tm lo 0 ≤ bndV ge st.tm hi len) (h2 : off + bndV ge st.tm hi len ≤ xs.length) (h3 : bndV ge st.tm lo 0 = 0 ∨ off + bndV ge st.tm lo 0 < xs.length) :
    OpS P ge st ⟨d, .slice T x lo hi none, t, p, af, g⟩ (.ref b gg (off + bndV ge st.tm lo 0) (bndV ge st.tm hi len - bndV ge st.tm lo 0)) st.h :=
  OpS_pure fun G a w hr => by
    have hvx := hr.ev x
    rw [hx] at hvx
    obtain ⟨e, he, hee⟩ := isSliceT_spec hs
    obtain ⟨h00, hfx, ⟨hsz0, hszT⟩, hrow⟩ := hr.rh.bl b _ hb
    have h0 : 0 < szOf P e := by rw [← hee, ← hT, ← hszT]; exact hsz0
    have hsze : szOf P e = G.sz b := by rw [hszT, hT, hee]
    generalize hL : bndV ge st.tm lo 0 = L at *
    generalize hH : bndV ge st.tm hi len = H at *
    generalize hcx : a.eval x = cx at *
    cases hvx with
    | @ref _ _ _ _ k hbn hg hm hle =>
      rcases hrow with ⟨hn, rfl⟩ | ⟨k2, arr, hm', hh, hfzk, hs', hl', hcm, hlen', hcells⟩
      · rw [hm] at hn; cases hn
      have hb' := run_bounds (isS := true) (len := len) (cap := G.cap b gg - off) hr hlo hhi (by omega) (by omega)
      rw [hL, hH] at hb'
      have hfin : (if G.cap b gg - off = L then (⟨k, off * G.sz b, none⟩ : Addr) else (⟨k, off * G.sz b, none⟩ : Addr).add (L * G.sz b)) = ⟨k, (off + L) * G.sz b, none⟩ := by
        split
        · rename_i hcl
          rcases h3 with h3 | h3
          · rw [h3, Nat.add_zero]
          · omega
        · rw [Addr.add_lit, Nat.add_mul]
      refine ⟨.slice (some ⟨k, (off + L) * G.sz b, none⟩) (H - L) (G.cap b gg - off - L), ?_, ?_⟩
      · simp only [execOp, Instr.sliceAt, Instr.slice, Sem.run_bind, run_underlying he, Result.andThen_ok, hcx]
        simp only [Option.map_none]
        rw [hb']
        rw [← hfin, ← hsze]
        by_cases hcl : G.cap b gg - off = L
        · simp [run_sizeOf rfl h0, hcl]
        · simp [run_sizeOf rfl h0, hcl]
      · have := R.ref (G := G) (w := w) (b := b) (g := gg) (off := off + L) (len := H - L) (k := k) hbn hg hm (by omega)
        rw [show G.cap b gg - off - L = G.cap b gg - (off + L) from by omega]
        exact this
    | refn hbn hg hm =>
      rcases hrow with ⟨hn, rfl⟩ | ⟨k2, arr, hm', _⟩
      · simp at h2
        have hL0 : L = 0 := by omega
        subst h2; subst hL0
        have hb' := run_bounds (isS := true) (len := 0) (cap := 0) hr hlo hhi (by omega) (by omega)
        rw [hL, hH] at hb'
        refine ⟨.slice none 0 0, ?_, .refn hbn hg hm⟩
        simp only [execOp, Instr.sliceAt, Instr.slice, Sem.run_bind, run_underlying he, Result.andThen_ok, hcx]
        simp only [Option.map_none]
        rw [hb']
        simp [run_sizeOf rfl h0]
      · rw [hm] at hm'; cases hm'
/-- A slice of a row that is empty: nobody sees where it lies. -/
theorem S_slice_ref_emp {T : TypeId} {x : Operand} {lo hi : Option Operand} {b gg off len : Nat} {T' : TypeId} {fzn : Nat} {flat : Bool} {xs : List (List V)} (hs : isSliceT P T = true) (hT : szOf P T' = elemSz P T) (hx : ev ge st.tm x = .ref b gg off len) (hb : st.h[b]? = some (.row T' gg fzn flat xs))
    (hlo : bndOk ge st.tm lo) (hhi : bndOk ge st.tm hi) (h1 : bndV ge st.tm lo 0 = bndV ge st.tm hi len) (h2 : off + bndV ge st.tm hi len ≤ xs.length) :
    OpS P ge st ⟨d, .slice T x lo hi none, t, p, af, g⟩ (.vec [] 0) st.h :=
  OpS_pure fun G a w hr => by
    have hvx := hr.ev x
    rw [hx] at hvx
    obtain ⟨e, he, hee⟩ := isSliceT_spec hs
    obtain ⟨h00, hfx, ⟨hsz0, hszT⟩, hrow⟩ := hr.rh.bl b _ hb
    have h0 : 0 < szOf P e := by rw [← hee, ← hT, ← hszT]; exact hsz0
    generalize hL : bndV ge st.tm lo 0 = L at *
    generalize hH : bndV ge st.tm hi len = H at *
    subst h1
    generalize hcx : a.eval x = cx at *
    cases hvx with
    | @ref _ _ _ _ k hbn hg hm hle =>
      rcases hrow with ⟨hn, rfl⟩ | ⟨k2, arr, hm', hh, hfzk, hs', hl', hcm, hlen', hcells⟩
      · rw [hm] at hn; cases hn
      have hb' := run_bounds (isS := true) (len := len) (cap := G.cap b gg - off) hr hlo hhi (by omega) (by omega)
      rw [hL, hH] at hb'
      refine ⟨.slice (some (if G.cap b gg - off = L then (⟨k, off * G.sz b, none⟩ : Addr) else (⟨k, off * G.sz b, none⟩ : Addr).add (L * szOf P e))) (L - L) (G.cap b gg - off - L), ?_, ?_⟩
      · simp only [execOp, Instr.sliceAt, Instr.slice, Sem.run_bind, run_underlying he, Result.andThen_ok, hcx]
        simp only [Option.map_none]
        rw [hb']
        by_cases hcl : G.cap b gg - off = L
        · simp [run_sizeOf rfl h0, hcl]
        · simp [run_sizeOf rfl h0, hcl]
      · rw [Nat.sub_self]
        exact .emp (by omega)
    | refn hbn hg hm =>
      rcases hrow with ⟨hn, rfl⟩ | ⟨k2, arr, hm', _⟩
      · simp at h2
        subst h2
        have hb' := run_bounds (isS := true) (len := 0) (cap := 0) hr hlo hhi (by omega) (by omega)
        rw [hL, hH] at hb'
        refine ⟨.slice none 0 0, ?_, .emp (Nat.zero_le _)⟩
        simp only [execOp, Instr.sliceAt, Instr.slice, Sem.run_bind, run_underlying he, Result.andThen_ok, hcx]
        simp only [Option.map_none]
        rw [hb']
        simp [run_sizeOf rfl h0]
      · rw [hm] at hm'; cases hm'
theorem Rep_view {a : Act} (hr : Rep P ge G st a w) {s b gg off len : Nat} {T : TypeId} {fzn : Nat} {xs : List (List V)} (hs : lk st.tm s = .ref b gg off len) (hb : st.h[b]? = some (.row T gg fzn true xs)) (hle : off + len ≤ xs.length) :
    ∃ G', Rep P ge G' { st with tm := (s, .vec (xs.drop off) len) :: st.tm, h := st.h.set b (.row T gg xs.length true xs) } a w ∧ Ext G st.h w G' (st.h.set b (.row T gg xs.length true xs)) w := by
  have hv := hr.tm s
  rw [hs] at hv
  obtain ⟨h00, hfx, ⟨hsz0, hszT⟩, hrow⟩ := hr.rh.bl b _ hb
  have hbl : b < st.h.length := (List.getElem?_eq_some_iff.1 hb).1
  have hsetget : ∀ {b' : Nat} {z : B}, (st.h.set b (.row T gg xs.length true xs))[b']? = some z → (b' = b ∧ z = .row T gg xs.length true xs) ∨ (b' ≠ b ∧ st.h[b']? = some z) := fun {b' z} hz => by
    rw [List.getElem?_set] at hz
    split at hz
    · rename_i e; subst e; first | (cases hz; exact .inl ⟨rfl, rfl⟩) | (rw [if_pos hbl] at hz; cases hz; exact .inl ⟨rfl, rfl⟩)
    · rename_i e; exact .inr ⟨fun e' => e e'.symm, hz⟩
  rcases hrow with ⟨hn, hnil⟩ | ⟨k, arr, hm, hh, hfzk, hs', hl', hcm, hlen', hcells⟩
  · -- the nil row
    have hxl : xs.length = fzn := by rw [hnil] at hfx ⊢; simp at hfx ⊢; omega
    rw [hxl]
    have hset : st.h.set b (.row T gg fzn true xs) = st.h := by
      apply List.ext_getElem?
      intro i
      rw [List.getElem?_set]
      split
      · rename_i e; subst e; simp [hbl]; exact ((List.getElem?_eq_some_iff.1 hb).2).symm
      · rfl
    rw [hset]
    refine ⟨G, ⟨hr.rh, fun t => ?_, hr.n, hr.d⟩, .refl _ _ _⟩
    simp only [lk]
    split
    · rename_i e
      subst e
      generalize hc : a.tmps.getD s undef = c at *
      have hx0 : xs.drop off = [] := by rw [hnil]; simp
      have hl0 : len = 0 := by rw [hnil] at hle; simp at hle; omega
      subst hl0
      rw [hx0]
      cases hv with
      | ref hbn hg hm hle => rw [hm] at hn; cases hn
      | refn => exact .emp (Nat.zero_le _)
    · exact hr.tm t
  · let fz2 : Nat → Nat := fun j => if j = k then xs.length * G.sz b else G.fz j
    have hk1 : G.fz k ≤ xs.length * G.sz b := Nat.le_trans hfzk (Nat.mul_le_mul_right _ hfx)
    have hfz : ∀ j, G.fz j ≤ fz2 j := fun j => by
      show G.fz j ≤ if j = k then xs.length * G.sz b else G.fz j
      split
      · rename_i e; subst e; exact hk1
      · exact Nat.le_refl _
    have le : GLe G w (G.withFz fz2) w := ⟨hfz, fun _ _ _ => rfl, Nat.le_refl _, fun _ _ => Nat.le_refl _, fun _ _ _ _ => rfl, fun _ _ => rfl, fun _ _ _ _ => rfl⟩
    have hklt : k < w.heap.size := (Array.getElem?_eq_some_iff.1 hh).1
    have atw : ∀ {b' : Nat} {z : B}, (G.withFz fz2).at b' z = G.at b' z := fun {b' z} => by cases z <;> rfl
    refine ⟨G.withFz fz2, ⟨⟨by rw [List.length_set]; exact hr.rh.n, ?_, ?_, ?_, fun g cs hg => (hr.rh.ge g cs hg).mono le⟩, fun t => ?_, hr.n, hr.d⟩, ⟨le, Nat.le_refl _, ?_, ?_, rfl, ⟨rfl, rfl⟩⟩⟩
    · intro b' z hz
      rcases hsetget hz with ⟨rfl, rfl⟩ | ⟨hne, hz⟩
      · refine ⟨h00, Nat.le_refl _, ⟨hsz0, hszT⟩, .inr ⟨k, arr, hm, hh, ?_, hs', hl', hcm, hlen', fun i x j v hx hv => ⟨(hcells i x j v hx hv).1, (hcells i x j v hx hv).2.fz hfz⟩⟩⟩
        show (if k = k then xs.length * G.sz b' else G.fz k) ≤ _
        rw [if_pos rfl]; exact Nat.le_refl _
      · refine RB.keep le (by have := (List.getElem?_eq_some_iff.1 hz).1; rw [hr.rh.n] at this; exact this) rfl (fun j hj => ⟨rfl, ?_⟩) (hr.rh.bl b' z hz)
        show (if j = k then xs.length * G.sz b else G.fz j) = G.fz j
        rw [if_neg]
        intro e; subst e
        exact hne (hr.rh.inj b' b z _ j hz hb hj (by simp only [Gh.at]; exact hm))
    · intro b1 b2 z1 z2 j h1 h2 e1 e2
      rw [atw] at e1 e2
      rcases hsetget h1 with ⟨rfl, rfl⟩ | ⟨n1, o1⟩ <;> rcases hsetget h2 with ⟨rfl, rfl⟩ | ⟨n2, o2⟩
      · rfl
      · exact hr.rh.inj _ _ _ _ _ hb o2 e1 e2
      · exact hr.rh.inj _ _ _ _ _ o1 hb e1 e2
      · exact hr.rh.inj _ _ _ _ _ o1 o2 e1 e2
    · intro j hj
      show (if j = k then xs.length * G.sz b else G.fz j) = 0
      rw [if_neg (by omega)]; exact hr.rh.fzlt j hj
    · simp only [lk]
      split
      · rename_i e
        subst e
        generalize hc : a.tmps.getD s undef = c at *
        cases hv with
        | @ref _ _ _ _ k' hbn hg hm' hle' =>
          rw [hm] at hm'; cases hm'
          by_cases hnil : xs.drop off = []
          · have hl0 : len = 0 := by have := List.drop_eq_nil_iff.1 hnil; omega
            subst hl0
            rw [hnil]; exact .emp (by omega)
          have hd : ∀ (i : Nat) (x : List V), (xs.drop off)[i]? = some x → xs[off + i]? = some x := fun i x hx => by rw [List.getElem?_drop] at hx; exact hx
          have haddr : ∀ i j, off * G.sz b + (i * G.sz b + j) = (off + i) * G.sz b + j := fun i j => by rw [Nat.add_mul]; omega
          have hone : ∀ (i : Nat) (x : List V) (j : Nat) (v : V), xs[off + i]? = some x → x[j]? = some v →
              ((w.cell? ⟨k, off * G.sz b + (i * G.sz b + j), none⟩).isSome = true ∧ off * G.sz b + (i * G.sz b + j) < (G.withFz fz2).fz k) ∧
              (cellD w k (off * G.sz b + (i * G.sz b + j))).oneCell' = true ∧ R G w true v (cellD w k (off * G.sz b + (i * G.sz b + j))) := fun i x j v hx hv => by
            rw [haddr]
            have h2 : off + i < xs.length := (List.getElem?_eq_some_iff.1 hx).1
            have h4 : j < G.sz b := by rw [← hlen' _ x hx]; exact (List.getElem?_eq_some_iff.1 hv).1
            have h5 : (off + i + 1) * G.sz b ≤ xs.length * G.sz b := Nat.mul_le_mul_right _ h2
            have h6 : xs.length * G.sz b ≤ G.cap b gg * G.sz b := Nat.mul_le_mul_right _ hl'
            rw [Nat.add_mul (off + i) 1] at h5
            have hj : (off + i) * G.sz b + j < arr.size := by rw [hs']; omega
            have hc := arr_cell hh hj
            have hdd : cellD w k ((off + i) * G.sz b + j) = arr.getD ((off + i) * G.sz b + j) undef := by unfold cellD; rw [hc]; rfl
            rw [hdd]
            refine ⟨⟨by rw [hc]; rfl, ?_⟩, (hcells _ x j v hx hv).1, (hcells _ x j v hx hv).2⟩
            show _ < if k = k then xs.length * G.sz b else G.fz k
            rw [if_pos rfl]; omega
          refine .vec (sz := G.sz b) (by rw [List.length_drop]; omega) (by rw [List.length_drop]; omega) (by omega) (fun i x hx => hlen' _ x (hd i x hx)) (fun i x j v hx hv => (hone i x j v (hd i x hx) hv).1)
            (fun i x j v hx hv => (hone i x j v (hd i x hx) hv).2.1) (fun i x j v hx hv => ?_)
          exact (hone i x j v (hd i x hx) hv).2.2.fz hfz
        | refn hbn hg hm' => rw [hm] at hm'; cases hm'
      · exact (hr.tm t).mono le
    · intro j hj hn
      refine ⟨rfl, ?_⟩
      show (if j = k then xs.length * G.sz b else G.fz j) = G.fz j
      rw [if_neg]
      intro e; subst e
      exact hn b _ hb (by simp only [Gh.at]; exact hm)
    · intro b' z j hz hj
      rw [atw] at hj
      rcases hsetget hz with ⟨rfl, rfl⟩ | ⟨_, hz⟩
      · exact .inr ⟨b', _, hb, hj⟩
      · exact .inr ⟨b', z, hz, hj⟩
theorem AS_view {ops : Array Oper} {l : List Oper} (s : Nat) {b gg off len : Nat} {T : TypeId} {fzn : Nat} {xs : List (List V)} (hs : lk st.tm s = .ref b gg off len) (hb : st.h[b]? = some (.row T gg fzn true xs)) (hle : off + len ≤ xs.length)
    (h : AS P ge ops l Q { st with tm := (s, .vec (xs.drop off) len) :: st.tm, h := st.h.set b (.row T gg xs.length true xs) }) : AS P ge ops l Q st := by
  intro G a w hr
  obtain ⟨G', hr', ext⟩ := Rep_view hr hs hb hle
  exact wpList_mono' (fun _ _ _ hp => hp.mono ext fun _ _ h => h) (h G' a w hr')
def gdst (ops : Array Oper) (j : Nat) : Option Tmp := (ops[j]?).bind (·.dst)
/-- Is what guards it there, as wanted. -/
def gB : V → Bool → Bool
  | .bool b, want => b == want
  | _, _ => false
def gOk : V → Bool
  | .bool _ | .void => true
  | _ => false
theorem gOk_spec {v : V} {c : Value} {fr : Bool} (h : gOk v = true) (hr : R G w fr v c) (want : Bool) : ((match (some c : Option Value) with | some (.bool b) => some b | _ => none) == some want) = gB v want := by
  cases hr <;> simp [gOk] at h
  · rfl
  · rfl
theorem wanted_spec {a : Act} (hr : Rep P ge G st a w) {ops : Array Oper} {o : Oper} {j dj : Nat} {want : Bool} (hg : o.guard = some (j, want)) (hdst : gdst ops j = some dj) (hdj : dj < st.n) (hok : gOk (lk st.tm dj) = true) :
    Region.wanted o (yielded ops a.tmps) = gB (lk st.tm dj) want := by
  have h1 := hr.tm dj
  have h2 : dj < a.tmps.size := by rw [hr.n]; exact hdj
  unfold Region.wanted
  rw [hg]
  simp only
  unfold yielded
  unfold gdst at hdst
  rw [hdst]
  simp only [Option.bind_some]
  rw [Array.getD_eq_getD_getElem?, Array.getElem?_eq_getElem h2] at h1
  rw [Array.getElem?_eq_getElem h2]
  exact gOk_spec hok h1 want
/-- A guarded operation that is wanted, or is not: as one without a guard, or nothing. -/
theorem AS_guard_cases {ops : Array Oper} {o : Oper} {rest : List Oper} {j dj : Nat} {want : Bool} (hg : o.guard = some (j, want)) (hdst : gdst ops j = some dj) (hdj : dj < st.n) (hok : gOk (lk st.tm dj) = true) (hd : dstOk st.n o.dst = true)
    (h1 : gB (lk st.tm dj) want = true → AS P ge ops ({ o with guard := none } :: rest) Q st)
    (h2 : gB (lk st.tm dj) want = false → AS P ge ops rest Q { st with tm := putD o.dst .void st.tm }) : AS P ge ops (o :: rest) Q st := by
  intro G a w hr
  have hw := wanted_spec hr hg hdst hdj hok
  unfold wpList
  generalize hgb : gB (lk st.tm dj) want = gb at *
  rw [hw]
  cases gb with
  | true =>
    simp only [if_true]
    have h3 := h1 rfl G a w hr
    unfold wpList at h3
    rw [if_pos (by simp [Region.wanted])] at h3
    exact h3
  | false =>
    simp only [Bool.false_eq_true, if_false]
    exact h2 rfl G _ w (hr.put (.refl _ _) hr.rh o.dst (dstOk_spec hd) .void)
end
end Go.AM
end
