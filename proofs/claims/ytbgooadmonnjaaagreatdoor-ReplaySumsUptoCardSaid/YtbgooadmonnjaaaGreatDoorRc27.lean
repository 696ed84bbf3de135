/-
  YtbgooadmonnjaaaGreatDoorRc27: steps of the proof of a law of the program: what these texts prove holds under the hypotheses that their theorems name, and no others.
-/
import Derived.Test.YtbgooadmonnjaaaGreatDoorRc19
import Derived.Test.YtbgooadmonnjaaaGreatDoorRc26
import Derived.Test.YtbgooadmonnjaaaGreatDoorRc08
import Derived.Test.YtbgooadmonnjaaaGreatDoorRc18
section
set_option linter.unusedVariables false
set_option linter.unusedSimpArgs false
namespace Go.AM
section
variable {P : Program} {ge : GEnv} {st : St} {Q : Exit → St → Prop} {G : Gh} {w : World}
/-- An empty row, laid ahead. -/
theorem AW_addrow {c : Code} (T : TypeId) (h0 : 0 < szOf P T) (h : AW P ge c Q { st with h := st.h ++ [.row T 0 0 true []] }) : AW P ge c Q st := by
  intro G a w hr
  have hk : ∀ k', (G.push none (szOf P T) 0).at G.n (.row T 0 0 true []) = some k' → w.heap.size ≤ k' := fun k' h => by
    simp [Gh.at, Gh.push] at h
  have hrb : RB P (G.push none (szOf P T) 0) w G.n (.row T 0 0 true []) := ⟨by simp [Gh.push], Nat.zero_le _, by simp [Gh.push, h0], .inl ⟨by simp [Gh.push], rfl⟩⟩
  have rh := hr.rh.push (.refl w) hrb hk
  have ext := Ext.push hr.rh (.refl w) hk
  have hr' : Rep P ge (G.push none (szOf P T) 0) { st with h := st.h ++ [.row T 0 0 true []] } a w := ⟨rh, fun t => (hr.tm t).mono ext.le, hr.n, hr.d⟩
  exact wp_mono (h _ a w hr') fun _ _ _ hp => hp.mono ext fun _ _ h => h
/-- A new row comes to a slot. -/
theorem OpS.slot {o : Oper} {e : TypeId} {n f g f0 b : Nat} {fl0 : Bool} {es : List (List V)} (hop : OpS P ge st o (.ref st.h.length 0 0 n) (st.h ++ [.row e 0 f true es])) (hb : st.h[b]? = some (.row e g f0 fl0 [])) :
    OpS P ge st o (.ref b (g + 1) 0 n) (st.h.set b (.row e (g + 1) f true es)) := by
  intro G a w hr
  obtain ⟨c, G', w', hrun, rh', hv, ext⟩ := hop G a w hr
  have hbl : b < st.h.length := (List.getElem?_eq_some_iff.1 hb).1
  have hcl := hr.rh.closed
  have hold : ∀ {b' : Nat} {z : B}, st.h[b']? = some z → (st.h ++ [B.row e 0 f true es])[b']? = some z := fun {b' z} hz => by
    rw [List.getElem?_append_left (List.getElem?_eq_some_iff.1 hz).1]; exact hz
  have hnew : (st.h ++ [B.row e 0 f true es])[st.h.length]? = some (.row e 0 f true es) := by simp
  obtain ⟨hgm, _, ⟨hz1, hz2⟩, _⟩ := rh'.bl b _ (hold hb)
  obtain ⟨hgm0, hfx, ⟨hs1, hs2⟩, hrow⟩ := rh'.bl _ _ hnew
  have hG0n : G.n = st.h.length := hr.rh.n.symm
  let G1 := G'.cut st.h.length
  let G2 := G1.bump b (G'.m st.h.length 0) (G'.cap st.h.length 0)
  have le12 : GLe G1 w' G2 w' := GLe.bump fun _ _ _ => rfl
  have g2m : ∀ b' g', b' ≠ b → G2.m b' g' = G'.m b' g' := fun b' g' hne => by
    show (if b' = b ∧ g' = G1.gm b + 1 then _ else G1.m b' g') = _
    rw [if_neg (fun h => hne h.1)]; rfl
  have g2mb : G2.m b (g + 1) = G'.m st.h.length 0 := by
    show (if b = b ∧ g + 1 = G1.gm b + 1 then _ else _) = _
    rw [if_pos ⟨rfl, by show g + 1 = G'.gm b + 1; rw [hgm]⟩]
  have g2cb : G2.cap b (g + 1) = G'.cap st.h.length 0 := by
    show (if b = b ∧ g + 1 = G1.gm b + 1 then _ else _) = _
    rw [if_pos ⟨rfl, by show g + 1 = G'.gm b + 1; rw [hgm]⟩]
  have g2gb : G2.gm b = g + 1 := by
    show (if b = b then G1.gm b + 1 else _) = _
    rw [if_pos rfl]; show G'.gm b + 1 = _; rw [hgm]
  have at2 : ∀ {b' : Nat} {z : B}, b' ≠ b → G2.at b' z = G'.at b' z := fun {b' z} hne => by
    cases z <;> simp only [Gh.at] <;> exact g2m _ _ hne
  have part : ∀ {b' : Nat} {z : B}, (st.h.set b (.row e (g + 1) f true es))[b']? = some z → (b' = b ∧ z = .row e (g + 1) f true es) ∨ (b' ≠ b ∧ st.h[b']? = some z) := fun {b' z} hz => by
    rw [List.getElem?_set] at hz
    split at hz
    · rename_i e; subst e; first | (cases hz; exact .inl ⟨rfl, rfl⟩) | (rw [if_pos hbl] at hz; cases hz; exact .inl ⟨rfl, rfl⟩)
    · rename_i e; exact .inr ⟨fun e' => e e'.symm, hz⟩
  have rh2 : RH P ge G2 (st.h.set b (.row e (g + 1) f true es)) w' := by
    refine ⟨by rw [List.length_set]; rfl, fun b' z hz => ?_, fun b1 b2 z1 z2 k h1 h2 e1 e2 => ?_, rh'.fzlt, fun g' cs hg => (rh'.ge g' cs hg).monoT (G' := G2) (fun k => Nat.le_refl (G'.fz k)) (fun _ _ _ => rfl) rfl⟩
    · rcases part hz with ⟨rfl, rfl⟩ | ⟨hne, hz⟩
      · refine ⟨g2gb, hfx, ⟨hz1, hz2⟩, ?_⟩
        have hsz : G'.sz b' = G'.sz st.h.length := by rw [hz2, hs2]
        rcases hrow with ⟨hn, rfl⟩ | ⟨k, arr, hm, hh, r1, r2, r3, r4, r5, hcells⟩
        · exact .inl ⟨g2mb.trans hn, rfl⟩
        · refine .inr ⟨k, arr, g2mb.trans hm, hh, ?_, ?_, ?_, ?_, ?_, ?_⟩
          · show G'.fz k ≤ f * G'.sz b'; rw [hsz]; exact r1
          · rw [g2cb]; show arr.size = _ * G'.sz b'; rw [hsz]; exact r2
          · rw [g2cb]; exact r3
          · rw [g2cb]; exact r4
          · intro i x hx; show x.length = G'.sz b'; rw [hsz]; exact r5 i x hx
          · intro i x j v hx hv
            show (arr.getD (i * G'.sz b' + j) undef).oneCell' = true ∧ R G2 w' true v (arr.getD (i * G'.sz b' + j) undef)
            rw [hsz]
            exact ⟨(hcells i x j v hx hv).1, (hcells i x j v hx hv).2.monoT (G' := G2) (fun k => Nat.le_refl (G'.fz k)) (fun _ _ _ => rfl) rfl⟩
      · have hlt : b' < st.h.length := (List.getElem?_eq_some_iff.1 hz).1
        have h1 := (rh'.bl b' z (hold hz)).cut (hcl z (List.mem_of_getElem? hz))
        refine RB.keep le12 hlt ?_ (fun k hk => ⟨rfl, rfl⟩) h1
        show (if b' = b then _ else G1.gm b') = _
        rw [if_neg hne]
    · rcases part h1 with ⟨rfl, rfl⟩ | ⟨n1, o1⟩ <;> rcases part h2 with ⟨rfl, rfl⟩ | ⟨n2, o2⟩
      · rfl
      · exfalso
        have e1' : G'.at st.h.length (.row e 0 f true es) = some k := g2mb.symm.trans e1
        rw [at2 n2] at e2
        have := rh'.inj _ _ _ _ k hnew (hold o2) e1' e2
        have := (List.getElem?_eq_some_iff.1 o2).1
        omega
      · exfalso
        have e2' : G'.at st.h.length (.row e 0 f true es) = some k := g2mb.symm.trans e2
        rw [at2 n1] at e1
        have := rh'.inj _ _ _ _ k hnew (hold o1) e2' e1
        have := (List.getElem?_eq_some_iff.1 o1).1
        omega
      · rw [at2 n1] at e1; rw [at2 n2] at e2
        exact rh'.inj _ _ _ _ k (hold o1) (hold o2) e1 e2
  refine ⟨c, G2, w', hrun, rh2, ?_, ⟨⟨ext.le.fz, ext.le.cells, ?_, ?_, ?_, ext.le.sz, ?_⟩, ext.size, ext.frame, ?_, ext.os, ext.out⟩⟩
  · generalize hcc : V.ref st.h.length 0 0 n = u at hv
    cases hv with
    | @ref b1 g1 off len k hb1 hg1 hm1 hl1 =>
      cases hcc
      have := R.ref (G := G2) (w := w') (b := b) (g := g + 1) (off := 0) (len := n) (k := k) (by show b < st.h.length; exact hbl) (by rw [g2gb]; exact Nat.le_refl _) (g2mb.trans hm1) (by rw [g2cb]; exact hl1)
      rw [g2cb] at this
      simpa using this
    | refn hb1 hg1 hm1 =>
      cases hcc
      exact .refn (by show b < st.h.length; exact hbl) (by rw [g2gb]; exact Nat.le_refl _) (g2mb.trans hm1)
    | _ => cases hcc
  · show G.n ≤ st.h.length; omega
  · intro b' hb'
    show G.gm b' ≤ if b' = b then G'.gm b + 1 else G'.gm b'
    have := ext.le.gm b' hb'
    split
    · rename_i e; subst e; omega
    · exact this
  · intro b' g' hb' hg'
    rw [← ext.le.m b' g' hb' hg']
    show (if b' = b ∧ g' = G'.gm b + 1 then _ else G'.m b' g') = _
    rw [if_neg]
    rintro ⟨rfl, rfl⟩
    have := ext.le.gm b' hb'
    omega
  · intro b' g' hb' hg'
    rw [← ext.le.cap b' g' hb' hg']
    show (if b' = b ∧ g' = G'.gm b + 1 then _ else G'.cap b' g') = _
    rw [if_neg]
    rintro ⟨rfl, rfl⟩
    have := ext.le.gm b' hb'
    omega
  · intro b' z k hz hk
    rcases part hz with ⟨rfl, rfl⟩ | ⟨hne, hz⟩
    · exact ext.fresh _ _ k hnew (show G'.at st.h.length (.row e 0 f true es) = some k from g2mb.symm.trans hk)
    · rw [at2 hne] at hk
      exact ext.fresh b' z k (hold hz) hk
variable {ops : Array Oper} {A : List Nat} {Stab : List Go.AM.B → Prop}
variable {k m i : Nat} {done : List Nat} {T : St}
/-- A step that makes a row, in a slot. -/
theorem ChS_slot (b : Nat) {o : Oper} {e : TypeId} {n f g f0 : Nat} {fl0 : Bool} {es : List (List V)} (ho : ops.toList[i]? = some o) (hg : o.guard = none) (hd : dstOk T.n o.dst = true) (hop : chainOp o.op = true) (hk : opOk P ge T o.op) (hv : opVal P ge T o.op = (.ref T.h.length 0 0 n, T.h ++ [.row e 0 f true es]))
    (hb : T.h[b]? = some (.row e g f0 fl0 [])) (hs : Stab (T.h.set b (.row e (g + 1) f true es)))
    (h : Ch P ge ops A Stab k Q m (i :: done) ⟨T.n, putD o.dst (.ref b (g + 1) 0 n) T.tm, T.h.set b (.row e (g + 1) f true es)⟩) : ChS P ge ops A Stab k Q m done T i := by
  refine ChS_gen ho hg hd (fun S hn hh hl => ?_) hs h
  obtain ⟨h1, h2⟩ := op_congrC hop hh hl hk
  have := opS_of_ok (P := P) (ge := ge) (st := S) (d := o.dst) (t := o.type) (p := o.pos) (af := o.after) (g := o.guard) h1
  rw [h2, hv, ← hh] at this
  rw [← hh]
  exact this.slot (by rw [hh]; exact hb)
theorem ChS_slotM (b : Nat) {d : Option Tmp} {T1 : TypeId} {x y : Operand} {t : TypeId} {p : String} {af : Array Edge} {e : TypeId} {n f g f0 : Nat} {fl0 : Bool} {es : List (List V)} (ho : ops.toList[i]? = some ⟨d, .makeSlice T1 x y, t, p, af, none⟩) (hd : dstOk T.n d = true) (hk : opOk P ge T (.makeSlice T1 x y)) (hv : opVal P ge T (.makeSlice T1 x y) = (.ref T.h.length 0 0 n, T.h ++ [.row e 0 f true es]))
    (hb : T.h[b]? = some (.row e g f0 fl0 [])) (hs : Stab (T.h.set b (.row e (g + 1) f true es)))
    (h : Ch P ge ops A Stab k Q m (i :: done) ⟨T.n, putD d (.ref b (g + 1) 0 n) T.tm, T.h.set b (.row e (g + 1) f true es)⟩) : ChS P ge ops A Stab k Q m done T i := by
  refine ChS_gen ho rfl hd (fun S hn hh hl => ?_) hs h
  have hx := hl x (by simp [Op.operands])
  have hy := hl y (by simp [Op.operands])
  have h1 : opOk P ge S (.makeSlice T1 x y) := by
    simp only [opOk] at hk ⊢
    rw [hx, hy]; exact hk
  have h2 : opVal P ge S (.makeSlice T1 x y) = (.ref S.h.length 0 0 n, S.h ++ [.row e 0 f true es]) := by
    rw [hh, ← hv]
    simp only [opVal]
    rw [hx, hh]
  have := opS_of_ok (P := P) (ge := ge) (st := S) (d := d) (t := t) (p := p) (af := af) (g := none) h1
  rw [h2] at this
  rw [← hh]
  exact this.slot (by rw [hh]; exact hb)
theorem Ch_4 (i j l r : Nat) (hr : (readyI A ops k done == [i, j, l, r]) = true) (hd : allDone A ops k done = false) (h : ChS P ge ops A Stab k Q m done T i) (h2 : ChS P ge ops A Stab k Q m done T j) (h3 : ChS P ge ops A Stab k Q m done T l) (h4 : ChS P ge ops A Stab k Q m done T r) : Ch P ge ops A Stab k Q (m + 1) done T := by
  rw [Ch, eq_of_beq hr]; exact ⟨fun h => (by rw [hd] at h; cases h), h, h2, h3, h4, trivial⟩
end
end Go.AM
end
section
set_option linter.unusedVariables false
set_option linter.unusedSimpArgs false
namespace Go.AM
section
variable {P : Program} {ge : GEnv} {st : St} {Q : Exit → St → Prop}
variable {d : Option Tmp} {t : TypeId} {p : String} {af : Array Edge} {gd : Option (Nat × Bool)}
theorem run_copy_rowN (w : World) (dT sT ty elem : TypeId) (g o dLen dCap : Nat) (a : Addr) (sLen sCap sz : Nat) (cur : Array Value) (t : TypeId) (cs : List Value)
    (hu : P.underlying dT = some (.slice elem)) (hs : (P.info? elem).map (·.size) = some sz)
    (hg : w.heap[g]? = some (.cells cur t (0, 0))) (hn : cs.length = Nat.min sLen dLen * sz)
    (hsrc : ∀ j v, cs[j]? = some v → w.cell? (a.add j) = some v) (hfit : o + cs.length ≤ cur.size) (h1 : ∀ v ∈ cs, v.oneCell' = true) :
    (Builtin.copy_ #[dT, sT] ty #[.slice (some ⟨g, o, none⟩) dLen dCap, .slice (some a) sLen sCap]).run P w =
      .ok (goInt (Nat.min sLen dLen)) (w.setRow g (cur.toList.take o ++ cs ++ cur.toList.drop (o + cs.length)).toArray) := by
  have hl := run_loadCells_list (P := P) w a cs hsrc
  have hst := run_storeCells_at P g o t cs 0 cur w hg (by simpa using hfit) h1
  cases hq : P.info? elem with
  | none => simp [hq] at hs
  | some i =>
    have hi : i.size = sz := by simpa [hq] using hs
    simp [Builtin.copy_, run_underlying hu, Builtin.lenOf, Builtin.firstCells, sizeOf, typeInfo, hq, hi, ← hn, hl, hst]
theorem run_copy_noneN (w : World) (dT sT ty elem : TypeId) (d a : Option Addr) (dLen dCap sLen sCap sz : Nat) (hu : P.underlying dT = some (.slice elem)) (hs : (P.info? elem).map (·.size) = some sz) (hn : Nat.min sLen dLen = 0) :
    (Builtin.copy_ #[dT, sT] ty #[.slice d dLen dCap, .slice a sLen sCap]).run P w = .ok (goInt 0) w := by
  cases hq : P.info? elem with
  | none => simp [hq] at hs
  | some i =>
    have hl : ∀ (x : Addr), (loadCells x 0).run P w = .ok #[] w := fun x => by simpa using run_loadCells_list (P := P) w x [] (by simp)
    cases d <;> cases a <;> simp [Builtin.copy_, run_underlying hu, Builtin.lenOf, Builtin.firstCells, sizeOf, typeInfo, hq, hn, storeCells, hl]
theorem info_szN {t : TypeId} {sz : Nat} (h0 : sz ≠ 0) (h : szOf P t = sz) : (P.info? t).map (·.size) = some sz := by
  unfold szOf at h
  cases hx : (P.info? t).map (·.size) with
  | none => rw [hx] at h; simp at h; exact absurd h.symm h0
  | some k => rw [hx] at h; simp at h; rw [h]
/-- What is copied: m elements of sz cells. -/
def SrcN (P : Program) (ge : GEnv) (st : St) (y : Operand) (len m sz : Nat) (zs : List (List V)) : Prop := ∀ G a w, Rep P ge G st a w → ∃ (ao : Option Addr) (sl sc : Nat) (cs : List Value), a.eval y = .slice ao sl sc ∧ Nat.min sl len = m ∧ cs.length = m * sz ∧
    (m ≠ 0 → ∃ ad, ao = some ad ∧ ∀ (j : Nat) (v : Value), cs[j]? = some v → w.cell? (ad.add j) = some v ∧ v.oneCell' = true) ∧
    ∀ (j : Nat) (z : List V), zs[j]? = some z → z.length = sz ∧ ∀ (q : Nat) (u : V), z[q]? = some u → ∃ c, cs[j * sz + q]? = some c ∧ R G w true u c
theorem pos_in {off m sz i j : Nat} (hj : j < sz) : (off * sz ≤ i * sz + j ∧ i * sz + j < off * sz + m * sz) ↔ (off ≤ i ∧ i < off + m) := by
  constructor
  · rintro ⟨h1, h2⟩
    constructor
    · rcases Nat.lt_or_ge i off with h | h
      · have := Nat.mul_le_mul_right sz (show i + 1 ≤ off by omega)
        rw [Nat.add_mul] at this; omega
      · exact h
    · rcases Nat.lt_or_ge i (off + m) with h | h
      · exact h
      · have := Nat.mul_le_mul_right sz h
        rw [Nat.add_mul] at this; omega
  · rintro ⟨h1, h2⟩
    have a1 := Nat.mul_le_mul_right sz h1
    have a2 := Nat.mul_le_mul_right sz (show i + 1 ≤ off + m by omega)
    rw [Nat.add_mul, Nat.add_mul] at a2
    omega
theorem S_copyN {T T2 e T0 : TypeId} {x y : Operand} {ts : Array TypeId} {b g off len m sz : Nat} {xs zs : List (List V)} (hts : ts = #[T, T2]) (hu : P.underlying T = some (.slice e)) (hs : (P.info? e).map (·.size) = some sz) (h0 : 0 < sz)
    (hx : ev ge st.tm x = .ref b g off len) (hb : st.h[b]? = some (.row T0 g 0 true xs)) (hlen : off + len ≤ xs.length) (h1 : szOf P T0 = sz) (hzl : zs.length = m) (hml : m ≤ len) (hsrc : SrcN P ge st y len m sz zs) :
    OpS P ge st ⟨d, .call { callee := .builtin .copy, args := #[x, y], argTypes := ts }, t, p, af, gd⟩ (.int .i64 m) (st.h.set b (.row T0 g 0 true (xs.take off ++ zs ++ xs.drop (off + m)))) := by
  intro G a w hr
  have hvx := hr.ev x
  rw [hx] at hvx
  obtain ⟨ao, sl, sc, cs, hcy, hmin, hcl, hcell, hval⟩ := hsrc G a w hr
  obtain ⟨q1, q2, q3, hrow⟩ := hr.rh.bl b _ hb
  have hsz : G.sz b = sz := q3.2.trans h1
  subst hzl
  have hrunx : ∀ (cx : Value) (r : Value) (w' : World), a.eval x = cx → (Builtin.copy_ #[T, T2] t #[cx, .slice ao sl sc]).run P w = .ok r w' →
      (execOp a.eval ⟨d, .call { callee := .builtin .copy, args := #[x, y], argTypes := ts }, t, p, af, gd⟩).run P w = .ok (.value r) w' := fun cx r w' hc h => by
    subst hts
    simp [execOp, resolve, invoke, builtin, hc, hcy, h]
  by_cases hm0 : zs.length = 0
  · have hz : zs = [] := List.eq_nil_of_length_eq_zero hm0
    subst hz
    have hsame : st.h.set b (.row T0 g 0 true (xs.take off ++ [] ++ xs.drop (off + ([] : List (List V)).length))) = st.h := by
      simp
      obtain ⟨h5, h6⟩ := List.getElem?_eq_some_iff.1 hb
      rw [← h6]; simp
    rw [hsame]
    generalize hcx : a.eval x = cx at hvx
    have hfin : ∀ dd lc, cx = .slice dd len lc → ∃ c G' w', ((execOp a.eval ⟨d, .call { callee := .builtin .copy, args := #[x, y], argTypes := ts }, t, p, af, gd⟩).run P w = .ok (.value c) w' ∨ ((execOp a.eval ⟨d, .call { callee := .builtin .copy, args := #[x, y], argTypes := ts }, t, p, af, gd⟩).run P w = .ok .skip w' ∧ c = undef)) ∧ RH P ge G' st.h w' ∧ R G' w' false (.int .i64 (([] : List (List V)).length : Nat)) c ∧ Ext G st.h w G' st.h w' := fun dd lc e => by
      subst e
      exact ⟨goInt 0, G, w, .inl (hrunx _ _ _ hcx (run_copy_noneN w T T2 t _ dd ao len lc sl sc sz hu hs hmin)), hr.rh, .int, .refl _ _ _⟩
    cases hvx with
    | refn hb' hg' hm' => exact hfin _ _ rfl
    | ref hb' hg' hm' hle => exact hfin _ _ rfl
  · obtain ⟨ad, rfl, hcell2⟩ := hcell hm0
    generalize hcx : a.eval x = cx at hvx
    cases hvx with
    | refn hb' hg' hm' => exact absurd (Nat.le_zero.1 hml) hm0
    | @ref _ _ _ _ k hb' hg' hm' hle =>
      rcases hrow with ⟨hn, hnil⟩ | ⟨k', arr, hm2, hh, r1, r2, r3, r4, r5, r6⟩
      · rw [hm'] at hn; cases hn
      rw [hm'] at hm2; cases hm2
      rw [hsz] at r2 hcx
      have hfz : G.fz k = 0 := by rw [Nat.zero_mul] at r1; omega
      have hone : ∀ v ∈ cs, v.oneCell' = true := fun v hv => by
        obtain ⟨j, hj⟩ := List.getElem?_of_mem hv
        exact (hcell2 j v hj).2
      have hfit : off * sz + cs.length ≤ arr.size := by
        have := Nat.mul_le_mul_right sz (show off + zs.length ≤ G.cap b g by omega)
        rw [Nat.add_mul] at this
        omega
      have hrun := run_copy_rowN (P := P) w T T2 t e k (off * sz) len (G.cap b g - off) ad sl sc sz arr T0 cs hu hs hh (by rw [hcl, hmin]) (fun j v h => (hcell2 j v h).1) hfit hone
      rw [hmin] at hrun
      generalize hnew : (arr.toList.take (off * sz) ++ cs ++ arr.toList.drop (off * sz + cs.length)).toArray = new at hrun
      have hget : ∀ j, new.getD j undef = if off * sz ≤ j ∧ j < off * sz + cs.length then cs.getD (j - off * sz) undef else arr.getD j undef := fun j => by
        rw [toList_getD, ← hnew, List.toList_toArray, spl_get (by simpa using hfit)]
        split
        · simp [List.getD]
        · rw [toList_getD]
      have hnsz : new.size = arr.size := by rw [← hnew]; simp; omega
      have le : GLe G w G (w.setRow k new) := ⟨fun _ => Nat.le_refl _, fun k' o ho => by
        have : k' ≠ k := fun e => by rw [e, hfz] at ho; omega
        exact cell_eq (setRow_other w k k' new this), Nat.le_refl _, fun _ _ => Nat.le_refl _, fun _ _ _ _ => rfl, fun _ _ => rfl, fun _ _ _ _ => rfl⟩
      have hx' : ∀ i x, (xs.take off ++ zs ++ xs.drop (off + zs.length))[i]? = some x → (off ≤ i ∧ i < off + zs.length ∧ zs[i - off]? = some x) ∨ (¬(off ≤ i ∧ i < off + zs.length) ∧ xs[i]? = some x) := fun i x hx => by
        rw [spl_get (by omega)] at hx
        by_cases h : off ≤ i ∧ i < off + zs.length
        · rw [if_pos h] at hx; exact .inl ⟨h.1, h.2, hx⟩
        · rw [if_neg h] at hx; exact .inr ⟨h, hx⟩
      have hup := RH_upd (w' := w.setRow k new) hr.rh hb hm' (setRow_size w k new) (fun k' hk' => setRow_other w k k' new hk') rfl ⟨rfl, rfl⟩ le (y := .row T0 g 0 true (xs.take off ++ zs ++ xs.drop (off + zs.length)))
        ⟨q1, Nat.zero_le _, q3, .inr ⟨k, new, hm', setRow_heap w k arr new T0 _ hh, by rw [hfz]; exact Nat.zero_le _, by rw [hnsz, hsz, r2], by rw [spl_len (by omega)]; exact r3, r4, fun i x hx => by
          rcases hx' i x hx with ⟨h2, h3, h4⟩ | ⟨h2, h4⟩
          · rw [hsz]; exact (hval _ _ h4).1
          · exact r5 i x h4, fun i x j v hx hv => by
          rw [hsz]
          rcases hx' i x hx with ⟨h2, h3, h4⟩ | ⟨h2, h4⟩
          · obtain ⟨k1, k2⟩ := hval _ _ h4
            have hj : j < sz := by rw [← k1]; exact (List.getElem?_eq_some_iff.1 hv).1
            obtain ⟨c, h6, h7⟩ := k2 j v hv
            have hgd := hget (i * sz + j)
            rw [hcl, if_pos ((pos_in hj).2 ⟨h2, h3⟩)] at hgd
            have e1 : i * sz + j - off * sz = (i - off) * sz + j := by
              have := Nat.sub_mul i off sz
              have := Nat.mul_le_mul_right sz h2
              omega
            rw [e1] at hgd
            have e2 : cs.getD ((i - off) * sz + j) undef = c := by simp [List.getD, h6]
            rw [hgd, e2]
            exact ⟨(hcell2 _ _ h6).2, h7.mono le⟩
          · have hl := r5 i x h4
            rw [hsz] at hl
            have hj : j < sz := by rw [← hl]; exact (List.getElem?_eq_some_iff.1 hv).1
            have h8 := r6 i x j v h4 hv
            rw [hsz] at h8
            have hgd := hget (i * sz + j)
            rw [hcl, if_neg (fun h => h2 ((pos_in hj).1 h))] at hgd
            rw [hgd]
            exact ⟨h8.1, h8.2.mono le⟩⟩⟩ hm'
      exact ⟨goInt zs.length, G, w.setRow k new, .inl (hrunx _ _ _ hcx hrun), hup.1, .int, hup.2⟩
theorem addr_add' (k o j : Nat) : (⟨k, o, none⟩ : Addr).add j = ⟨k, o + j, none⟩ := by unfold Addr.add; split <;> simp_all
/-- A frozen slice. -/
theorem srcN_vec {y : Operand} {ys : List (List V)} {yl len m sz : Nat} (hy : ev ge st.tm y = .vec ys yl) (h0 : 0 < sz) (h1 : ∀ z ∈ ys, z.length = sz) (hm : Nat.min yl len = m) (hyl : yl ≤ ys.length) : SrcN P ge st y len m sz (ys.take m) := by
  intro G a w hr
  have hv := hr.ev y
  rw [hy] at hv
  have hmy : m ≤ yl := by rw [← hm]; exact Nat.min_le_left _ _
  generalize hcy : a.eval y = cy at hv
  cases hv with
  | @emp _ a' cap hcap =>
    have : m = 0 := by omega
    subst this
    exact ⟨a', 0, cap, [], rfl, hm, by simp, fun h => absurd rfl h, fun j z hz => by simp at hz⟩
  | @vec _ _ _ k o cap sz' g1 g2 g3 hl hc ho hR =>
    by_cases hm0 : m = 0
    · subst hm0
      exact ⟨_, _, _, [], rfl, hm, by simp, fun h => absurd rfl h, fun j z hz => by simp at hz⟩
    have hyp : 0 < ys.length := by omega
    have hsz : sz' = sz := by rw [← hl 0 _ (List.getElem?_eq_getElem hyp)]; exact h1 _ (List.getElem_mem hyp)
    subst hsz
    have hat : ∀ i q, i < m → q < sz' → ∃ z u, ys[i]? = some z ∧ z[q]? = some u ∧ w.cell? ⟨k, o + (i * sz' + q), none⟩ = some (cellD w k (o + (i * sz' + q))) ∧ (cellD w k (o + (i * sz' + q))).oneCell' = true ∧ R G w true u (cellD w k (o + (i * sz' + q))) := fun i q hi hq => by
      have hil : i < ys.length := by omega
      have e := List.getElem?_eq_getElem hil
      have hz1 := h1 _ (List.getElem_mem hil)
      have e2 : ys[i][q]? = some (ys[i][q]'(by omega)) := List.getElem?_eq_getElem (by omega)
      have q1 := hc i _ q _ e e2
      refine ⟨_, _, e, e2, ?_, ho i _ q _ e e2, hR i _ q _ e e2⟩
      unfold cellD
      cases hcc : w.cell? ⟨k, o + (i * sz' + q), none⟩ with
      | none => rw [hcc] at q1; simp at q1
      | some x => rfl
    refine ⟨some ⟨k, o, none⟩, yl, cap, (List.range (m * sz')).map fun j => cellD w k (o + j), rfl, hm, by simp, fun _ => ⟨⟨k, o, none⟩, rfl, fun j v hj => ?_⟩, fun j z hz => ?_⟩
    · have hjm : j < m * sz' := by have := (List.getElem?_eq_some_iff.1 hj).1; simpa using this
      simp [hjm] at hj; subst hj
      have hi : j / sz' < m := Nat.div_lt_of_lt_mul (by rw [Nat.mul_comm]; exact hjm)
      have hq : j % sz' < sz' := Nat.mod_lt _ h0
      obtain ⟨_, _, _, _, q1, q2, _⟩ := hat (j / sz') (j % sz') hi hq
      have e : j / sz' * sz' + j % sz' = j := by rw [Nat.mul_comm]; exact Nat.div_add_mod j sz'
      rw [e] at q1 q2
      rw [addr_add']; exact ⟨q1, q2⟩
    · have hjm : j < m := by have := (List.getElem?_eq_some_iff.1 hz).1; simp at this; omega
      rw [List.getElem?_take_of_lt hjm] at hz
      have hzl := h1 z (List.mem_of_getElem? hz)
      refine ⟨hzl, fun q u hu => ?_⟩
      have hq : q < sz' := by rw [← hzl]; exact (List.getElem?_eq_some_iff.1 hu).1
      obtain ⟨z', u', q0, q0', q1, q2, q3⟩ := hat j q hjm hq
      rw [q0] at hz; cases hz
      rw [q0'] at hu; cases hu
      refine ⟨_, ?_, q3⟩
      have : j * sz' + q < m * sz' := by
        have := Nat.mul_le_mul_right sz' (show j + 1 ≤ m by omega)
        rw [Nat.add_mul] at this; omega
      simp [this]
/-- A row of one's own. -/
theorem srcN_own {y : Operand} {b g off yl len m f sz : Nat} {T0 : TypeId} {xs : List (List V)} (hy : ev ge st.tm y = .ref b g off yl) (hb : st.h[b]? = some (.row T0 g f true xs)) (hle : off + yl ≤ xs.length) (h0 : 0 < sz) (h1 : szOf P T0 = sz) (hm : Nat.min yl len = m) : SrcN P ge st y len m sz ((xs.drop off).take m) := by
  intro G a w hr
  have hv := hr.ev y
  rw [hy] at hv
  have hmy : m ≤ yl := by rw [← hm]; exact Nat.min_le_left _ _
  obtain ⟨q1, q2, q3, hrow⟩ := hr.rh.bl b _ hb
  have hsz : G.sz b = sz := q3.2.trans h1
  generalize hcy : a.eval y = cy at hv
  cases hv with
  | refn hb' hg' hm' =>
    have : m = 0 := by omega
    subst this
    exact ⟨none, 0, 0, [], rfl, hm, by simp, fun h => absurd rfl h, fun j z hz => by simp at hz⟩
  | @ref _ _ _ _ k hb' hg' hm' hle' =>
    rcases hrow with ⟨hn, hnil⟩ | ⟨k', arr, hm2, hh, r1, r2, r3, r4, r5, r6⟩
    · rw [hm'] at hn; cases hn
    rw [hm'] at hm2; cases hm2
    rw [hsz] at r2
    have hat : ∀ i q, i < m → q < sz → ∃ z u, xs[off + i]? = some z ∧ z[q]? = some u ∧ w.cell? ⟨k, off * sz + (i * sz + q), none⟩ = some (arr.getD (off * sz + (i * sz + q)) undef) ∧ (arr.getD (off * sz + (i * sz + q)) undef).oneCell' = true ∧ R G w true u (arr.getD (off * sz + (i * sz + q)) undef) := fun i q hi hq => by
      have hil : off + i < xs.length := by omega
      have e := List.getElem?_eq_getElem hil
      have hz1 := r5 _ _ e
      rw [hsz] at hz1
      have e2 : xs[off + i][q]? = some (xs[off + i][q]'(by omega)) := List.getElem?_eq_getElem (by omega)
      have q := r6 _ _ q _ e e2
      have e3 : (off + i) * sz = off * sz + i * sz := Nat.add_mul _ _ _
      rw [hsz, e3, Nat.add_assoc] at q
      refine ⟨_, _, e, e2, arr_cell hh ?_, q.1, q.2⟩
      have := Nat.mul_le_mul_right sz (show off + i + 1 ≤ G.cap b g by omega)
      rw [Nat.add_mul, e3] at this
      omega
    refine ⟨some ⟨k, off * G.sz b, none⟩, yl, _, (List.range (m * sz)).map fun j => arr.getD (off * sz + j) undef, rfl, hm, by simp, fun _ => ⟨_, rfl, fun j v hj => ?_⟩, fun j z hz => ?_⟩
    · have hjm : j < m * sz := by have := (List.getElem?_eq_some_iff.1 hj).1; simpa using this
      have hj' : arr.getD (off * sz + j) undef = v := by
        rw [List.getElem?_map, List.getElem?_range hjm] at hj
        simpa using hj
      have hi : j / sz < m := Nat.div_lt_of_lt_mul (by rw [Nat.mul_comm]; exact hjm)
      have hq : j % sz < sz := Nat.mod_lt _ h0
      obtain ⟨_, _, _, _, q1, q2, _⟩ := hat (j / sz) (j % sz) hi hq
      have e : j / sz * sz + j % sz = j := by rw [Nat.mul_comm]; exact Nat.div_add_mod j sz
      rw [e] at q1 q2
      rw [hsz, addr_add', ← hj']; exact ⟨q1, q2⟩
    · have hjm : j < m := by have := (List.getElem?_eq_some_iff.1 hz).1; simp at this; omega
      rw [List.getElem?_take_of_lt hjm, List.getElem?_drop] at hz
      have hzl := r5 _ z hz
      rw [hsz] at hzl
      refine ⟨hzl, fun q u hu => ?_⟩
      have hq : q < sz := by rw [← hzl]; exact (List.getElem?_eq_some_iff.1 hu).1
      obtain ⟨z', u', q0, q0', q1, q2, q3⟩ := hat j q hjm hq
      rw [q0] at hz; cases hz
      rw [q0'] at hu; cases hu
      refine ⟨_, ?_, q3⟩
      have : j * sz + q < m * sz := by
        have := Nat.mul_le_mul_right sz (show j + 1 ≤ m by omega)
        rw [Nat.add_mul] at this; omega
      rw [List.getElem?_map, List.getElem?_range this]
      rfl
end
end Go.AM
end
