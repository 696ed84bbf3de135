/-
  YtgmlimipejcpgaaDoorCb04: steps of the proof of a law of the program: what these texts prove holds under the hypotheses that their theorems name, and no others.
-/
import Derived.Test.YtgmlimipejcpgaaDoorCb03
section
set_option linter.unusedVariables false
set_option linter.unusedSimpArgs false
namespace Go.Proofs.YtgmlimipejcpgaaDoor
open Go Go.AM Fx
def rowsB (i : Nat) (l : List AutoD) (T : List (Nat × Nat)) : List (List V) := (l.take i).map bareAc ++ rowsA (l.drop i) (T.drop i)
section
variable {l : List AutoD} {T : List (Nat × Nat)} {i : Nat}
theorem rowsB_len (hT : T.length = l.length) : (rowsB i l T).length = l.length := by simp [rowsB, rowsA, hT]; omega
theorem rowsB_0 : rowsB 0 l T = rowsA l T := by simp [rowsB]
theorem rowsB_all : rowsB l.length l T = l.map bareAc := by simp [rowsB, rowsA]
theorem rowsB_get {a : AutoD} {t : Nat × Nat} (ha : l[i]? = some a) (ht : T[i]? = some t) : (rowsB i l T)[i]? = some (refA t a) := by
  have hk := (List.getElem?_eq_some_iff.1 ha).1
  unfold rowsB
  rw [List.getElem?_append_right (by simp; omega)]
  refine rowsA_get ?_ ?_
  · simp [ha, Nat.min_eq_left (Nat.le_of_lt hk)]
  · simp [ht, Nat.min_eq_left (Nat.le_of_lt hk)]
theorem rowsB_set {a : AutoD} (ha : l[i]? = some a) (hT : T.length = l.length) : (rowsB i l T).set i (bareAc a) = rowsB (i + 1) l T := by
  have hk := (List.getElem?_eq_some_iff.1 ha).1
  apply List.ext_getElem?
  intro j
  rw [List.getElem?_set]
  by_cases e : i = j
  · subst e
    rw [if_pos rfl, if_pos (by rw [rowsB_len hT]; exact hk)]
    unfold rowsB
    rw [List.getElem?_append_left (by simp; omega)]
    simp [ha]
  · rw [if_neg e]
    unfold rowsB
    rcases Nat.lt_or_ge j i with h | h
    · rw [List.getElem?_append_left (by simp; omega), List.getElem?_append_left (by simp; omega)]
      simp [List.getElem?_take, h, Nat.lt_succ_of_lt h]
    · rw [List.getElem?_append_right (by simp; omega), List.getElem?_append_right (by simp; omega)]
      unfold rowsA
      rw [List.getElem?_zipWith, List.getElem?_zipWith]
      simp only [List.length_map, List.length_take, List.getElem?_drop]
      rw [show i + (j - min i l.length) = i + 1 + (j - min (i + 1) l.length) by omega]
end
/-- While a copy is made bare. -/
structure BZ (l : List AutoD) (T : List (Nat × Nat)) (b g q : Nat) (fl : Bool) (C0 C1 C2 : V) (i : Nat) (hc : List B) : Prop where
  hl : HL hc
  len : hc.length = q + 1
  v : hc[q]? = some (.var [C0, C1, C2, .ref b g 0 l.length])
  row : hc[b]? = some (.row 41 g 0 fl (rowsB i l T))
  rest : ∀ (j : Nat) (a : AutoD) (t : Nat × Nat), i ≤ j → l[j]? = some a → T[j]? = some t → hc[t.1]? = some (.row 45 0 0 true (a.locs.map LocD.cells)) ∧ hc[t.2]? = some (.row 49 0 0 true (a.edges.map EdgeD.cells))
theorem set_sameB {h : List B} {i : Nat} {x : B} (e : h[i]? = some x) : h.set i x = h := by
  apply List.ext_getElem?
  intro j
  rw [List.getElem?_set]
  by_cases hj : i = j
  · subst hj; rw [if_pos rfl, if_pos (List.getElem?_eq_some_iff.1 e).1, e]
  · rw [if_neg hj]
theorem AW_bare {c : Code} {Q : Exit → St → Prop} {st : St} (hl : HL st.h) {b g q j len : Nat} {fl : Bool} {rows : List (List V)} {cs : List V} (hr : st.h[b]? = some (.row 41 g 0 fl rows)) (hF : ∀ x ∈ rows, ∀ v ∈ x, V.isF v = true) (hv : st.h[q]? = some (.var cs)) (hj : cs[j]? = some (.ref b g 0 len)) (hle : len ≤ rows.length)
    (h : ∀ h', HL h' → h'[q]? = some (.var (cs.set j (.vec rows len))) → AW Tryd.prog GV c Q { st with h := h' }) : AW Tryd.prog GV c Q st := by
  have hne : b ≠ q := fun e => by rw [e, hv] at hr; cases hr
  have fin : ∀ (st : St), HL st.h → st.h[b]? = some (.row 41 g 0 true rows) → st.h[q]? = some (.var cs) → (∀ h', HL h' → h'[q]? = some (.var (cs.set j (.vec rows len))) → AW Tryd.prog GV c Q { st with h := h' }) → AW Tryd.prog GV c Q st := fun st hl hr hv h => by
    refine AW_viewcell q j hv hj hr (by omega) (h _ ?_ ?_)
    · refine (hl.set rowF_lt).set ?_
      have hvl := hl.get hv
      show V.lts _ _ = true
      rw [List.length_set]
      exact lts_set hvl rfl
    · rw [get_set_eq (z := .var cs) (by rw [gN hne]; exact hv)]; simp
  cases fl with
  | true => exact fin st hl hr hv h
  | false => exact AW_flat b hr hF (fin _ (hl.set rowF_lt) (get_set_eq hr) (by show (st.h.set b _)[q]? = _; rw [gN hne]; exact hv) h)
theorem AW_heap {c : Code} {Q : Exit → St → Prop} {st : St} {h' : List B} (e : st.h = h') (h : AW Tryd.prog GV c Q { st with h := h' }) : AW Tryd.prog GV c Q st := by subst e; exact h
structure BS where
  i : Nat
  hc : List B
set_option maxRecDepth 40000 in
set_option maxHeartbeats 32000000 in
theorem c_CheckBare (n : NetD) (hn : n.ok) : PC 4 [.agg n.cells] (.bool true) := by
  have hal := hn.2.2.2.1
  have hok := hn.2.2.2.2
  have hH0 : HL [B.var n.cells] := by simp [HL, NetD.cells, vl]
  have hcp := g_Copy n hn hH0
  have m1 := PCall.dn (c_Net (bareW n) (bareW_ok hn)) (dn_bareW n)
  have m2 := PCall.dn (c_Whole (bareW n) (bareW_ok hn)) (dn_bareW n)
  have dn2 : V.dns [.agg (bareWc n), .nils] = [.agg (bareW n).cells, gsV []] := by
    have := dn_bareW n
    simp only [V.dns, List.cons.injEq, and_true] at this
    simp only [V.dns, this]; rfl
  have m3 := PCall.dn (c_MaxF (bareW n) (bareW_ok hn) [] (by simp) (fun g hg => by simp at hg)) dn2
  have m4 := PCall.dn (PCall.freeze (T := 3) (xs := []) (by
    have := c_Kept (bareW n) (bareW_ok hn) [] (by simp) (fun g hg => by simp at hg)
    rw [bare_numb] at this
    by_cases hw : wholeE (bareW n) ≠ 0
    · rw [if_pos hw] at this; exact this
    · rw [if_neg hw] at this
      simp only [keptO, kept_none, List.map_nil] at this
      exact this)) dn2
  rw [bare_net] at m1
  rw [bare_numb] at m3
  have m5 := c_live12
  obtain ⟨L, hL, hL1, hL2, hL3⟩ : ∃ L, numO (if wholeE (bareW n) ≠ 0 then none else some (List.replicate n.clocks.length (-1))) = L ∧ L.length ≤ 1048576 ∧ (∀ x ∈ L, x = -1) ∧ (wholeE (bareW n) = 0 → L.length = n.clocks.length) := by
    refine ⟨_, rfl, ?_, ?_, ?_⟩
    · split
      · simp [numO]
      · simpa [numO] using hn.1.1
    · split
      · simp [numO]
      · intro x hx; exact (List.mem_replicate.1 hx).2
    · intro h; rw [if_neg (by simp [h])]; simp [numO]
  rw [hL] at m3
  clear hL
  generalize wholeE (bareW n) = w at *
  have q1 : ∀ {h1 : List B}, Old [B.var n.cells] h1 → h1[0]? = some (B.var n.cells) ∧ 1 ≤ h1.length := fun ho => ⟨ho.get rfl, by simpa using ho.len⟩
  simp only [bareWc, vl, NetD.cells, isV] at m1 m2 m3 m4 hcp q1 ⊢
  refine pB Tryd.func4 rfl (by decide) Tryd.ntmps4 (by simp) Tryd.results4 ?_
  repeat' (first
 |refine aK fun K hK=>?_|refine Step.by1 ?_|refine sE (by decide) ?_|refine cz rfl ?_|refine Fork.by2 (fun h=>?_) fun h=>?_
 |(refine aR ?_;simp [vl, NetD.cells])
 |(refine Split.by2 (fun h=>?_) (fun h=>?_)<;>(simp [h, vl, NetD.cells]))
 |(apply hK;clear hK K)|refine AWh ‹_› ?_)
  refine aG (f := 8) rfl rfl hcp rfl (fun v h1 hq => ?_)
  obtain ⟨b, g, fl, T, rfl, ho, hp⟩ := hq
  obtain ⟨z0, hl1⟩ := q1 ho
  have hp : AT 1 h1 b g fl n.autos T := hp
  have hbl := hp.b_lt
  have g0 := fun x : List B => ga0 (h := h1) (x := x) rfl
  have s0 := fun (x : List B) (y : B) => sa0 (h := h1) (x := x) (y := y) rfl
  simp [g0, s0]
  repeat' (first
 |refine aK fun K hK=>?_|refine Step.by1 ?_|refine sE (by decide) ?_|refine cz rfl ?_|refine Fork.by2 (fun h=>?_) fun h=>?_
 |(refine aR ?_;simp [g0, s0])
 |(refine Split.by2 (fun h=>?_) (fun h=>?_)<;>(simp [h, g0, s0]))
 |(apply hK;clear hK K)|refine AWh ‹_› ?_)
  have hTl := hp.len
  have hH3 : HL (h1 ++ [B.var [(.vec (n.clocks.map fun x => [V.str x]) n.clocks.length), (.vec (n.vars.map VarD.cells) n.vars.length), (.vec (n.chans.map fun x => [V.str x]) n.chans.length), .ref b g 0 n.autos.length]]) := ho.hl.push (by simp; omega)
  have hB0 : BZ n.autos T b g h1.length fl (.vec (n.clocks.map fun x => [V.str x]) n.clocks.length) (.vec (n.vars.map VarD.cells) n.vars.length) (.vec (n.chans.map fun x => [V.str x]) n.chans.length) 0 (h1 ++ [B.var [(.vec (n.clocks.map fun x => [V.str x]) n.clocks.length), (.vec (n.vars.map VarD.cells) n.vars.length), (.vec (n.chans.map fun x => [V.str x]) n.chans.length), .ref b g 0 n.autos.length]]) := ⟨hH3, by simp, g0 _, by rw [rowsB_0, get_app hbl]; exact hp.at0, fun j a t _ ha ht => by
    obtain ⟨k1, k2⟩ := hp.rows j a t ha ht
    have := hp.t_lt t (List.mem_of_getElem? ht)
    exact ⟨by rw [get_app this.1]; exact k1, by rw [get_app this.2]; exact k2⟩⟩
  refine AW_loopGL [3] (fun s : BS => [(4, .int .i64 s.i)]) (fun s => s.hc) (fun s => s.i ≤ n.autos.length ∧ BZ n.autos T b g h1.length fl (.vec (n.clocks.map fun x => [V.str x]) n.clocks.length) (.vec (n.vars.map VarD.cells) n.vars.length) (.vec (n.chans.map fun x => [V.str x]) n.chans.length) s.i s.hc) (fun s => n.autos.length - s.i) ⟨0, _⟩ ⟨Nat.zero_le _, hB0⟩ (Weak.sym (x := []) (by simp) hH3 (by simp)) (fun s hs => by have := hs.2.len; simp; omega) ?_
  clear hB0 hH3
  rintro ⟨i, hc⟩ ⟨hi, hz⟩
  simp only at hi hz
  have zv := hz.v
  have zr := hz.row
  have hrl := rowsB_len (i := i) hTl
  by_cases hlt : i < n.autos.length
  · obtain ⟨a, haa⟩ : ∃ a, n.autos[i] = a := ⟨_, rfl⟩
    obtain ⟨t, htt⟩ : ∃ t, T[i]'(by omega) = t := ⟨_, rfl⟩
    have ha? : n.autos[i]? = some a := by rw [List.getElem?_eq_getElem hlt, haa]
    have ht? : T[i]? = some t := by rw [List.getElem?_eq_getElem (by omega), htt]
    obtain rfl : fl = false := by cases fl; rfl; have := hp.flat rfl; rw [this] at hlt; simp at hlt
    have hlt' : (i : Int) < n.autos.length := by omega
    have w1 : IntKind.i64.wrap ((i : Int) + 1) = i + 1 := wI (by omega) (by omega)
    have zg := rowsB_get ha? ht?
    obtain ⟨r1, r2⟩ := hz.rest i a t (Nat.le_refl _) ha? ht?
    have zs := rowsB_set ha? hTl
    clear htt
    generalize hRB : rowsB i n.autos T = RB at *
    have zg2 : RB[i]'(by omega) = refA t a := by rw [List.getElem?_eq_getElem (by omega)] at zg; exact Option.some.inj zg
    have n1 : t.1 ≠ h1.length := fun e => by rw [e, zv] at r1; cases r1
    have n2 : t.1 ≠ b := fun e => by rw [e, zr] at r1; simp at r1
    have n3 : t.2 ≠ h1.length := fun e => by rw [e, zv] at r2; cases r2
    have n4 : t.2 ≠ b := fun e => by rw [e, zr] at r2; simp at r2
    have n5 : t.1 ≠ t.2 := fun e => by rw [e, r2] at r1; simp at r1
    have n6 : b ≠ h1.length := fun e => by rw [e, zv] at zr; cases zr
    have f1 : ∀ X : List (List V), (hc.set t.1 (.row 45 0 0 true X))[t.1]? = some (.row 45 0 0 true X) := fun X => get_set_eq r1
    have f2 : ∀ X : List (List V), (hc.set t.1 (.row 45 0 0 true X))[h1.length]? = some (B.var [(.vec (n.clocks.map fun x => [V.str x]) n.clocks.length), (.vec (n.vars.map VarD.cells) n.vars.length), (.vec (n.chans.map fun x => [V.str x]) n.chans.length), .ref b g 0 n.autos.length]) := fun X => by rw [gN n1]; exact zv
    have f3 : ∀ X : List (List V), (hc.set t.1 (.row 45 0 0 true X))[b]? = some (.row 41 g 0 false RB) := fun X => by rw [gN n2]; exact zr
    have f4 : ∀ X : List (List V), (hc.set t.1 (.row 45 0 0 true X))[t.2]? = some (.row 49 0 0 true (a.edges.map EdgeD.cells)) := fun X => by rw [gN n5]; exact r2
    have hl1 : ∀ X : List (List V), HL (hc.set t.1 (.row 45 0 0 true X)) := fun X => hz.hl.set rowF_lt
    have hoa := hok a (List.mem_of_getElem? ha?)
    have hll := hoa.2.1.1
    have hel := hoa.2.2.1
    unfold refA at zg zg2
    repeat' (first
 |refine aK fun K hK=>?_|refine Step.by1 ?_|refine sE (by decide) ?_|refine cz rfl ?_|refine Fork.by2 (fun h=>?_) fun h=>?_
 |(refine aR ?_;simp [zv, zr, hrl, hlt, hlt'])
 |(refine Split.by2 (fun h=>?_) (fun h=>?_)<;>(simp [h, zv, zr, hrl, hlt, hlt']))
 |(apply hK;clear hK K)|refine AWh ‹_› ?_)
    refine aL [3, 4] (fun k : Nat => [(5, .int .i64 k)]) (fun k => hc.set t.1 (.row 45 0 0 true (mixL bareLc LocD.cells k a.locs))) (fun k => k ≤ a.locs.length) (fun k => a.locs.length - k) 0 (Nat.zero_le _) (Weak.sym (x := []) (by rw [mix_0, set_sameB r1]; simp) (hl1 _) (by simp; have := hz.len; omega)) (fun k hk => by simp) ?_
    intro k hk
    have hml := mix_len (c' := bareLc) (c := LocD.cells) (l := a.locs) (k := k)
    by_cases hkl : k < a.locs.length
    · obtain ⟨x, hxx⟩ : ∃ x, a.locs[k] = x := ⟨_, rfl⟩
      have hx? : a.locs[k]? = some x := by rw [List.getElem?_eq_getElem hkl, hxx]
      have hkl' : (k : Int) < a.locs.length := by omega
      have w2 : IntKind.i64.wrap ((k : Int) + 1) = k + 1 := wI (by omega) (by omega)
      have mg := mix_get (c' := bareLc) (c := LocD.cells) hx?
      have ms := mix_set (c' := bareLc) (c := LocD.cells) hx?
      generalize mixL bareLc LocD.cells k a.locs = R at *
      have mg2 : R[k]'(by omega) = LocD.cells x := by rw [List.getElem?_eq_getElem (by omega)] at mg; exact Option.some.inj mg
      simp only [LocD.cells, bareLc, vl] at mg mg2 ms
      repeat' (first
 |refine aK fun K hK=>?_|refine Step.by1 ?_|refine sE (by decide) ?_|refine cz rfl ?_|refine Fork.by2 (fun h=>?_) fun h=>?_
 |(refine aR ?_;simp [f1, f2, f3, hrl, zg, zg2, hlt, hlt', hml, hkl, hkl', mg, mg2, ms, w2])
 |(refine Split.by2 (fun h=>?_) (fun h=>?_)<;>(simp [h, f1, f2, f3, hrl, zg, zg2, hlt, hlt', hml, hkl, hkl', mg, mg2, ms, w2]))
 |(apply hK;clear hK K)|refine AWh ‹_› ?_)
      exact ⟨k + 1, by omega, by omega, Weak.sym (x := []) (by simp) (hl1 _) (by simp; have := hz.len; omega)⟩
    · obtain rfl : k = a.locs.length := by omega
      clear hml hk hkl
      rw [mix_all]
      have hbl1 : (a.locs.map bareLc).length = a.locs.length := by simp
      generalize hX1 : a.locs.map bareLc = X1 at *
      have f1 := f1 X1
      have f2 := f2 X1
      have f3 := f3 X1
      have f4 := f4 X1
      have hl1 := hl1 X1
      have hlc : (hc.set t.1 (.row 45 0 0 true X1)).length = h1.length + 1 := by rw [List.length_set]; exact hz.len
      have hrest : ∀ (j : Nat) (x : AutoD) (s : Nat × Nat), i + 1 ≤ j → n.autos[j]? = some x → T[j]? = some s → (hc.set t.1 (.row 45 0 0 true X1))[s.1]? = some (.row 45 0 0 true (x.locs.map LocD.cells)) ∧ (hc.set t.1 (.row 45 0 0 true X1))[s.2]? = some (.row 49 0 0 true (x.edges.map EdgeD.cells)) ∧ s.1 ≠ t.1 ∧ s.2 ≠ t.2 ∧ s.1 ≠ t.2 ∧ s.2 ≠ t.1 ∧ s.1 ≠ b ∧ s.2 ≠ b := fun j x s hj hx hs => by
        obtain ⟨k1, k2⟩ := hz.rest j x s (by omega) hx hs
        have o1 : s.1 ≠ t.1 := fun e => by have := hp.one j i s t hs ht? (.inl e); omega
        have o2 : s.2 ≠ t.2 := fun e => by have := hp.one j i s t hs ht? (.inr e); omega
        have o3 : s.1 ≠ t.2 := fun e => by rw [e, r2] at k1; simp at k1
        have o4 : s.2 ≠ t.1 := fun e => by rw [e, r1] at k2; simp at k2
        exact ⟨by rw [gN (fun e => o1 e.symm)]; exact k1, by rw [gN (fun e => o4 e.symm)]; exact k2, o1, o2, o3, o4, fun e => by rw [e, zr] at k1; simp at k1, fun e => by rw [e, zr] at k2; simp at k2⟩
      clear hz zv zr r1 r2
      generalize hc.set t.1 (.row 45 0 0 true X1) = hd at *
      repeat' (first
 |refine aK fun K hK=>?_|refine Step.by1 ?_|refine sE (by decide) ?_|refine cz rfl ?_|refine Fork.by2 (fun h=>?_) fun h=>?_
 |(refine aR ?_;simp [f1, f2, f3, f4, hrl, zg, zg2, hlt, hlt'])
 |(refine Split.by2 (fun h=>?_) (fun h=>?_)<;>(simp [h, f1, f2, f3, f4, hrl, zg, zg2, hlt, hlt']))
 |(apply hK;clear hK K)|refine AWh ‹_› ?_)
      have e1 : ∀ X : List (List V), (hd.set t.2 (.row 49 0 0 true X))[t.2]? = some (.row 49 0 0 true X) := fun X => get_set_eq f4
      have e2 : ∀ X : List (List V), (hd.set t.2 (.row 49 0 0 true X))[h1.length]? = some (B.var [(.vec (n.clocks.map fun x => [V.str x]) n.clocks.length), (.vec (n.vars.map VarD.cells) n.vars.length), (.vec (n.chans.map fun x => [V.str x]) n.chans.length), .ref b g 0 n.autos.length]) := fun X => by rw [gN n3]; exact f2
      have e3 : ∀ X : List (List V), (hd.set t.2 (.row 49 0 0 true X))[b]? = some (.row 41 g 0 false RB) := fun X => by rw [gN n4]; exact f3
      have e4 : ∀ X : List (List V), (hd.set t.2 (.row 49 0 0 true X))[t.1]? = some (.row 45 0 0 true X1) := fun X => by rw [gN (fun e => n5 e.symm)]; exact f1
      have hl2 : ∀ X : List (List V), HL (hd.set t.2 (.row 49 0 0 true X)) := fun X => hl1.set rowF_lt
      refine aL [3, 4] (fun k : Nat => [(6, .int .i64 k)]) (fun k => hd.set t.2 (.row 49 0 0 true (mixL bareEc EdgeD.cells k a.edges))) (fun k => k ≤ a.edges.length) (fun k => a.edges.length - k) 0 (Nat.zero_le _) (Weak.sym (x := []) (by rw [mix_0, set_sameB f4]; simp) (hl2 _) (by simp; omega)) (fun k hk => by simp) ?_
      intro k hk
      have hml := mix_len (c' := bareEc) (c := EdgeD.cells) (l := a.edges) (k := k)
      by_cases hkl : k < a.edges.length
      · obtain ⟨x, hxx⟩ : ∃ x, a.edges[k] = x := ⟨_, rfl⟩
        have hx? : a.edges[k]? = some x := by rw [List.getElem?_eq_getElem hkl, hxx]
        have hkl' : (k : Int) < a.edges.length := by omega
        have w2 : IntKind.i64.wrap ((k : Int) + 1) = k + 1 := wI (by omega) (by omega)
        have mg := mix_get (c' := bareEc) (c := EdgeD.cells) hx?
        have ms := mix_set (c' := bareEc) (c := EdgeD.cells) hx?
        generalize mixL bareEc EdgeD.cells k a.edges = R at *
        have mg2 : R[k]'(by omega) = EdgeD.cells x := by rw [List.getElem?_eq_getElem (by omega)] at mg; exact Option.some.inj mg
        simp only [EdgeD.cells, bareEc, vl] at mg mg2 ms
        repeat' (first
 |refine aK fun K hK=>?_|refine Step.by1 ?_|refine sE (by decide) ?_|refine cz rfl ?_|refine Fork.by2 (fun h=>?_) fun h=>?_
 |(refine aR ?_;simp [e1, e2, e3, hrl, zg, zg2, hlt, hlt', hml, hkl, hkl', mg, mg2, ms, w2])
 |(refine Split.by2 (fun h=>?_) (fun h=>?_)<;>(simp [h, e1, e2, e3, hrl, zg, zg2, hlt, hlt', hml, hkl, hkl', mg, mg2, ms, w2]))
 |(apply hK;clear hK K)|refine AWh ‹_› ?_)
        exact ⟨k + 1, by omega, by omega, Weak.sym (x := []) (by simp) (hl2 _) (by simp; omega)⟩
      · obtain rfl : k = a.edges.length := by omega
        clear hml hk hkl
        rw [mix_all]
        have hbl2 : (a.edges.map bareEc).length = a.edges.length := by simp
        have hY : bareAc a = [.str a.name, .vec X1 a.locs.length, .vec (a.edges.map bareEc) a.edges.length] := by simp [bareAc, vl, hX1]
        generalize a.edges.map bareEc = X2 at *
        have e1 := e1 X2
        have e2 := e2 X2
        have e3 := e3 X2
        have e4 := e4 X2
        have hl2 := hl2 X2
        have hlc2 : (hd.set t.2 (.row 49 0 0 true X2)).length = h1.length + 1 := by rw [List.length_set]; exact hlc
        have hrest : ∀ (j : Nat) (x : AutoD) (s : Nat × Nat), i + 1 ≤ j → n.autos[j]? = some x → T[j]? = some s → (hd.set t.2 (.row 49 0 0 true X2))[s.1]? = some (.row 45 0 0 true (x.locs.map LocD.cells)) ∧ (hd.set t.2 (.row 49 0 0 true X2))[s.2]? = some (.row 49 0 0 true (x.edges.map EdgeD.cells)) ∧ s.1 ≠ t.1 ∧ s.2 ≠ t.2 ∧ s.1 ≠ t.2 ∧ s.2 ≠ t.1 ∧ s.1 ≠ b ∧ s.2 ≠ b := fun j x s hj hx hs => by
          obtain ⟨k1, k2, o1, o2, o3, o4, o5, o6⟩ := hrest j x s hj hx hs
          exact ⟨by rw [gN (fun e => o3 e.symm)]; exact k1, by rw [gN (fun e => o2 e.symm)]; exact k2, o1, o2, o3, o4, o5, o6⟩
        clear f1 f2 f3 f4
        generalize hd.set t.2 (.row 49 0 0 true X2) = he at *
        refine AW_viewrow b i 1 e3 zg rfl e4 (by omega) ?_
        have u1 : ((he.set t.1 (.row 45 0 X1.length true X1)).set b (.row 41 g 0 false (RB.set i ([V.str a.name, .ref t.1 0 0 a.locs.length, .ref t.2 0 0 a.edges.length].set 1 (.vec (X1.drop 0) a.locs.length)))))[b]? = some (.row 41 g 0 false (RB.set i ([V.str a.name, .ref t.1 0 0 a.locs.length, .ref t.2 0 0 a.edges.length].set 1 (.vec (X1.drop 0) a.locs.length)))) := get_set_eq (by rw [gN n2]; exact e3)
        have u2 : (RB.set i ([V.str a.name, .ref t.1 0 0 a.locs.length, .ref t.2 0 0 a.edges.length].set 1 (.vec (X1.drop 0) a.locs.length)))[i]? = some ([V.str a.name, .ref t.1 0 0 a.locs.length, .ref t.2 0 0 a.edges.length].set 1 (.vec (X1.drop 0) a.locs.length)) := by rw [List.getElem?_set, if_pos rfl, if_pos (by omega)]
        have u3 : ((he.set t.1 (.row 45 0 X1.length true X1)).set b (.row 41 g 0 false (RB.set i ([V.str a.name, .ref t.1 0 0 a.locs.length, .ref t.2 0 0 a.edges.length].set 1 (.vec (X1.drop 0) a.locs.length)))))[t.2]? = some (.row 49 0 0 true X2) := by rw [gN (fun e => n4 e.symm), gN n5]; exact e1
        refine AW_viewrow b i 2 u1 u2 rfl u3 (by omega) ?_
        clear u1 u2 u3
        have zs' : (RB.set i ([V.str a.name, .ref t.1 0 0 a.locs.length, .ref t.2 0 0 a.edges.length].set 1 (.vec (X1.drop 0) a.locs.length))).set i (([V.str a.name, .ref t.1 0 0 a.locs.length, .ref t.2 0 0 a.edges.length].set 1 (.vec (X1.drop 0) a.locs.length)).set 2 (.vec (X2.drop 0) a.edges.length)) = rowsB (i + 1) n.autos T := by
          rw [← zs, List.set_set, hY]; rfl
        rw [zs']
        clear zs'
        have hf0 : ((((he.set t.1 (.row 45 0 X1.length true X1)).set b (.row 41 g 0 false (RB.set i ([V.str a.name, .ref t.1 0 0 a.locs.length, .ref t.2 0 0 a.edges.length].set 1 (.vec (X1.drop 0) a.locs.length))))).set t.2 (.row 49 0 X2.length true X2)).set b (.row 41 g 0 false (rowsB (i + 1) n.autos T))) = ((he.set t.1 (.row 45 0 X1.length true X1)).set t.2 (.row 49 0 X2.length true X2)).set b (.row 41 g 0 false (rowsB (i + 1) n.autos T)) := by
          rw [List.set_comm _ _ (fun e => n4 e.symm), List.set_set]
        have hf1 : BZ n.autos T b g h1.length false (.vec (n.clocks.map fun x => [V.str x]) n.clocks.length) (.vec (n.vars.map VarD.cells) n.vars.length) (.vec (n.chans.map fun x => [V.str x]) n.chans.length) (i + 1) (((he.set t.1 (.row 45 0 X1.length true X1)).set t.2 (.row 49 0 X2.length true X2)).set b (.row 41 g 0 false (rowsB (i + 1) n.autos T))) := by
          refine ⟨((hl2.set rowF_lt).set rowF_lt).set (rowR_lt fun y hy => ?_), by simp [hlc2], ?_, get_set_eq (by rw [gN n4, gN n2]; exact e3), fun j x s hj hx hs => ?_⟩
          · rw [List.length_set, List.length_set]
            unfold rowsB at hy
            rcases List.mem_append.1 hy with hy | hy
            · obtain ⟨x, _, rfl⟩ := List.mem_map.1 hy
              simp [bareAc, vl]
            · exact rowsA_lt (fun s hs => by
                have := hp.t_lt s (List.mem_of_mem_drop hs)
                omega) y hy
          · rw [gN n6, gN n3, gN n1]; exact e2
          · obtain ⟨k1, k2, o1, o2, o3, o4, o5, o6⟩ := hrest j x s hj hx hs
            exact ⟨by rw [gN (fun e => o5 e.symm), gN (fun e => o3 e.symm), gN (fun e => o1 e.symm)]; exact k1, by rw [gN (fun e => o6 e.symm), gN (fun e => o2 e.symm), gN (fun e => o4 e.symm)]; exact k2⟩
        have hrl2 := rowsB_len (i := i + 1) hTl
        have zg' : (rowsB (i + 1) n.autos T)[i]? = some (bareAc a) := by rw [← zs, List.getElem?_set, if_pos rfl, if_pos (by omega)]
        have zg2' : (rowsB (i + 1) n.autos T)[i]'(by omega) = bareAc a := by rw [List.getElem?_eq_getElem (by omega)] at zg'; exact Option.some.inj zg'
        rw [hY] at zg' zg2'
        refine AW_heap hf0 ?_
        generalize hG : ((he.set t.1 (.row 45 0 X1.length true X1)).set t.2 (.row 49 0 X2.length true X2)).set b (.row 41 g 0 false (rowsB (i + 1) n.autos T)) = hg at *
        have v1 := hf1.v
        have v2 := hf1.row
        clear zs
        repeat' (first
 |refine aK fun K hK=>?_|refine Step.by1 ?_|refine sE (by decide) ?_|refine cz rfl ?_|refine Fork.by2 (fun h=>?_) fun h=>?_
 |(refine aR ?_;simp [v1, v2, hrl2, zg', zg2', hlt, hlt', w1])
 |(refine Split.by2 (fun h=>?_) (fun h=>?_)<;>(simp [h, v1, v2, hrl2, zg', zg2', hlt, hlt', w1]))
 |(apply hK;clear hK K)|refine AWh ‹_› ?_)
        exact ⟨⟨i + 1, hg⟩, ⟨by show i + 1 ≤ _; omega, hf1⟩, by show _ - (i + 1) < _ - i; omega, Weak.sym (x := []) (by simp) hf1.hl (by simp; have := hf1.len; omega)⟩
  · obtain rfl : i = n.autos.length := by omega
    rw [rowsB_all] at zr
    have hbr : (n.autos.map bareAc).length = n.autos.length := by simp
    refine AW_bare (q := h1.length) (j := 3) hz.hl zr (fun x hx v hv => ?_) zv rfl (by omega) fun hf hlf hvf => ?_
    · obtain ⟨y, _, rfl⟩ := List.mem_map.1 hx
      simp only [bareAc, vl, List.mem_cons, List.mem_singleton, List.not_mem_nil, or_false] at hv
      rcases hv with rfl | rfl | rfl <;> rfl
    have hvf : hf[h1.length]? = some (B.var [(.vec (n.clocks.map fun x => [V.str x]) n.clocks.length), (.vec (n.vars.map VarD.cells) n.vars.length), (.vec (n.chans.map fun x => [V.str x]) n.chans.length), .vec (n.autos.map bareAc) n.autos.length]) := hvf
    have hlo : h1.length < hf.length := (List.getElem?_eq_some_iff.1 hvf).1
    clear hz zv zr hcp hp
    repeat' (first
 |refine aK fun K hK=>?_|refine Step.by1 ?_|refine sE (by decide) ?_|refine cz rfl ?_|refine Fork.by2 (fun h=>?_) fun h=>?_
 |((first|refine aR ?_|refine aC (f:=10) rfl rfl (m1) rfl rfl rfl ?_|refine aC (f:=7) rfl rfl (m3) rfl rfl rfl ?_|refine aC (f:=9) rfl rfl (m5) rfl rfl rfl ?_|refine aC (f:=12) rfl rfl (m2) rfl rfl rfl ?_|refine aC (f:=13) rfl rfl (m4) rfl rfl rfl ?_);simp [hvf, hlt])
 |(refine Split.by2 (fun h=>?_) (fun h=>?_)<;>(simp [h, hvf, hlt]))
 |(apply hK;clear hK K)|refine AWh ‹_› ?_)
    · exfalso; simp_all
    all_goals
      refine aS1 (r := true) L 9 [8] (fun _ => true) rfl (Weak.sym (x := []) (by simp) hlf (by simp)) ?_ ?_
      · intro j x hx? hjl hx _
        obtain rfl : x = -1 := hL2 x (hx ▸ List.getElem_mem hjl)
        have hjl' : (j : Int) < L.length := by omega
        have w1 : IntKind.i64.wrap ((j : Int) + 1) = j + 1 := wI (by omega) (by omega)
        repeat' (first
 |refine aK fun K hK=>?_|refine Step.by1 ?_|refine sE (by decide) ?_|refine cz rfl ?_|refine Fork.by2 (fun h=>?_) fun h=>?_
 |(refine aR ?_;simp [hjl, hjl', hx, w1])
 |(refine Split.by2 (fun h=>?_) (fun h=>?_)<;>(simp [h, hjl, hjl', hx, w1]))
 |(apply hK;clear hK K)|refine AWh ‹_› ?_)
        exact Weak.sym (x := []) (by simp) hlf (by simp)
      · intro _
        repeat' (first
 |refine aK fun K hK=>?_|refine Step.by1 ?_|refine sE (by decide) ?_|refine cz rfl ?_|refine Fork.by2 (fun h=>?_) fun h=>?_
 |(refine aR ?_;simp)
 |(refine Split.by2 (fun h=>?_) (fun h=>?_)<;>(simp [h]))
 |(apply hK;clear hK K)|refine AWh ‹_› ?_)
        exact r1q (cE rfl rfl)
end Go.Proofs.YtgmlimipejcpgaaDoor
end
