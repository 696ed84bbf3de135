/-
  YtgmlimipejcpgaaGreatDoorAp08: steps of the proof of a law of the program: what these texts prove holds under the hypotheses that their theorems name, and no others.
-/
import Derived.Test.YtgmlimipejcpgaaGreatDoorAp07
section
set_option linter.unusedSimpArgs false
set_option linter.unusedVariables false
namespace Go.Proofs.YtgmlimipejcpgaaGreatDoor
open Go Go.AM Fx
set_option maxRecDepth 20000 in
set_option maxHeartbeats 16000000 in
theorem r_Right13 (n : NetD) (hn : n.ok) (s : StateD) (hs : s.ok) : PC 114 [.agg n.cells, .agg s.cells] (.bool (rightSE n s)) := by
  have c1 := r_Right10 n hn
  obtain ⟨res, hres⟩ : ∃ r, rightSE n s = r := ⟨_, rfl⟩
  rw [hres]
  unfold rightSE stB at hres
  have hl1 := hs.1
  have hl2 := hs.2
  have i1 : (ivs s.locs).length = s.locs.length := ivs_len
  have i2 : (ivs s.vars).length = s.vars.length := ivs_len
  by_cases hw : wholeE n = 0
  · rw [decide_eq_true hw] at c1 hres
    rw [Bool.true_and] at hres
    simp only [NetD.cells, vl] at c1
    by_cases ha : n.autos.length = s.locs.length
    · have ha' : (s.locs.length : Int) = n.autos.length := by omega
      by_cases hv : n.vars.length = s.vars.length
      · have hv' : (s.vars.length : Int) = n.vars.length := by omega
        refine pB Tryz.func114 rfl (by decide) Tryz.ntmps114 (by simp) Tryz.results114 ?_
        repeat' (first
 |refine aK fun K hK=>?_|refine Step.by1 ?_|refine sE (by decide) ?_|refine cz rfl ?_|refine Fork.by2 (fun h=>?_) fun h=>?_
 |((first|refine aR ?_|refine aC (f:=122) rfl rfl (c1) rfl rfl rfl ?_);simp [NetD.cells, StateD.cells, vl, i1, i2, ha', hv'])
 |(refine Split.by2 (fun h=>?_) (fun h=>?_)<;>(simp [h, NetD.cells, StateD.cells, vl, i1, i2, ha', hv']))
 |(apply hK;clear hK K)|refine AWh ‹_› ?_)
        refine aL [2, 3] (fun i : Nat => [(5, .int .i64 i)]) (fun _ => [.var n.cells, .var s.cells]) (fun i => i ≤ s.locs.length ∧ (eqF atLB (n.autos.drop i) (s.locs.drop i) && eqF hasB n.vars s.vars) = res) (fun i => s.locs.length - i) 0 ⟨Nat.zero_le _, hres⟩ (by apply Weak.mk' <;> simp [NetD.cells, StateD.cells, vl]) (fun _ _ => rfl) ?_
        clear hres
        rintro i ⟨hi, hk⟩
        by_cases hlt : i < s.locs.length
        · have hla : i < n.autos.length := by omega
          obtain ⟨a, haa⟩ : ∃ a, n.autos[i] = a := ⟨_, rfl⟩
          obtain ⟨x, hxx⟩ : ∃ x, s.locs[i] = x := ⟨_, rfl⟩
          have hx? : s.locs[i]? = some x := by rw [List.getElem?_eq_getElem hlt, hxx]
          rw [List.drop_eq_getElem_cons hla, List.drop_eq_getElem_cons hlt, haa, hxx, eqF] at hk
          have hlt' : (i : Int) < s.locs.length := by omega
          have hla' : (i : Int) < n.autos.length := by omega
          have w1 : IntKind.i64.wrap ((i : Int) + 1) = i + 1 := wI (by omega) (by omega)
          have c2 := ivs_get hx?
          have c3 : (ivs s.locs)[i]'(by omega) = [V.int .i64 x] := by rw [List.getElem?_eq_getElem (by omega)] at c2; exact Option.some.inj c2
          unfold atLB at hk
          by_cases h0 : 0 ≤ x
          · have h0' : ¬ x < 0 := by omega
            by_cases h1 : x < a.locs.length
            · have h1' : ¬ (a.locs.length : Int) ≤ x := by omega
              rw [decide_eq_true h0, decide_eq_true h1, Bool.true_and, Bool.true_and] at hk
              repeat' (first
 |refine aK fun K hK=>?_|refine Step.by1 ?_|refine sE (by decide) ?_|refine cz rfl ?_|refine Fork.by2 (fun h=>?_) fun h=>?_
 |((first|refine aR ?_|refine aX (id:=6) 21 mixed (by decide) ?_);simp [NetD.cells, AutoD.cells, StateD.cells, vl, hlt, hlt', hla, hla', haa, c2, c3, i1, w1, h0', h1'])
 |(refine Split.by2 (fun h=>?_) (fun h=>?_)<;>(simp [h, NetD.cells, AutoD.cells, StateD.cells, vl, hlt, hlt', hla, hla', haa, c2, c3, i1, w1, h0', h1']))
 |(apply hK;clear hK K)|refine AWh ‹_› ?_)
              refine ⟨i + 1, ⟨by omega, hk⟩, by omega, ?_⟩
              apply Weak.mk' <;> simp [NetD.cells, StateD.cells, vl]
            · have h1' : (a.locs.length : Int) ≤ x := by omega
              have hk : false = res := by simpa [h1] using hk
              repeat' (first
 |refine aK fun K hK=>?_|refine Step.by1 ?_|refine sE (by decide) ?_|refine cz rfl ?_|refine Fork.by2 (fun h=>?_) fun h=>?_
 |((first|refine aR ?_|refine aX (id:=6) 21 mixed (by decide) ?_);simp [NetD.cells, AutoD.cells, StateD.cells, vl, hlt, hlt', hla, hla', haa, c2, c3, i1, w1, h0', h1'])
 |(refine Split.by2 (fun h=>?_) (fun h=>?_)<;>(simp [h, NetD.cells, AutoD.cells, StateD.cells, vl, hlt, hlt', hla, hla', haa, c2, c3, i1, w1, h0', h1']))
 |(apply hK;clear hK K)|refine AWh ‹_› ?_)
              exact r1q (cE (by simp [← hk]) rfl)
          · have h0' : x < 0 := by omega
            have hk : false = res := by simpa [h0] using hk
            repeat' (first
 |refine aK fun K hK=>?_|refine Step.by1 ?_|refine sE (by decide) ?_|refine cz rfl ?_|refine Fork.by2 (fun h=>?_) fun h=>?_
 |((first|refine aR ?_|refine aX (id:=6) 21 mixed (by decide) ?_);simp [NetD.cells, AutoD.cells, StateD.cells, vl, hlt, hlt', hla, hla', haa, c2, c3, i1, w1, h0'])
 |(refine Split.by2 (fun h=>?_) (fun h=>?_)<;>(simp [h, NetD.cells, AutoD.cells, StateD.cells, vl, hlt, hlt', hla, hla', haa, c2, c3, i1, w1, h0']))
 |(apply hK;clear hK K)|refine AWh ‹_› ?_)
            exact r1q (cE (by simp [← hk]) rfl)
        · obtain rfl : i = s.locs.length := by omega
          rw [List.drop_length, ← ha, List.drop_length, eqF, Bool.true_and] at hk
          repeat' (first
 |refine aK fun K hK=>?_|refine Step.by1 ?_|refine sE (by decide) ?_|refine cz rfl ?_|refine Fork.by2 (fun h=>?_) fun h=>?_
 |(refine aR ?_;simp [NetD.cells, StateD.cells, vl])
 |(refine Split.by2 (fun h=>?_) (fun h=>?_)<;>(simp [h, NetD.cells, StateD.cells, vl]))
 |(apply hK;clear hK K)|refine AWh ‹_› ?_)
          refine aL [2, 3] (fun i : Nat => [(6, .int .i64 i)]) (fun _ => [.var n.cells, .var s.cells]) (fun i => i ≤ s.vars.length ∧ eqF hasB (n.vars.drop i) (s.vars.drop i) = res) (fun i => s.vars.length - i) 0 ⟨Nat.zero_le _, hk⟩ (by apply Weak.mk' <;> simp [NetD.cells, StateD.cells, vl]) (fun _ _ => rfl) ?_
          clear hk
          rintro i ⟨hi, hk⟩
          by_cases hlt : i < s.vars.length
          · have hla : i < n.vars.length := by omega
            obtain ⟨a, haa⟩ : ∃ a, n.vars[i] = a := ⟨_, rfl⟩
            obtain ⟨x, hxx⟩ : ∃ x, s.vars[i] = x := ⟨_, rfl⟩
            have hx? : s.vars[i]? = some x := by rw [List.getElem?_eq_getElem hlt, hxx]
            rw [List.drop_eq_getElem_cons hla, List.drop_eq_getElem_cons hlt, haa, hxx, eqF] at hk
            have hlt' : (i : Int) < s.vars.length := by omega
            have hla' : (i : Int) < n.vars.length := by omega
            have w1 : IntKind.i64.wrap ((i : Int) + 1) = i + 1 := wI (by omega) (by omega)
            have c2 := ivs_get hx?
            have c3 : (ivs s.vars)[i]'(by omega) = [V.int .i64 x] := by rw [List.getElem?_eq_getElem (by omega)] at c2; exact Option.some.inj c2
            unfold hasB at hk
            by_cases h0 : a.lo ≤ x
            · have h0' : ¬ x < a.lo := by omega
              by_cases h1 : x ≤ a.hi
              · have h1' : ¬ a.hi < x := by omega
                rw [decide_eq_true h0, decide_eq_true h1, Bool.true_and, Bool.true_and] at hk
                repeat' (first
 |refine aK fun K hK=>?_|refine Step.by1 ?_|refine sE (by decide) ?_|refine cz rfl ?_|refine Fork.by2 (fun h=>?_) fun h=>?_
 |((first|refine aR ?_|refine aX (id:=11) 26 mixed (by decide) ?_);simp [NetD.cells, VarD.cells, StateD.cells, vl, hlt, hlt', hla, hla', haa, c2, c3, i2, w1, h0', h1'])
 |(refine Split.by2 (fun h=>?_) (fun h=>?_)<;>(simp [h, NetD.cells, VarD.cells, StateD.cells, vl, hlt, hlt', hla, hla', haa, c2, c3, i2, w1, h0', h1']))
 |(apply hK;clear hK K)|refine AWh ‹_› ?_)
                refine ⟨i + 1, ⟨by omega, hk⟩, by omega, ?_⟩
                apply Weak.mk' <;> simp [NetD.cells, StateD.cells, vl]
              · have h1' : a.hi < x := by omega
                have hk : false = res := by simpa [h1] using hk
                repeat' (first
 |refine aK fun K hK=>?_|refine Step.by1 ?_|refine sE (by decide) ?_|refine cz rfl ?_|refine Fork.by2 (fun h=>?_) fun h=>?_
 |((first|refine aR ?_|refine aX (id:=11) 26 mixed (by decide) ?_);simp [NetD.cells, VarD.cells, StateD.cells, vl, hlt, hlt', hla, hla', haa, c2, c3, i2, w1, h0', h1'])
 |(refine Split.by2 (fun h=>?_) (fun h=>?_)<;>(simp [h, NetD.cells, VarD.cells, StateD.cells, vl, hlt, hlt', hla, hla', haa, c2, c3, i2, w1, h0', h1']))
 |(apply hK;clear hK K)|refine AWh ‹_› ?_)
                exact r1q (cE (by simp [← hk]) rfl)
            · have h0' : x < a.lo := by omega
              have hk : false = res := by simpa [h0] using hk
              repeat' (first
 |refine aK fun K hK=>?_|refine Step.by1 ?_|refine sE (by decide) ?_|refine cz rfl ?_|refine Fork.by2 (fun h=>?_) fun h=>?_
 |((first|refine aR ?_|refine aX (id:=11) 26 mixed (by decide) ?_);simp [NetD.cells, VarD.cells, StateD.cells, vl, hlt, hlt', hla, hla', haa, c2, c3, i2, w1, h0'])
 |(refine Split.by2 (fun h=>?_) (fun h=>?_)<;>(simp [h, NetD.cells, VarD.cells, StateD.cells, vl, hlt, hlt', hla, hla', haa, c2, c3, i2, w1, h0']))
 |(apply hK;clear hK K)|refine AWh ‹_› ?_)
              exact r1q (cE (by simp [← hk]) rfl)
          · obtain rfl : i = s.vars.length := by omega
            rw [List.drop_length, ← hv, List.drop_length, eqF] at hk
            repeat' (first
 |refine aK fun K hK=>?_|refine Step.by1 ?_|refine sE (by decide) ?_|refine cz rfl ?_|refine Fork.by2 (fun h=>?_) fun h=>?_
 |(refine aR ?_;simp [NetD.cells, StateD.cells, vl])
 |(refine Split.by2 (fun h=>?_) (fun h=>?_)<;>(simp [h, NetD.cells, StateD.cells, vl]))
 |(apply hK;clear hK K)|refine AWh ‹_› ?_)
            exact r1q (cE (by simp [← hk]) rfl)
      · have hv' : ¬ (s.vars.length : Int) = n.vars.length := by omega
        rw [eqF_ne hv, Bool.and_false] at hres
        refine pB Tryz.func114 rfl (by decide) Tryz.ntmps114 (by simp) Tryz.results114 ?_
        repeat' (first
 |refine aK fun K hK=>?_|refine Step.by1 ?_|refine sE (by decide) ?_|refine cz rfl ?_|refine Fork.by2 (fun h=>?_) fun h=>?_
 |((first|refine aR ?_|refine aC (f:=122) rfl rfl (c1) rfl rfl rfl ?_);simp [NetD.cells, StateD.cells, vl, i1, i2, ha', hv'])
 |(refine Split.by2 (fun h=>?_) (fun h=>?_)<;>(simp [h, NetD.cells, StateD.cells, vl, i1, i2, ha', hv']))
 |(apply hK;clear hK K)|refine AWh ‹_› ?_)
        exact r1q (cE (by simp [← hres]) rfl)
    · have ha' : ¬ (s.locs.length : Int) = n.autos.length := by omega
      rw [eqF_ne ha, Bool.false_and] at hres
      refine pB Tryz.func114 rfl (by decide) Tryz.ntmps114 (by simp) Tryz.results114 ?_
      repeat' (first
 |refine aK fun K hK=>?_|refine Step.by1 ?_|refine sE (by decide) ?_|refine cz rfl ?_|refine Fork.by2 (fun h=>?_) fun h=>?_
 |((first|refine aR ?_|refine aC (f:=122) rfl rfl (c1) rfl rfl rfl ?_);simp [NetD.cells, StateD.cells, vl, i1, i2, ha'])
 |(refine Split.by2 (fun h=>?_) (fun h=>?_)<;>(simp [h, NetD.cells, StateD.cells, vl, i1, i2, ha']))
 |(apply hK;clear hK K)|refine AWh ‹_› ?_)
      exact r1q (cE (by simp [← hres]) rfl)
  · rw [decide_eq_false hw] at c1 hres
    rw [Bool.false_and] at hres
    simp only [NetD.cells, vl] at c1
    refine pB Tryz.func114 rfl (by decide) Tryz.ntmps114 (by simp) Tryz.results114 ?_
    repeat' (first
 |refine aK fun K hK=>?_|refine Step.by1 ?_|refine sE (by decide) ?_|refine cz rfl ?_|refine Fork.by2 (fun h=>?_) fun h=>?_
 |((first|refine aR ?_|refine aC (f:=122) rfl rfl (c1) rfl rfl rfl ?_);simp [NetD.cells, StateD.cells, vl])
 |(refine Split.by2 (fun h=>?_) (fun h=>?_)<;>(simp [h, NetD.cells, StateD.cells, vl]))
 |(apply hK;clear hK K)|refine AWh ‹_› ?_)
    exact r1q (cE (by simp [← hres]) rfl)
noncomputable def busyF (gs : List (List PartD)) (c : Nat) : List AutoD → List Int → Bool
  | a :: r, x :: s => actB a gs ((c : Int) + 1) x.toNat || busyF gs c r s
  | _, _ => false
theorem busyF_snoc {gs : List (List PartD)} {c : Nat} {a : AutoD} {x : Int} : ∀ {l : List AutoD} {m : List Int}, l.length = m.length → busyF gs c (l ++ [a]) (m ++ [x]) = (busyF gs c l m || actB a gs ((c : Int) + 1) x.toNat)
  | [], [], _ => by simp [busyF]
  | [], _ :: _, h => by simp at h
  | _ :: _, [], h => by simp at h
  | b :: l, y :: m, h => by
    simp only [List.cons_append, busyF]
    rw [busyF_snoc (by simpa using h), Bool.or_assoc]
theorem busyF_take {gs : List (List PartD)} {c i : Nat} {l : List AutoD} {m : List Int} {a : AutoD} {x : Int} (hl : l.length = m.length) (ha : l[i]? = some a) (hx : m[i]? = some x) :
    busyF gs c (l.take (i + 1)) (m.take (i + 1)) = (busyF gs c (l.take i) (m.take i) || actB a gs ((c : Int) + 1) x.toNat) := by
  rw [List.take_add_one, List.take_add_one, ha, hx]
  exact busyF_snoc (by simp [hl])
noncomputable def idleLk (n : NetD) (s : StateD) (gs : List (List PartD)) (k : Nat) : List Int := ((List.range k).filter fun c => !busyF gs c n.autos s.locs).map fun c : Nat => (c : Int) + 1
theorem idleLk_succ {n : NetD} {s : StateD} {gs : List (List PartD)} {k : Nat} : idleLk n s gs (k + 1) = if busyF gs k n.autos s.locs = true then idleLk n s gs k else idleLk n s gs k ++ [(k : Int) + 1] := by
  unfold idleLk
  rw [List.range_succ, List.filter_append, List.map_append]
  by_cases h : busyF gs k n.autos s.locs = true <;> simp [h]
theorem idleLk_len {n : NetD} {s : StateD} {gs : List (List PartD)} {k : Nat} : (idleLk n s gs k).length ≤ k := by
  unfold idleLk
  rw [List.length_map]
  exact Nat.le_trans (List.length_filter_le _ _) (by simp)
noncomputable def idleL (n : NetD) (s : StateD) (gs : List (List PartD)) : List Int := if lookE n gs ≠ 0 then [] else if rightSE n s = false then [] else idleLk n s gs n.clocks.length
def idleE (n : NetD) (s : StateD) (gs : List (List PartD)) : Int := if lookE n gs ≠ 0 then lookE n gs else if rightSE n s = false then 130 else 0
def rowF (N : Nat) (x : Nat → Bool) : List (List V) := (List.range N).map fun c => [V.bool (x c)]
@[simp] theorem rowF_len {N : Nat} {x : Nat → Bool} : (rowF N x).length = N := by simp [rowF]
theorem rowF_get {N c : Nat} {x : Nat → Bool} (h : c < N) : (rowF N x)[c]? = some [V.bool (x c)] := by simp [rowF, h]
theorem rowF_set {N c : Nat} {x : Nat → Bool} {b : Bool} : (rowF N x).set c [V.bool b] = rowF N (fun q => if q = c then b else x q) := by
  apply List.ext_getElem?
  intro q
  rw [List.getElem?_set, rowF_len]
  by_cases hq : q < N
  · rw [rowF_get hq, rowF_get hq]
    by_cases e : c = q
    · subst e; simp [hq]
    · simp [e, Ne.symm e]
  · rw [List.getElem?_eq_none (by simp; omega), List.getElem?_eq_none (by simp; omega)]
    split
    · rename_i e; subst e; simp [hq]
    · rfl
theorem rowF_ext {N : Nat} {x y : Nat → Bool} (h : ∀ c, c < N → x c = y c) : rowF N x = rowF N y := by
  unfold rowF
  exact List.map_congr_left fun c hc => by rw [h c (List.mem_range.1 hc)]
theorem right_locs {n : NetD} {s : StateD} (h : rightSE n s = true) : n.autos.length = s.locs.length ∧ ∀ (i : Nat) (a : AutoD) (x : Int), n.autos[i]? = some a → s.locs[i]? = some x → 0 ≤ x ∧ x < a.locs.length := by
  unfold rightSE stB at h
  simp only [Bool.and_eq_true] at h
  obtain ⟨h1, h2⟩ := eqF_iff.1 h.2.1
  exact ⟨h1, fun i a x ha hx => by have := h2 i a x ha hx; simpa [atLB] using this⟩
set_option maxRecDepth 20000 in
set_option maxHeartbeats 16000000 in
theorem c_Idle24 (n : NetD) (hn : n.ok) (s : StateD) (hs : s.ok) (gs : List (List PartD)) (hgl : gs.length ≤ 1048576) (hgs : ∀ g ∈ gs, okGoal g) :
    PC 45 [.agg n.cells, .agg s.cells, gsV gs] (.tup [.own 3 (ivs (idleL n s gs)), .int .i64 (idleE n s gs)]) := by
  have hb := c_look n hn gs hgl hgs
  have hnl := hn.1.1
  have hal := hn.2.2.2.1
  have hof := fun a ha => c_ofA n hn a ha gs hgl hgs
  have hr := c_stRight n hn s
  unfold idleL idleE
  generalize lookE n gs = e0 at *
  simp only [gsV, vl, NetD.cells] at hb
  by_cases he : e0 = 0
  · rw [if_neg (show ¬ (e0 ≠ 0) by simp [he]), if_neg (show ¬ (e0 ≠ 0) by simp [he])]
    rw [he] at hb
    cases hrs : rightSE n s
    · rw [if_pos rfl, if_pos rfl]
      rw [hrs] at hr
      refine PCall.nilfst ?_ (by simp)
      simp only [NetD.cells, StateD.cells, vl] at hr
      refine pB Tryz.func45 rfl (by decide) Tryz.ntmps45 (by simp) Tryz.results45 ?_
      repeat' (first
 |refine aK fun K hK=>?_|refine Step.by1 ?_|refine sE (by decide) ?_|refine cz rfl ?_|refine Fork.by2 (fun h=>?_) fun h=>?_
 |((first|refine aR ?_|refine aC (f:=98) rfl rfl (hb) rfl rfl rfl ?_|refine aC (f:=113) rfl rfl (hr) rfl rfl rfl ?_);simp [gsV, vl, NetD.cells, StateD.cells])
 |(refine Split.by2 (fun h=>?_) (fun h=>?_)<;>(simp [h, gsV, vl, NetD.cells, StateD.cells]))
 |(apply hK;clear hK K)|refine AWh ‹_› ?_)
      exact retq2 (cE rfl rfl)
    · rw [if_neg (by simp), if_neg (by simp)]
      obtain ⟨hsl, hsx⟩ := right_locs hrs
      rw [hrs] at hr
      clear hrs
      have hll := hs.1
      have il : (ivs s.locs).length = n.autos.length := by rw [ivs_len, hsl]
      simp only [NetD.cells, StateD.cells, vl] at hr
      have hmk : (n.clocks.length : Int) ≤ 281474976710656 := by omega
      have hr0 : (List.replicate n.clocks.length [V.bool false]) = rowF n.clocks.length (fun c => busyF gs c (n.autos.take 0) (s.locs.take 0)) := by apply List.ext_getElem? <;> simp [rowF, busyF, List.getElem?_replicate]; intro i; split <;> simp [*]
      refine pB Tryz.func45 rfl (by decide) Tryz.ntmps45 (by simp) Tryz.results45 ?_
      repeat' (first
 |refine aK fun K hK=>?_|refine Step.by1 ?_|refine sE (by decide) ?_|refine cz rfl ?_|refine Fork.by2 (fun h=>?_) fun h=>?_
 |((first|refine aR ?_|refine aC (f:=98) rfl rfl (hb) rfl rfl rfl ?_|refine aC (f:=113) rfl rfl (hr) rfl rfl rfl ?_);simp [gsV, vl, NetD.cells, StateD.cells, hmk])
 |(refine Split.by2 (fun h=>?_) (fun h=>?_)<;>(simp [h, gsV, vl, NetD.cells, StateD.cells, hmk]))
 |(apply hK;clear hK K)|refine AWh ‹_› ?_)
      refine aL [2, 3, 4, 9, 32, 33] (fun i : Nat => [(34, .int .i64 i)]) (fun i => [.var n.cells, .var s.cells, .row 4 0 0 true (rowF n.clocks.length (fun c => busyF gs c (n.autos.take i) (s.locs.take i)))]) (fun i => i ≤ n.autos.length) (fun i => n.autos.length - i) 0 (Nat.zero_le _) (by apply Weak.mk' <;> simp [gsV, vl, NetD.cells, StateD.cells, hr0]) (fun _ _ => rfl) ?_
      clear hr0
      intro i hi
      by_cases hlt : i < n.autos.length
      · obtain ⟨a, haa⟩ : ∃ a, n.autos[i] = a := ⟨_, rfl⟩
        have ha? : n.autos[i]? = some a := by rw [List.getElem?_eq_getElem hlt, haa]
        have hls : i < s.locs.length := by omega
        obtain ⟨x, hxx⟩ : ∃ x, s.locs[i] = x := ⟨_, rfl⟩
        have hx? : s.locs[i]? = some x := by rw [List.getElem?_eq_getElem hls, hxx]
        obtain ⟨hx0, hxl⟩ := hsx i a x ha? hx?
        obtain ⟨j2, rfl⟩ := Int.eq_ofNat_of_zero_le hx0
        have hstep := fun c => busyF_take (gs := gs) (c := c) hsl ha? hx?
        rw [show ((j2 : Int)).toNat = j2 by omega] at hstep
        have ham : a ∈ n.autos := haa ▸ List.getElem_mem hlt
        have hlt' : (i : Int) < n.autos.length := by omega
        have hls' : (i : Int) < s.locs.length := by omega
        have hjl : j2 < a.locs.length := by omega
        have w1 : IntKind.i64.wrap ((i : Int) + 1) = i + 1 := wI (by omega) (by omega)
        have hc := hof a ham he
        obtain ⟨bb, hbb, hbl, hbj?⟩ : ∃ bb, markV a gs n.clocks.length = bb ∧ bb.length = a.locs.length ∧ bb[j2]? = some [V.vec (bvs (actR a gs n.clocks.length j2)) n.clocks.length] := ⟨_, rfl, by simp [markV], by simp [markV, hjl]⟩
        rw [hbb] at hc
        clear hbb
        have hbj : bb[j2]'(by omega) = [V.vec (bvs (actR a gs n.clocks.length j2)) n.clocks.length] := by rw [List.getElem?_eq_getElem (by omega)] at hbj?; exact Option.some.inj hbj?
        clear hbj?
        obtain ⟨rr, hrr, hrl, hrg⟩ : ∃ rr, bvs (actR a gs n.clocks.length j2) = rr ∧ rr.length = n.clocks.length ∧ ∀ c, c < n.clocks.length → rr[c]? = some [V.bool (actB a gs ((c : Int) + 1) j2)] := ⟨_, rfl, by simp [bvs, actR], fun c hc => by simp [bvs, actR, hc]⟩
        rw [hrr] at hbj
        clear hrr
        have c2 := ivs_get hx?
        have c3 : (ivs s.locs)[i]'(by omega) = [V.int .i64 j2] := by rw [List.getElem?_eq_getElem (by omega)] at c2; exact Option.some.inj c2
        generalize hX : (fun c => busyF gs c (n.autos.take i) (s.locs.take i)) = X
        have hX' : ∀ c, busyF gs c (n.autos.take (i + 1)) (s.locs.take (i + 1)) = (X c || actB a gs ((c : Int) + 1) j2) := fun c => by rw [hstep, ← hX]
        have h00 : rowF n.clocks.length X = rowF n.clocks.length (fun q => if q < 0 then X q || actB a gs ((q : Int) + 1) j2 else X q) := rowF_ext fun c _ => by simp
        simp only [gsV, vl, NetD.cells, AutoD.cells] at hc
        repeat' (first
 |refine aK fun K hK=>?_|refine Step.by1 ?_|refine sE (by decide) ?_|refine cz rfl ?_|refine Fork.by2 (fun h=>?_) fun h=>?_
 |((first|refine aR ?_|refine aX (id:=10) 13 mixed (by decide) ?_|refine aP1 (f:=99) rfl rfl (hc) rfl rfl rfl ?_);simp [gsV, vl, NetD.cells, StateD.cells, AutoD.cells, hlt, hlt', hls, hls', haa, hbl, hbj, hjl, il, c2, c3])
 |(refine Split.by2 (fun h=>?_) (fun h=>?_)<;>(simp [h, gsV, vl, NetD.cells, StateD.cells, AutoD.cells, hlt, hlt', hls, hls', haa, hbl, hbj, hjl, il, c2, c3]))
 |(apply hK;clear hK K)|refine AWh ‹_› ?_)
        refine aL [2, 3, 4, 9, 32, 33, 34, 49, 50] (fun c : Nat => [(51, .int .i64 c)]) (fun c => [.var n.cells, .var s.cells, .row 4 0 0 true (rowF n.clocks.length (fun q => if q < c then X q || actB a gs ((q : Int) + 1) j2 else X q)), .var a.cells]) (fun c => c ≤ n.clocks.length) (fun c => n.clocks.length - c) 0 (Nat.zero_le _) (by rw [h00]; apply Weak.mk' <;> simp [gsV, vl, NetD.cells, StateD.cells, AutoD.cells]) (fun _ _ => rfl) ?_
        clear h00
        intro c hcN
        by_cases hlc : c < n.clocks.length
        · have hlc' : (c : Int) < n.clocks.length := by omega
          have w2 : IntKind.i64.wrap ((c : Int) + 1) = c + 1 := wI (by omega) (by omega)
          have hrk? := hrg c hlc
          have hrk : rr[c]'(by omega) = [V.bool (actB a gs ((c : Int) + 1) j2)] := by rw [List.getElem?_eq_getElem (by omega)] at hrk?; exact Option.some.inj hrk?
          obtain ⟨Y, hY⟩ : ∃ Y : Nat → Bool, (fun q => if q < c then X q || actB a gs ((q : Int) + 1) j2 else X q) = Y := ⟨_, rfl⟩
          have hYc : Y c = X c := by rw [← hY]; simp
          have hg? := rowF_get (x := Y) hlc
          have hg : (rowF n.clocks.length Y)[c]'(by simpa using hlc) = [V.bool (Y c)] := by rw [List.getElem?_eq_getElem (by simpa using hlc)] at hg?; exact Option.some.inj hg?
          rw [hYc] at hg? hg
          have hnx : rowF n.clocks.length (fun q => if q < c + 1 then X q || actB a gs ((q : Int) + 1) j2 else X q) = (rowF n.clocks.length Y).set c [V.bool (X c || actB a gs ((c : Int) + 1) j2)] := by
            rw [rowF_set, ← hY]
            refine rowF_ext fun q _ => ?_
            by_cases e : q = c
            · subst e; simp
            · show (if q < c + 1 then _ else _) = if q = c then _ else if q < c then _ else _
              by_cases e2 : q < c
              · rw [if_neg e, if_pos e2, if_pos (by omega)]
              · rw [if_neg e, if_neg e2, if_neg (by omega)]
          rw [hY]
          have hrfl : (rowF n.clocks.length Y).length = n.clocks.length := rowF_len
          generalize X c = xc at *
          generalize actB a gs ((c : Int) + 1) j2 = mc at *
          cases xc
          · cases mc
            · repeat' (first
 |refine aK fun K hK=>?_|refine Step.by1 ?_|refine sE (by decide) ?_|refine cz rfl ?_|refine Fork.by2 (fun h=>?_) fun h=>?_
 |(refine aR ?_;simp [hrl, hrk, hlc, hlc', w2, hg, hg?, hrfl])
 |(refine Split.by2 (fun h=>?_) (fun h=>?_)<;>(simp [h, hrl, hrk, hlc, hlc', w2, hg, hg?, hrfl]))
 |(apply hK;clear hK K)|refine AWh ‹_› ?_)
              refine ⟨c + 1, by omega, by omega, ?_⟩
              rw [hnx]
              apply Weak.mk' <;> simp [gsV, vl, NetD.cells, StateD.cells, AutoD.cells]
            · repeat' (first
 |refine aK fun K hK=>?_|refine Step.by1 ?_|refine sE (by decide) ?_|refine cz rfl ?_|refine Fork.by2 (fun h=>?_) fun h=>?_
 |(refine aR ?_;simp [hrl, hrk, hlc, hlc', w2, hg, hg?, hrfl])
 |(refine Split.by2 (fun h=>?_) (fun h=>?_)<;>(simp [h, hrl, hrk, hlc, hlc', w2, hg, hg?, hrfl]))
 |(apply hK;clear hK K)|refine AWh ‹_› ?_)
              refine ⟨c + 1, by omega, by omega, ?_⟩
              rw [hnx]
              apply Weak.mk' <;> simp [gsV, vl, NetD.cells, StateD.cells, AutoD.cells]
          · repeat' (first
 |refine aK fun K hK=>?_|refine Step.by1 ?_|refine sE (by decide) ?_|refine cz rfl ?_|refine Fork.by2 (fun h=>?_) fun h=>?_
 |(refine aR ?_;simp [hrl, hrk, hlc, hlc', w2, hg, hg?, hrfl])
 |(refine Split.by2 (fun h=>?_) (fun h=>?_)<;>(simp [h, hrl, hrk, hlc, hlc', w2, hg, hg?, hrfl]))
 |(apply hK;clear hK K)|refine AWh ‹_› ?_)
            refine ⟨c + 1, by omega, by omega, ?_⟩
            rw [hnx]
            apply Weak.mk' <;> simp [gsV, vl, NetD.cells, StateD.cells, AutoD.cells]
        · obtain rfl : c = n.clocks.length := by omega
          have hfin : rowF n.clocks.length (fun q => if q < n.clocks.length then X q || actB a gs ((q : Int) + 1) j2 else X q) = rowF n.clocks.length (fun c => busyF gs c (n.autos.take (i + 1)) (s.locs.take (i + 1))) := rowF_ext fun q hq => by rw [if_pos hq, hX']
          rw [hfin]
          repeat' (first
 |refine aK fun K hK=>?_|refine Step.by1 ?_|refine sE (by decide) ?_|refine cz rfl ?_|refine Fork.by2 (fun h=>?_) fun h=>?_
 |(refine aR ?_;simp [w1])
 |(refine Split.by2 (fun h=>?_) (fun h=>?_)<;>(simp [h, w1]))
 |(apply hK;clear hK K)|refine AWh ‹_› ?_)
          refine ⟨i + 1, by omega, by omega, ?_⟩
          apply Weak.mk' <;> simp [gsV, vl, NetD.cells, StateD.cells, AutoD.cells]
      · obtain rfl : i = n.autos.length := by omega
        rw [List.take_length, hsl, List.take_length]
        obtain ⟨Z, hZ⟩ : ∃ Z : Nat → Bool, (fun c => busyF gs c n.autos s.locs) = Z := ⟨_, rfl⟩
        have hZ' : ∀ c, busyF gs c n.autos s.locs = Z c := fun c => by rw [← hZ]
        rw [hZ]
        have hzl : (rowF n.clocks.length Z).length = n.clocks.length := rowF_len
        repeat' (first
 |refine aK fun K hK=>?_|refine Step.by1 ?_|refine sE (by decide) ?_|refine cz rfl ?_|refine Fork.by2 (fun h=>?_) fun h=>?_
 |(refine aR ?_;simp [gsV, vl, NetD.cells, StateD.cells])
 |(refine Split.by2 (fun h=>?_) (fun h=>?_)<;>(simp [h, gsV, vl, NetD.cells, StateD.cells]))
 |(apply hK;clear hK K)|refine AWh ‹_› ?_)
        refine AW_nilrow 14 3 rfl (by simp) ?_
        refine aL [68, 69] (fun k : Nat => [(14, .ref 3 (idleLk n s gs k).length 0 (idleLk n s gs k).length), (70, .int .i64 k)]) (fun k => [.var n.cells, .var s.cells, .row 4 0 0 true (rowF n.clocks.length Z), .row 3 (idleLk n s gs k).length 0 true (ivs (idleLk n s gs k))]) (fun k => k ≤ n.clocks.length) (fun k => n.clocks.length - k) 0 (Nat.zero_le _) (by apply Weak.mk' <;> simp [gsV, vl, NetD.cells, StateD.cells, idleLk, ivs]) (fun _ _ => rfl) ?_
        intro k hk
        have hll2 := idleLk_len (n := n) (s := s) (gs := gs) (k := k)
        by_cases hlt : k < n.clocks.length
        · have hlt' : (k : Int) < n.clocks.length := by omega
          have w1 : IntKind.i64.wrap ((k : Int) + 1) = k + 1 := wI (by omega) (by omega)
          have hby : ((idleLk n s gs k).length + 1) * 8 ≤ 140737488355328 := by omega
          have hsu := idleLk_succ (n := n) (s := s) (gs := gs) (k := k)
          rw [hZ'] at hsu
          have hg? := rowF_get (x := Z) hlt
          have hg : (rowF n.clocks.length Z)[k]'(by simpa using hlt) = [V.bool (Z k)] := by rw [List.getElem?_eq_getElem (by simpa using hlt)] at hg?; exact Option.some.inj hg?
          have hil : (ivs (idleLk n s gs k)).length = (idleLk n s gs k).length := ivs_len
          generalize Z k = b at *
          cases b
          · rw [if_neg (by simp)] at hsu
            repeat' (first
 |refine aK fun K hK=>?_|refine Step.by1 ?_|refine sE (by decide) ?_|refine cz rfl ?_|refine Fork.by2 (fun h=>?_) fun h=>?_
 |(refine aR ?_;simp [hzl, hg, hg?, hlt, hlt', w1, hby, hil])
 |(refine Split.by2 (fun h=>?_) (fun h=>?_)<;>(simp [h, hzl, hg, hg?, hlt, hlt', w1, hby, hil]))
 |(apply hK;clear hK K)|refine AWh ‹_› ?_)
            refine ⟨k + 1, by omega, by omega, ?_⟩
            rw [hsu]
            apply Weak.mk' <;> simp [gsV, vl, NetD.cells, StateD.cells, ivs]
          · rw [if_pos rfl] at hsu
            repeat' (first
 |refine aK fun K hK=>?_|refine Step.by1 ?_|refine sE (by decide) ?_|refine cz rfl ?_|refine Fork.by2 (fun h=>?_) fun h=>?_
 |(refine aR ?_;simp [hzl, hg, hg?, hlt, hlt', w1])
 |(refine Split.by2 (fun h=>?_) (fun h=>?_)<;>(simp [h, hzl, hg, hg?, hlt, hlt', w1]))
 |(apply hK;clear hK K)|refine AWh ‹_› ?_)
            refine ⟨k + 1, by omega, by omega, ?_⟩
            rw [hsu]
            apply Weak.mk' <;> simp [gsV, vl, NetD.cells, StateD.cells]
        · obtain rfl : k = n.clocks.length := by omega
          repeat' (first
 |refine aK fun K hK=>?_|refine Step.by1 ?_|refine sE (by decide) ?_|refine cz rfl ?_|refine Fork.by2 (fun h=>?_) fun h=>?_
 |(refine aR ?_;simp [gsV, vl])
 |(refine Split.by2 (fun h=>?_) (fun h=>?_)<;>(simp [h, gsV, vl]))
 |(apply hK;clear hK K)|refine AWh ‹_› ?_)
          refine retq2 (.inr (.inr ⟨_, _, rfl, rfl, rfl, fun i u s hu hs => ?_, fun i j u u' q hu hu' e e' => ?_⟩))
          · rcases i with _ | _ | i
            · cases hu; cases hs; exact .inr ⟨3, _, 3, _, by simp [ivs], rfl, rfl⟩
            · cases hu; cases hs; exact .inl ⟨rfl, rfl⟩
            · simp at hu
          · rcases i with _ | _ | i <;> rcases j with _ | _ | j <;> simp at hu hu' <;> subst hu <;> subst hu' <;> simp_all [V.refBlk]
  · rw [if_pos (show e0 ≠ 0 from he), if_pos (show e0 ≠ 0 from he)]
    refine PCall.nilfst ?_ (by simp)
    refine pB Tryz.func45 rfl (by decide) Tryz.ntmps45 (by simp) Tryz.results45 ?_
    repeat' (first
 |refine aK fun K hK=>?_|refine Step.by1 ?_|refine sE (by decide) ?_|refine cz rfl ?_|refine Fork.by2 (fun h=>?_) fun h=>?_
 |((first|refine aR ?_|refine aC (f:=98) rfl rfl (hb) rfl rfl rfl ?_);simp [gsV, vl, NetD.cells, he])
 |(refine Split.by2 (fun h=>?_) (fun h=>?_)<;>(simp [h, gsV, vl, NetD.cells, he]))
 |(apply hK;clear hK K)|refine AWh ‹_› ?_)
    exact retq2 (cE rfl rfl)
end Go.Proofs.YtgmlimipejcpgaaGreatDoor
end
