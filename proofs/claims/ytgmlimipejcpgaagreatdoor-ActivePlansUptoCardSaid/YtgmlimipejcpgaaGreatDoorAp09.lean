/-
  YtgmlimipejcpgaaGreatDoorAp09: steps of the proof of a law of the program: what these texts prove holds under the hypotheses that their theorems name, and no others.
-/
import Derived.Test.YtgmlimipejcpgaaGreatDoorAp08
section
set_option linter.unusedSimpArgs false
set_option linter.unusedVariables false
namespace Go.Proofs.YtgmlimipejcpgaaGreatDoor
open Go Go.AM Fx
set_option maxRecDepth 20000 in
set_option maxHeartbeats 16000000 in
theorem r_Idle24 (n : NetD) (hn : n.ok) (s : StateD) (hs : s.ok) (gs : List (List PartD)) (hgl : gs.length ≤ 1048576) (hgs : ∀ g ∈ gs, okGoal g) :
    PC 46 [.agg n.cells, .agg s.cells, gsV gs] (.tup [.own 3 (ivs (idleL n s gs)), .int .i64 (idleE n s gs)]) := by
  have hb := r_Bad n hn gs hgl hgs
  have hnl := hn.1.1
  have hal := hn.2.2.2.1
  have hr := r_Right13 n hn s hs
  have hEE : lookE n gs = 0 → ∀ a ∈ n.autos, okE a := fun h => edges_ok (netE_whole (look_ok h).1)
  unfold idleL idleE
  generalize lookE n gs = e0 at *
  simp only [gsV, vl, NetD.cells] at hb
  by_cases he : e0 = 0
  · rw [if_neg (show ¬ (e0 ≠ 0) by simp [he]), if_neg (show ¬ (e0 ≠ 0) by simp [he])]
    have hE := hEE he
    clear hEE
    rw [he] at hb
    cases hrs : rightSE n s
    · rw [if_pos rfl, if_pos rfl]
      rw [hrs] at hr
      refine PCall.nilfst ?_ (by simp)
      simp only [NetD.cells, StateD.cells, vl] at hr
      refine pB Tryz.func46 rfl (by decide) Tryz.ntmps46 (by simp) Tryz.results46 ?_
      repeat' (first
 |refine aK fun K hK=>?_|refine Step.by1 ?_|refine sE (by decide) ?_|refine cz rfl ?_|refine Fork.by2 (fun h=>?_) fun h=>?_
 |((first|refine aR ?_|refine aC (f:=100) rfl rfl (hb) rfl rfl rfl ?_|refine aC (f:=114) rfl rfl (hr) rfl rfl rfl ?_);simp [gsV, vl, NetD.cells, StateD.cells])
 |(refine Split.by2 (fun h=>?_) (fun h=>?_)<;>(simp [h, gsV, vl, NetD.cells, StateD.cells]))
 |(apply hK;clear hK K)|refine AWh ‹_› ?_)
      exact retq2 (cE rfl rfl)
    · rw [if_neg (by simp), if_neg (by simp)]
      obtain ⟨hsl, hsx⟩ := right_locs hrs
      rw [hrs] at hr
      clear hrs
      have il : (ivs s.locs).length = n.autos.length := by rw [ivs_len, hsl]
      simp only [NetD.cells, StateD.cells, vl] at hr
      refine pB Tryz.func46 rfl (by decide) Tryz.ntmps46 (by simp) Tryz.results46 ?_
      repeat' (first
 |refine aK fun K hK=>?_|refine Step.by1 ?_|refine sE (by decide) ?_|refine cz rfl ?_|refine Fork.by2 (fun h=>?_) fun h=>?_
 |((first|refine aR ?_|refine aC (f:=100) rfl rfl (hb) rfl rfl rfl ?_|refine aC (f:=114) rfl rfl (hr) rfl rfl rfl ?_);simp [gsV, vl, NetD.cells, StateD.cells])
 |(refine Split.by2 (fun h=>?_) (fun h=>?_)<;>(simp [h, gsV, vl, NetD.cells, StateD.cells]))
 |(apply hK;clear hK K)|refine AWh ‹_› ?_)
      refine AW_nilrow 9 3 rfl (by simp) ?_
      refine aL [2, 3, 4] (fun k : Nat => [(10, .int .i64 ((k : Int) + 1)), (9, .ref 2 (idleLk n s gs k).length 0 (idleLk n s gs k).length)]) (fun k => [.var n.cells, .var s.cells, .row 3 (idleLk n s gs k).length 0 true (ivs (idleLk n s gs k))]) (fun k => k ≤ n.clocks.length) (fun k => n.clocks.length - k) 0 (Nat.zero_le _) (by apply Weak.mk' <;> simp [gsV, vl, NetD.cells, StateD.cells, idleLk, ivs]) (fun _ _ => rfl) ?_
      intro k hk
      have hll2 := idleLk_len (n := n) (s := s) (gs := gs) (k := k)
      by_cases hlt : k < n.clocks.length
      · have hlt' : (k : Int) + 1 ≤ n.clocks.length := by omega
        have w1 : IntKind.i64.wrap ((k : Int) + 1 + 1) = k + 1 + 1 := wI (by omega) (by omega)
        have hby : ((idleLk n s gs k).length + 1) * 8 ≤ 140737488355328 := by omega
        have hsu := idleLk_succ (n := n) (s := s) (gs := gs) (k := k)
        have hil : (ivs (idleLk n s gs k)).length = (idleLk n s gs k).length := ivs_len
        generalize idleLk n s gs k = L at *
        repeat' (first
 |refine aK fun K hK=>?_|refine Step.by1 ?_|refine sE (by decide) ?_|refine cz rfl ?_|refine Fork.by2 (fun h=>?_) fun h=>?_
 |(refine aR ?_;simp [gsV, vl, NetD.cells, StateD.cells, hlt'])
 |(refine Split.by2 (fun h=>?_) (fun h=>?_)<;>(simp [h, gsV, vl, NetD.cells, StateD.cells, hlt']))
 |(apply hK;clear hK K)|refine AWh ‹_› ?_)
        refine aL [2, 3, 4, 9, 10] (fun i : Nat => [(11, .bool (!busyF gs k (n.autos.take i) (s.locs.take i))), (12, .int .i64 i)]) (fun _ => [.var n.cells, .var s.cells, .row 3 L.length 0 true (ivs L)]) (fun i => i ≤ n.autos.length) (fun i => n.autos.length - i) 0 (Nat.zero_le _) (by apply Weak.mk' <;> simp [gsV, vl, NetD.cells, StateD.cells, busyF]) (fun _ _ => rfl) ?_
        intro i hi
        by_cases hli : i < n.autos.length
        · obtain ⟨a, haa⟩ : ∃ a, n.autos[i] = a := ⟨_, rfl⟩
          have ha? : n.autos[i]? = some a := by rw [List.getElem?_eq_getElem hli, haa]
          have hls : i < s.locs.length := by omega
          obtain ⟨x, hxx⟩ : ∃ x, s.locs[i] = x := ⟨_, rfl⟩
          have hx? : s.locs[i]? = some x := by rw [List.getElem?_eq_getElem hls, hxx]
          obtain ⟨hx0, hxl⟩ := hsx i a x ha? hx?
          obtain ⟨j2, rfl⟩ := Int.eq_ofNat_of_zero_le hx0
          have hstep := busyF_take (gs := gs) (c := k) hsl ha? hx?
          rw [show ((j2 : Int)).toNat = j2 by omega] at hstep
          have ham : a ∈ n.autos := haa ▸ List.getElem_mem hli
          have hli' : (i : Int) < n.autos.length := by omega
          have hls' : (i : Int) < s.locs.length := by omega
          have hjl : j2 < a.locs.length := by omega
          have hjl' : (j2 : Int) < a.locs.length := by omega
          have w2 : IntKind.i64.wrap ((i : Int) + 1) = i + 1 := wI (by omega) (by omega)
          have hc := PCall.freeze (r_active a (hn.2.2.2.2 a ham) (hE a ham) ((k : Int) + 1) gs hgl hgs)
          obtain ⟨rr, hrr, hrl, hrg?⟩ : ∃ rr, bvs ((List.range a.locs.length).map (actB a gs ((k : Int) + 1))) = rr ∧ rr.length = a.locs.length ∧ rr[j2]? = some [V.bool (actB a gs ((k : Int) + 1) j2)] := ⟨_, rfl, by simp [bvs], by simp [bvs, hjl]⟩
          rw [hrr, hrl] at hc
          clear hrr
          have hrg : rr[j2]'(by omega) = [V.bool (actB a gs ((k : Int) + 1) j2)] := by rw [List.getElem?_eq_getElem (by omega)] at hrg?; exact Option.some.inj hrg?
          have c2 := ivs_get hx?
          have c3 : (ivs s.locs)[i]'(by omega) = [V.int .i64 j2] := by rw [List.getElem?_eq_getElem (by omega)] at c2; exact Option.some.inj c2
          simp only [gsV, vl, NetD.cells, AutoD.cells] at hc
          generalize busyF gs k (n.autos.take i) (s.locs.take i) = X at *
          generalize actB a gs ((k : Int) + 1) j2 = m at *
          cases m
          · rw [Bool.or_false] at hstep
            repeat' (first
 |refine aK fun K hK=>?_|refine Step.by1 ?_|refine sE (by decide) ?_|refine cz rfl ?_|refine Fork.by2 (fun h=>?_) fun h=>?_
 |((first|refine aR ?_|refine aX (id:=14) 15 mixed (by decide) ?_|refine aP1 (f:=101) rfl rfl (hc) rfl rfl rfl ?_);simp [gsV, vl, NetD.cells, StateD.cells, AutoD.cells, hli, hli', hls, hls', haa, hjl, hjl', il, c2, c3, hrl, hrg, hrg?, w2])
 |(refine Split.by2 (fun h=>?_) (fun h=>?_)<;>(simp [h, gsV, vl, NetD.cells, StateD.cells, AutoD.cells, hli, hli', hls, hls', haa, hjl, hjl', il, c2, c3, hrl, hrg, hrg?, w2]))
 |(apply hK;clear hK K)|refine AWh ‹_› ?_)
            refine ⟨i + 1, by omega, by omega, ?_⟩
            rw [hstep]
            apply Weak.mk' <;> simp [gsV, vl, NetD.cells, StateD.cells]
          · rw [Bool.or_true] at hstep
            repeat' (first
 |refine aK fun K hK=>?_|refine Step.by1 ?_|refine sE (by decide) ?_|refine cz rfl ?_|refine Fork.by2 (fun h=>?_) fun h=>?_
 |((first|refine aR ?_|refine aX (id:=14) 15 mixed (by decide) ?_|refine aP1 (f:=101) rfl rfl (hc) rfl rfl rfl ?_);simp [gsV, vl, NetD.cells, StateD.cells, AutoD.cells, hli, hli', hls, hls', haa, hjl, hjl', il, c2, c3, hrl, hrg, hrg?, w2])
 |(refine Split.by2 (fun h=>?_) (fun h=>?_)<;>(simp [h, gsV, vl, NetD.cells, StateD.cells, AutoD.cells, hli, hli', hls, hls', haa, hjl, hjl', il, c2, c3, hrl, hrg, hrg?, w2]))
 |(apply hK;clear hK K)|refine AWh ‹_› ?_)
            refine ⟨i + 1, by omega, by omega, ?_⟩
            rw [hstep]
            apply Weak.mk' <;> simp [gsV, vl, NetD.cells, StateD.cells]
        · obtain rfl : i = n.autos.length := by omega
          have e1 : s.locs.take n.autos.length = s.locs := by rw [hsl]; exact List.take_length
          rw [List.take_length, e1]
          generalize busyF gs k n.autos s.locs = b at *
          cases b
          · rw [if_neg (by simp)] at hsu
            repeat' (first
 |refine aK fun K hK=>?_|refine Step.by1 ?_|refine sE (by decide) ?_|refine cz rfl ?_|refine Fork.by2 (fun h=>?_) fun h=>?_
 |(refine aR ?_;simp [gsV, vl, NetD.cells, StateD.cells, w1, hby, hil])
 |(refine Split.by2 (fun h=>?_) (fun h=>?_)<;>(simp [h, gsV, vl, NetD.cells, StateD.cells, w1, hby, hil]))
 |(apply hK;clear hK K)|refine AWh ‹_› ?_)
            refine ⟨k + 1, by omega, by omega, ?_⟩
            rw [hsu]
            apply Weak.mk' <;> simp [gsV, vl, NetD.cells, StateD.cells, ivs]
          · rw [if_pos rfl] at hsu
            repeat' (first
 |refine aK fun K hK=>?_|refine Step.by1 ?_|refine sE (by decide) ?_|refine cz rfl ?_|refine Fork.by2 (fun h=>?_) fun h=>?_
 |(refine aR ?_;simp [gsV, vl, NetD.cells, StateD.cells, w1])
 |(refine Split.by2 (fun h=>?_) (fun h=>?_)<;>(simp [h, gsV, vl, NetD.cells, StateD.cells, w1]))
 |(apply hK;clear hK K)|refine AWh ‹_› ?_)
            refine ⟨k + 1, by omega, by omega, ?_⟩
            rw [hsu]
            apply Weak.mk' <;> simp [gsV, vl, NetD.cells, StateD.cells]
      · obtain rfl : k = n.clocks.length := by omega
        have hlt' : ¬ (n.clocks.length : Int) + 1 ≤ n.clocks.length := by omega
        repeat' (first
 |refine aK fun K hK=>?_|refine Step.by1 ?_|refine sE (by decide) ?_|refine cz rfl ?_|refine Fork.by2 (fun h=>?_) fun h=>?_
 |(refine aR ?_;simp [gsV, vl, NetD.cells, hlt'])
 |(refine Split.by2 (fun h=>?_) (fun h=>?_)<;>(simp [h, gsV, vl, NetD.cells, hlt']))
 |(apply hK;clear hK K)|refine AWh ‹_› ?_)
        refine retq2 (.inr (.inr ⟨_, _, rfl, rfl, rfl, fun i u s hu hs => ?_, fun i j u u' q hu hu' e e' => ?_⟩))
        · rcases i with _ | _ | i
          · cases hu; cases hs; exact .inr ⟨2, _, 3, _, by simp [ivs], rfl, rfl⟩
          · cases hu; cases hs; exact .inl ⟨rfl, rfl⟩
          · simp at hu
        · rcases i with _ | _ | i <;> rcases j with _ | _ | j <;> simp at hu hu' <;> subst hu <;> subst hu' <;> simp_all [V.refBlk]
  · rw [if_pos (show e0 ≠ 0 from he), if_pos (show e0 ≠ 0 from he)]
    refine PCall.nilfst ?_ (by simp)
    refine pB Tryz.func46 rfl (by decide) Tryz.ntmps46 (by simp) Tryz.results46 ?_
    repeat' (first
 |refine aK fun K hK=>?_|refine Step.by1 ?_|refine sE (by decide) ?_|refine cz rfl ?_|refine Fork.by2 (fun h=>?_) fun h=>?_
 |((first|refine aR ?_|refine aC (f:=100) rfl rfl (hb) rfl rfl rfl ?_);simp [gsV, vl, NetD.cells, he])
 |(refine Split.by2 (fun h=>?_) (fun h=>?_)<;>(simp [h, gsV, vl, NetD.cells, he]))
 |(apply hK;clear hK K)|refine AWh ‹_› ?_)
    exact retq2 (cE rfl rfl)
end Go.Proofs.YtgmlimipejcpgaaGreatDoor
end
section
set_option linter.unusedVariables false
set_option linter.unusedSimpArgs false
namespace Go.Proofs.YtgmlimipejcpgaaGreatDoor
open Go Go.AM Fx
section
variable {n : NetD} {gs : List (List PartD)}
theorem numb_eq {so : Int → Bool} (he : lookE n gs = 0) : numbE n so gs = some (raiseL so (guardsL n ++ gsG gs) (List.replicate n.clocks.length (-1))) := by
  obtain ⟨h0, hg⟩ := look_ok he
  have key : ∀ (gs : List (List PartD)) (c : List Int), (∀ g ∈ gs, goalE n g = 0) → numG n so gs c = some (raiseL so (gsG gs) c) := by
    intro gs
    induction gs with
    | nil => intro c _; rfl
    | cons g r ih =>
      intro c h
      rw [numG_cons, if_neg (by simp [h g (by simp)]), ih _ fun x hx => h x (by simp [hx])]
      unfold gsG raisePs
      rw [List.flatMap_cons, raiseL_append]
  unfold numbE
  rw [if_neg (by simp [h0]), key gs _ hg, raiseL_append]
def bigM (n : NetD) (so : Int → Bool) (gs : List (List PartD)) : List Int := raiseL so (guardsL n ++ gsG gs) (List.replicate n.clocks.length (-1))
theorem bigM_len {so : Int → Bool} : (bigM n so gs).length = n.clocks.length := by simp [bigM, raiseL_len]
end
end Go.Proofs.YtgmlimipejcpgaaGreatDoor
end
section
set_option linter.unusedSimpArgs false
set_option linter.unusedVariables false
namespace Go.Proofs.YtgmlimipejcpgaaGreatDoor
open Go Go.AM Fx
theorem r_MaxF (n : NetD) (hn : n.ok) (gs : List (List PartD)) (hgl : gs.length ≤ 1048576) (hgs : ∀ g ∈ gs, okGoal g) (he : lookE n gs = 0) :
    PC 27 [.agg n.cells, gsV gs] (.vec (ivs (bigM n (fun _ => true) gs)) n.clocks.length) := by
  have h := r_Max n hn gs hgl hgs
  have hm := numb_max n gs
  rw [numb_eq he] at hm
  cases hr : numbR n gs with
  | none => rw [hr] at hm; cases hm
  | some s =>
    rw [hr] at hm h
    have e : bigM n (fun _ => true) gs = maxL s.1 s.2 := by simpa [bigM] using hm
    have hl : (ivs (bigM n (fun _ => true) gs)).length = n.clocks.length := by rw [ivs_len, bigM_len]
    rw [← hl, e]
    exact PCall.freeze h
/-- A row while active clocks are written. -/
def rowQ (N : Nat) (M : List Int) (l : List Int) : List Int := (List.range N).map fun c : Nat => if ((c : Int) + 1) ∈ l then M.getD c 0 else -1
theorem rowQ_len {N : Nat} {M l : List Int} : (rowQ N M l).length = N := by simp [rowQ]
theorem rowQ_nil {N : Nat} {M : List Int} : rowQ N M [] = List.replicate N (-1) := by
  apply List.ext_getElem?
  intro i
  by_cases hi : i < N
  · simp [rowQ, hi]
  · rw [List.getElem?_eq_none (by rw [rowQ_len]; omega), List.getElem?_eq_none (by simp; omega)]
theorem rowQ_set {N c : Nat} {M l : List Int} (hc : c < N) : rowQ N M (l ++ [(c : Int) + 1]) = (rowQ N M l).set c (M.getD c 0) := by
  apply List.ext_getElem?
  intro i
  rw [List.getElem?_set]
  by_cases hi : i < N
  · by_cases e : c = i
    · subst e; simp [rowQ, hi]
    · have : ¬ ((i : Int) = (c : Int)) := by omega
      simp [rowQ, hi, e, this]
  · rw [List.getElem?_eq_none (by rw [rowQ_len]; omega)]
    split
    · rename_i e; subst e; omega
    · rw [List.getElem?_eq_none (by rw [rowQ_len]; omega)]
theorem ivs_set {l : List Int} {c : Nat} {v : Int} : ivs (l.set c v) = (ivs l).set c [V.int .i64 v] := by simp [ivs, List.map_set]
theorem actL_mem {a : AutoD} {gs : List (List PartD)} {loc k : Nat} {x : Int} : x ∈ actL a gs loc k ↔ ∃ c : Nat, c < k ∧ x = (c : Int) + 1 ∧ actB a gs ((c : Int) + 1) loc = true := by
  unfold actL
  rw [List.mem_map]
  constructor
  · rintro ⟨c, hc, rfl⟩
    obtain ⟨h1, h2⟩ := List.mem_filter.1 hc
    exact ⟨c, List.mem_range.1 h1, rfl, h2⟩
  · rintro ⟨c, h1, rfl, h2⟩
    exact ⟨c, List.mem_filter.2 ⟨List.mem_range.2 h1, h2⟩, rfl⟩
theorem rowQ_done {a : AutoD} {gs : List (List PartD)} {M : List Int} {k : Nat} : rowQ M.length M (actL a gs k M.length) = planRow a gs M k := by
  unfold rowQ planRow
  refine List.map_congr_left fun c hc => ?_
  have hc := List.mem_range.1 hc
  by_cases h : actB a gs ((c : Int) + 1) k = true
  · rw [if_pos h, if_pos (actL_mem.2 ⟨c, hc, rfl, h⟩)]
  · rw [if_neg h, if_neg fun hm => ?_]
    obtain ⟨d, _, h2, h3⟩ := actL_mem.1 hm
    have : d = c := by omega
    subst this
    exact h h3
theorem rows3V_takeS {P : List (List (List Int))} {i : Nat} {Q : List (List Int)} (h : P[i]? = some Q) : rows3V (P.take (i + 1)) = rows3V (P.take i) ++ [[V.vec (rows2V Q) Q.length]] := by
  unfold rows3V; rw [List.take_add_one, h, List.map_append]; rfl
theorem rows2V_takeS {P : List (List Int)} {i : Nat} {r : List Int} (h : P[i]? = some r) : rows2V (P.take (i + 1)) = rows2V (P.take i) ++ [[V.vec (ivs r) r.length]] := by
  unfold rows2V; rw [List.take_add_one, h, List.map_append]; rfl
set_option maxRecDepth 20000 in
set_option maxHeartbeats 16000000 in
theorem r_rows24 (n : NetD) (hn : n.ok) (gs : List (List PartD)) (hgl : gs.length ≤ 1048576) (hgs : ∀ g ∈ gs, okGoal g) (he : lookE n gs = 0) :
    PC 112 [.agg n.cells, gsV gs] (halfV (planP n gs (bigM n (fun _ => true) gs))) := by
  have hm := r_MaxF n hn gs hgl hgs he
  have hml : (bigM n (fun _ => true) gs).length = n.clocks.length := bigM_len
  have hno := r_None n hn.1.1
  have hnl := hn.1.1
  have hal := hn.2.2.2.1
  have hpl : (planP n gs (bigM n (fun _ => true) gs)).length = n.autos.length := by simp [planP]
  have hp? : ∀ (i : Nat) (a : AutoD), n.autos[i]? = some a → (planP n gs (bigM n (fun _ => true) gs))[i]? = some (planA gs (bigM n (fun _ => true) gs) a) := fun i a h => by simp [planP, h]
  generalize bigM n (fun _ => true) gs = M at *
  obtain ⟨PP, hPP⟩ : ∃ PP, planP n gs M = PP := ⟨_, rfl⟩
  rw [hPP] at hpl hp? ⊢
  have il : (ivs M).length = n.clocks.length := by rw [ivs_len, hml]
  rw [show (List.replicate n.clocks.length [V.int .i64 (-1)]) = ivs (rowQ n.clocks.length M []) by rw [rowQ_nil]; simp [ivs]] at hno
  have hno := hno
  unfold halfV
  simp only [gsV, vl, NetD.cells] at hm hno
  refine pB Tryz.func112 rfl (by decide) Tryz.ntmps112 (by simp) Tryz.results112 ?_
  repeat' (first
 |refine aK fun K hK=>?_|refine Step.by1 ?_|refine sE (by decide) ?_|refine cz rfl ?_|refine Fork.by2 (fun h=>?_) fun h=>?_
 |((first|refine aR ?_|refine aC (f:=27) rfl rfl (hm) rfl rfl rfl ?_);simp [gsV, vl, NetD.cells])
 |(refine Split.by2 (fun h=>?_) (fun h=>?_)<;>(simp [h, gsV, vl, NetD.cells]))
 |(apply hK;clear hK K)|refine AWh ‹_› ?_)
  refine AW_nilrow 6 54 rfl (by simp) ?_
  refine aL [1, 2, 5] (fun i : Nat => [(6, .ref 1 i 0 i), (7, .int .i64 i)]) (fun i => [.var n.cells, .row 54 i 0 true (rows3V (PP.take i))]) (fun i => i ≤ n.autos.length) (fun i => n.autos.length - i) 0 (Nat.zero_le _) (by apply Weak.mk' <;> simp [gsV, vl, NetD.cells, rows3V]) (fun _ _ => rfl) ?_
  intro i hi
  by_cases hlt : i < n.autos.length
  · obtain ⟨a, haa⟩ : ∃ a, n.autos[i] = a := ⟨_, rfl⟩
    have ha? : n.autos[i]? = some a := by rw [List.getElem?_eq_getElem hlt, haa]
    have ham : a ∈ n.autos := haa ▸ List.getElem_mem hlt
    have hlt' : (i : Int) < n.autos.length := by omega
    have w1 : IntKind.i64.wrap ((i : Int) + 1) = i + 1 := wI (by omega) (by omega)
    have hb1 : (i + 1) * 24 ≤ 140737488355328 := by omega
    have hQ := hp? i a ha?
    have hs3 := rows3V_takeS hQ
    have hpa? : ∀ k, k < a.locs.length → (planA gs M a)[k]? = some (planRow a gs M k) := fun k hk => by simp [planA, hk]
    have hpal : (planA gs M a).length = a.locs.length := by simp [planA]
    rw [hpal] at hs3
    obtain ⟨Q, hQQ⟩ : ∃ Q, planA gs M a = Q := ⟨_, rfl⟩
    rw [hQQ] at hs3 hpa? hpal
    have hlocs := (hn.2.2.2.2 a ham).2.1.1
    have hl3 : (rows3V (PP.take i)).length = i := by simp [hpl]; omega
    repeat' (first
 |refine aK fun K hK=>?_|refine Step.by1 ?_|refine sE (by decide) ?_|refine cz rfl ?_|refine Fork.by2 (fun h=>?_) fun h=>?_
 |(refine aR ?_;simp [gsV, vl, NetD.cells, hlt, hlt'])
 |(refine Split.by2 (fun h=>?_) (fun h=>?_)<;>(simp [h, gsV, vl, NetD.cells, hlt, hlt']))
 |(apply hK;clear hK K)|refine AWh ‹_› ?_)
    refine AW_nilrow 8 47 rfl (by simp) ?_
    refine aL [1, 2, 5, 6, 7] (fun k : Nat => [(8, .ref 2 k 0 k), (9, .int .i64 k)]) (fun k => [.var n.cells, .row 54 i 0 true (rows3V (PP.take i)), .row 47 k 0 true (rows2V (Q.take k))]) (fun k => k ≤ a.locs.length) (fun k => a.locs.length - k) 0 (Nat.zero_le _) (by apply Weak.mk' <;> simp [gsV, vl, NetD.cells, rows2V]) (fun _ _ => rfl) ?_
    intro k hk
    by_cases hlk : k < a.locs.length
    · have hlk' : (k : Int) < a.locs.length := by omega
      have w2 : IntKind.i64.wrap ((k : Int) + 1) = k + 1 := wI (by omega) (by omega)
      have hb2 : (k + 1) * 24 ≤ 140737488355328 := by omega
      have hcl := r_Clocks24 n hn i k gs hgl hgs
      have hgd : n.autos.getD ((i : Int)).toNat default = a := by simp [List.getD, ha?]
      have hbad : ¬ badLoc n i k := by unfold badLoc; rw [hgd]; omega
      have ec : clksL n i k gs = actL a gs k n.clocks.length := by
        unfold clksL
        rw [if_neg (by simp [he]), if_neg hbad, hgd]
        congr 1
      have ee : clksE n i k gs = 0 := by
        unfold clksE
        rw [if_neg (by simp [he]), if_neg hbad]
      rw [ec, ee] at hcl
      have hdone := rowQ_done (a := a) (gs := gs) (M := M) (k := k)
      rw [hml] at hdone
      have hol := actL_len (a := a) (gs := gs) (loc := k) (k := n.clocks.length)
      have hmem := fun x => (actL_mem (a := a) (gs := gs) (loc := k) (k := n.clocks.length) (x := x)).1
      generalize actL a gs k n.clocks.length = ON at *
      have iol : (ivs ON).length = ON.length := ivs_len
      have irl : ∀ l, (ivs (rowQ n.clocks.length M l)).length = n.clocks.length := fun l => by rw [ivs_len, rowQ_len]
      have hs2 := rows2V_takeS (hpa? k hlk)
      rw [← hdone, rowQ_len] at hs2
      have hl2 : (rows2V (Q.take k)).length = k := by simp [hpal]; omega
      simp only [gsV, vl, NetD.cells] at hcl
      repeat' (first
 |refine aK fun K hK=>?_|refine Step.by1 ?_|refine sE (by decide) ?_|refine cz rfl ?_|refine Fork.by2 (fun h=>?_) fun h=>?_
 |((first|refine aR ?_|refine AS_callO (f:=160) rfl rfl (hno) rfl rfl ?_|refine AS_callT (f:=34) rfl rfl (hcl) rfl rfl ?_);simp [gsV, vl, NetD.cells, AutoD.cells, hlt, hlt', haa, hlk, hlk', iol, irl])
 |(refine Split.by2 (fun h=>?_) (fun h=>?_)<;>(simp [h, gsV, vl, NetD.cells, AutoD.cells, hlt, hlt', haa, hlk, hlk', iol, irl]))
 |(apply hK;clear hK K)|refine AWh ‹_› ?_)
      refine aL [1, 2, 5, 6, 7, 8, 9, 10, 11] (fun q : Nat => [(13, .int .i64 q)]) (fun q => [.var n.cells, .row 54 i 0 true (rows3V (PP.take i)), .row 47 k 0 true (rows2V (Q.take k)), .row 3 0 0 true (ivs (rowQ n.clocks.length M (ON.take q))), .row 3 0 0 true (ivs ON)]) (fun q => q ≤ ON.length) (fun q => ON.length - q) 0 (Nat.zero_le _) (by apply Weak.mk' <;> simp [gsV, vl, NetD.cells]) (fun _ _ => rfl) ?_
      intro q hq
      by_cases hlq : q < ON.length
      · obtain ⟨c, hcN, hcx, _⟩ := hmem ON[q] (List.getElem_mem hlq)
        have hlq' : (q : Int) < ON.length := by omega
        have w3 : IntKind.i64.wrap ((q : Int) + 1) = q + 1 := wI (by omega) (by omega)
        have w4 : IntKind.i64.wrap ((c : Int) + 1 - 1) = c := by rw [wI (by omega) (by omega)]; omega
        have w5 : IntKind.i64.wrap (c : Int) = c := wI (by omega) (by omega)
        have hcN' : (c : Int) < n.clocks.length := by omega
        have c2 := ivs_get (r := ON) (c := q) (by rw [List.getElem?_eq_getElem hlq, hcx])
        have c3 : (ivs ON)[q]'(by omega) = [V.int .i64 ((c : Int) + 1)] := by rw [List.getElem?_eq_getElem (by omega)] at c2; exact Option.some.inj c2
        have hMc : M[c]? = some (M.getD c 0) := by have : c < M.length := by omega
                                                   simp [List.getD, this]
        have d2 := ivs_get hMc
        have d3 : (ivs M)[c]'(by omega) = [V.int .i64 (M.getD c 0)] := by rw [List.getElem?_eq_getElem (by omega)] at d2; exact Option.some.inj d2
        have hst : ivs (rowQ n.clocks.length M (ON.take (q + 1))) = (ivs (rowQ n.clocks.length M (ON.take q))).set c [V.int .i64 (M.getD c 0)] := by
          rw [List.take_add_one, List.getElem?_eq_getElem hlq, hcx]
          rw [show (some ((c : Int) + 1)).toList = [(c : Int) + 1] from rfl, rowQ_set hcN, ivs_set]
        have hrl := irl (ON.take q)
        obtain ⟨v0, hv0⟩ : ∃ v0, (rowQ n.clocks.length M (ON.take q))[c]? = some v0 := ⟨_, List.getElem?_eq_getElem (by rw [rowQ_len]; exact hcN)⟩
        have e2 := ivs_get hv0
        clear hv0
        generalize ivs (rowQ n.clocks.length M (ON.take q)) = RQ at *
        have e3 : RQ[c]'(by omega) = [V.int .i64 v0] := by rw [List.getElem?_eq_getElem (by omega)] at e2; exact Option.some.inj e2
        generalize M.getD c 0 = mc at *
        repeat' (first
 |refine aK fun K hK=>?_|refine Step.by1 ?_|refine sE (by decide) ?_|refine cz rfl ?_|refine Fork.by2 (fun h=>?_) fun h=>?_
 |((first|refine aR ?_|refine aX (id:=15) 15 mixed (by decide) ?_);simp [iol, hrl, il, hlq, hlq', c2, c3, d2, d3, w3, w4, w5, hcN, hcN', e2, e3])
 |(refine Split.by2 (fun h=>?_) (fun h=>?_)<;>(simp [h, iol, hrl, il, hlq, hlq', c2, c3, d2, d3, w3, w4, w5, hcN, hcN', e2, e3]))
 |(apply hK;clear hK K)|refine AWh ‹_› ?_)
        refine ⟨q + 1, by omega, by omega, ?_⟩
        rw [hst]
        apply Weak.mk' <;> simp [gsV, vl, NetD.cells]
      · obtain rfl : q = ON.length := by omega
        rw [List.take_length]
        have hrl := irl ON
        generalize ivs (rowQ n.clocks.length M ON) = RQ at *
        generalize rows2V (Q.take k) = RK at *
        repeat' (first
 |refine AW_view 10 rfl rfl (by simp [hrl]) ?_
 |refine aK fun K hK=>?_|refine Step.by1 ?_|refine sE (by decide) ?_|refine cz rfl ?_|refine Fork.by2 (fun h=>?_) fun h=>?_
 |(refine aR ?_;simp [iol, hl2, hb2, w2, hrl])
 |(refine Split.by2 (fun h=>?_) (fun h=>?_)<;>(simp [h, iol, hl2, hb2, w2, hrl]))
 |(apply hK;clear hK K)|refine AWh ‹_› ?_)
        refine ⟨k + 1, by omega, by omega, ?_⟩
        rw [hs2]
        apply Weak.mk' <;> simp [gsV, vl, NetD.cells]
    · obtain rfl : k = a.locs.length := by omega
      have e1 : Q.take a.locs.length = Q := by rw [← hpal]; exact List.take_length
      have hql : (rows2V Q).length = a.locs.length := by simp [hpal]
      rw [e1]
      generalize rows2V Q = RK at *
      generalize rows3V (PP.take i) = R3 at *
      repeat' (first
 |refine AW_view 8 rfl rfl (by simp [hql]) ?_
 |refine aK fun K hK=>?_|refine Step.by1 ?_|refine sE (by decide) ?_|refine cz rfl ?_|refine Fork.by2 (fun h=>?_) fun h=>?_
 |(refine aR ?_;simp [gsV, vl, NetD.cells, AutoD.cells, hlt, hlt', haa, hql, hl3, hb1, w1])
 |(refine Split.by2 (fun h=>?_) (fun h=>?_)<;>(simp [h, gsV, vl, NetD.cells, AutoD.cells, hlt, hlt', haa, hql, hl3, hb1, w1]))
 |(apply hK;clear hK K)|refine AWh ‹_› ?_)
      refine ⟨i + 1, by omega, by omega, ?_⟩
      rw [hs3]
      apply Weak.mk' <;> simp [gsV, vl, NetD.cells]
  · obtain rfl : i = n.autos.length := by omega
    have e1 : PP.take n.autos.length = PP := by rw [← hpl]; exact List.take_length
    have hql : (rows3V PP).length = n.autos.length := by simp [hpl]
    rw [e1, hpl]
    generalize rows3V PP = RK at *
    repeat' (first
 |refine AW_view 6 rfl rfl (by simp [hql]) ?_
 |refine aK fun K hK=>?_|refine Step.by1 ?_|refine sE (by decide) ?_|refine cz rfl ?_|refine Fork.by2 (fun h=>?_) fun h=>?_
 |(refine aR ?_;simp [gsV, vl, NetD.cells, hql])
 |(refine Split.by2 (fun h=>?_) (fun h=>?_)<;>(simp [h, gsV, vl, NetD.cells, hql]))
 |(apply hK;clear hK K)|refine AWh ‹_› ?_)
    exact r1q (cE (by simp [hpl]) (by simp))
end Go.Proofs.YtgmlimipejcpgaaGreatDoor
end
