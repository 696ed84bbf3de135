/-
  YtgmlimipejcpgaaGreatDoorLp09: steps of the proof of a law of the program: what these texts prove holds under the hypotheses that their theorems name, and no others.
-/
import Derived.Test.YtgmlimipejcpgaaGreatDoorLp08
section
set_option linter.unusedSimpArgs false
set_option linter.unusedVariables false
namespace Go.Proofs.YtgmlimipejcpgaaGreatDoor
open Go Go.AM Fx
theorem rows3V_at {P : List (List (List Int))} {i : Nat} (hi : i < P.length) : rows3V (P.take (i + 1)) = rows3V (P.take i) ++ [[V.vec (rows2V P[i]) P[i].length]] := by
  unfold rows3V; rw [List.take_add_one, List.getElem?_eq_getElem hi, List.map_append]; rfl
set_option maxRecDepth 20000 in
set_option maxHeartbeats 16000000 in
theorem r_Plan26 (n : NetD) (hn : n.ok) (gs : List (List PartD)) (hgl : gs.length ≤ 1048576) (hgs : ∀ g ∈ gs, okGoal g) (he : lookE n gs = 0) :
    PC 39 [.agg n.cells, gsV gs] (.tup [.agg [halfV (luP n lowB gs), halfV (luP n upB gs)], .int .i64 0]) := by
  have hb := r_Bad n hn gs hgl hgs
  have hal := hn.2.2.2.1
  rw [he] at hb
  simp only [NetD.cells, vl, gsV] at hb
  refine pB Tryz.func39 rfl (by decide) Tryz.ntmps39 (by simp) Tryz.results39 ?_
  repeat' (first
 |refine aK fun K hK=>?_|refine Step.by1 ?_|refine sE (by decide) ?_|refine cz rfl ?_|refine Fork.by2 (fun h=>?_) fun h=>?_
 |((first|refine aR ?_|refine aC (f:=100) rfl rfl (hb) rfl rfl rfl ?_);simp [NetD.cells, vl, gsV])
 |(refine Split.by2 (fun h=>?_) (fun h=>?_)<;>(simp [h, NetD.cells, vl, gsV]))
 |(apply hK;clear hK K)|refine AWh ‹_› ?_)
  refine AW_nilcell 2 0 54 (cs := [.nils, .nils]) rfl rfl (by simp) ?_
  refine AW_nilcell 2 1 54 (cs := [.ref 3 0 0 0, .nils]) rfl rfl (by simp) ?_
  refine aL [1, 2, 4, 7] (fun i : Nat => [(8, .int .i64 i)]) (fun i => [.var n.cells, .var [.nils, .nils], .var [.ref 3 i 0 i, .ref 4 i 0 i], .row 54 i 0 true (rows3V ((luP n lowB gs).take i)), .row 54 i 0 true (rows3V ((luP n upB gs).take i))]) (fun i => i ≤ n.autos.length) (fun i => n.autos.length - i) 0 (Nat.zero_le _)
    (by apply Weak.mk' <;> simp [NetD.cells, vl, gsV, rows3V]) (fun _ _ => rfl) ?_
  intro i hi
  by_cases hlt : i < n.autos.length
  · obtain ⟨a, haa⟩ : ∃ a, n.autos[i] = a := ⟨_, rfl⟩
    have ham : a ∈ n.autos := haa ▸ List.getElem_mem hlt
    have hlt' : (i : Int) < n.autos.length := by omega
    have w1 : IntKind.i64.wrap ((i : Int) + 1) = i + 1 := wI (by omega) (by omega)
    have hby : (i + 1) * 24 ≤ 140737488355328 := by omega
    have hno := r_numbers26 n hn a ham gs hgl hgs he
    simp only [NetD.cells, AutoD.cells, vl, gsV] at hno
    have hl1 : (luP n lowB gs).length = n.autos.length := by simp [luP]
    have hl2 : (luP n upB gs).length = n.autos.length := by simp [luP]
    have s1 := rows3V_at (P := luP n lowB gs) (i := i) (by omega)
    have s2 := rows3V_at (P := luP n upB gs) (i := i) (by omega)
    have e1 : (luP n lowB gs)[i]'(by omega) = luM a n.clocks.length (luB a n.clocks.length lowB gs) := by simp [luP, haa]
    have e2 : (luP n upB gs)[i]'(by omega) = luM a n.clocks.length (luB a n.clocks.length upB gs) := by simp [luP, haa]
    rw [e1, luM_len] at s1
    rw [e2, luM_len] at s2
    have r1 : (rows3V ((luP n lowB gs).take i)).length = i := by simp [rows3V, hl1]; omega
    have r2 : (rows3V ((luP n upB gs).take i)).length = i := by simp [rows3V, hl2]; omega
    generalize rows3V ((luP n lowB gs).take i) = A at *
    generalize rows3V ((luP n upB gs).take i) = C at *
    generalize rows2V (luM a n.clocks.length (luB a n.clocks.length lowB gs)) = X at *
    generalize rows2V (luM a n.clocks.length (luB a n.clocks.length upB gs)) = Y at *
    repeat' (first
 |refine aK fun K hK=>?_|refine Step.by1 ?_|refine sE (by decide) ?_|refine cz rfl ?_|refine Fork.by2 (fun h=>?_) fun h=>?_
 |((first|refine aR ?_|refine aX (id:=8) 12 mixed (by decide) ?_|refine aP1 (f:=107) rfl rfl (hno) rfl rfl rfl ?_);simp [NetD.cells, AutoD.cells, vl, gsV, hlt, hlt', haa, w1, hby, r1, r2])
 |(refine Split.by2 (fun h=>?_) (fun h=>?_)<;>(simp [h, NetD.cells, AutoD.cells, vl, gsV, hlt, hlt', haa, w1, hby, r1, r2]))
 |(apply hK;clear hK K)|refine AWh ‹_› ?_)
    refine ⟨i + 1, by omega, by omega, ?_⟩
    rw [s1, s2]
    apply Weak.mk' <;> simp [NetD.cells, vl, gsV]
  · obtain rfl : i = n.autos.length := by omega
    have hl1 : (luP n lowB gs).length = n.autos.length := by simp [luP]
    have hl2 : (luP n upB gs).length = n.autos.length := by simp [luP]
    rw [List.take_of_length_le (by omega), List.take_of_length_le (by omega)]
    repeat' (first
 |refine aK fun K hK=>?_|refine Step.by1 ?_|refine sE (by decide) ?_|refine cz rfl ?_|refine Fork.by2 (fun h=>?_) fun h=>?_
 |(refine aR ?_;simp [NetD.cells, vl, gsV])
 |(refine Split.by2 (fun h=>?_) (fun h=>?_)<;>(simp [h, NetD.cells, vl, gsV]))
 |(apply hK;clear hK K)|refine AWh ‹_› ?_)
    have r1 : (rows3V (luP n lowB gs)).length = n.autos.length := by simp [rows3V, hl1]
    have r2 : (rows3V (luP n upB gs)).length = n.autos.length := by simp [rows3V, hl2]
    exact retq2ct rfl (by simp) (.inl ⟨3, by simp [Go.AM.frz, halfV, r1, r2, hl1, hl2], rfl⟩)
theorem r_PlanBad26 (n : NetD) (hn : n.ok) (gs : List (List PartD)) (hgl : gs.length ≤ 1048576) (hgs : ∀ g ∈ gs, okGoal g) (he : lookE n gs ≠ 0) :
    PC 39 [.agg n.cells, gsV gs] (.tup [.agg [.nils, .nils], .int .i64 (lookE n gs)]) := by
  have hb := r_Bad n hn gs hgl hgs
  generalize lookE n gs = e at *
  simp only [NetD.cells, vl, gsV] at hb
  refine pB Tryz.func39 rfl (by decide) Tryz.ntmps39 (by simp) Tryz.results39 ?_
  repeat' (first
 |refine aK fun K hK=>?_|refine Step.by1 ?_|refine sE (by decide) ?_|refine cz rfl ?_|refine Fork.by2 (fun h=>?_) fun h=>?_
 |((first|refine aR ?_|refine aC (f:=100) rfl rfl (hb) rfl rfl rfl ?_);simp [NetD.cells, vl, gsV, he])
 |(refine Split.by2 (fun h=>?_) (fun h=>?_)<;>(simp [h, NetD.cells, vl, gsV, he]))
 |(apply hK;clear hK K)|refine AWh ‹_› ?_)
  exact retq2ct rfl (by simp) (cE (by simp) (by simp))
theorem c_luPlanBad (n : NetD) (hn : n.ok) (gs : List (List PartD)) (hgl : gs.length ≤ 1048576) (hgs : ∀ g ∈ gs, okGoal g) (he : lookE n gs ≠ 0) :
    PC 38 [.agg n.cells, gsV gs] (.tup [.agg [.nils, .nils], .int .i64 (lookE n gs)]) := by
  have hc := c_luLook n hn gs hgl hgs
  generalize lookE n gs = e at *
  simp only [NetD.cells, vl, gsV] at hc
  refine pB Tryz.func38 rfl (by decide) Tryz.ntmps38 (by simp) Tryz.results38 ?_
  repeat' (first
 |refine aK fun K hK=>?_|refine Step.by1 ?_|refine sE (by decide) ?_|refine cz rfl ?_|refine Fork.by2 (fun h=>?_) fun h=>?_
 |((first|refine aR ?_|refine aC (f:=103) rfl rfl (hc) rfl rfl rfl ?_);simp [NetD.cells, vl, gsV, he])
 |(refine Split.by2 (fun h=>?_) (fun h=>?_)<;>(simp [h, NetD.cells, vl, gsV, he]))
 |(apply hK;clear hK K)|refine AWh ‹_› ?_)
  exact retq2ct rfl (by simp) (cE (by simp) (by simp))
theorem PCall.nil2v {f : Nat} {args : List V} {v : V} (hc : PCall Tryz.prog GV f args (.tup [.nils, .nils, v])) (hv : v.isOwn = false) : PCall Tryz.prog GV f args (.tup [.vec [] 0, .vec [] 0, v]) :=
  ⟨hc.1, fun G w cargs ha hg => (hc.2 G w cargs ha hg).mono fun e w' ⟨c, G', h1, h2, arr, h3, h4, h5, h6⟩ => ⟨c, G', h1, h2, arr, h3, h4, fun i u hi => by
    rcases i with _ | _ | i
    · simp at hi; subst hi
      have h7 : R G' w' true .nils (arr.getD 0 undef) := h5 0 .nils (by simp)
      exact h7.dn
    · simp at hi; subst hi
      have h7 : R G' w' true .nils (arr.getD 1 undef) := h5 1 .nils (by simp)
      exact h7.dn
    · exact h5 (i + 2) u (by simpa using hi), fun i j u w k hi hj hu hw hk hk' => by
    exfalso
    rcases i with _ | _ | i
    · simp at hi; subst hi; cases hu
    · simp at hi; subst hi; cases hu
    · have : u = v := by
        rcases i with _ | i
        · simpa using hi.symm
        · simp at hi
      rw [this, hv] at hu; cases hu⟩⟩
theorem luP_get {n : NetD} {so : Int → Bool} {gs : List (List PartD)} {k : Nat} (hk : k < n.autos.length) : (luP n so gs)[k]? = some (luM n.autos[k] n.clocks.length (luB n.autos[k] n.clocks.length so gs)) := by simp [luP, hk]
set_option maxRecDepth 20000 in
set_option maxHeartbeats 8000000 in
theorem r_At26 (n : NetD) (hn : n.ok) (au lo : Int) (gs : List (List PartD)) (hgl : gs.length ≤ 1048576) (hgs : ∀ g ∈ gs, okGoal g) :
    PC 37 [.agg n.cells, .int .i64 au, .int .i64 lo, gsV gs] (.tup [isV (luAtL n lowB au lo gs), isV (luAtL n upB au lo gs), .int .i64 (clksE n au lo gs)]) := by
  have hnl := hn.1.1
  unfold luAtL clksE
  by_cases he : lookE n gs = 0
  · rw [if_neg (show ¬ (lookE n gs ≠ 0) by simp [he]), if_neg (show ¬ (lookE n gs ≠ 0) by simp [he]), if_neg (show ¬ (lookE n gs ≠ 0) by simp [he])]
    have hb := r_Plan26 n hn gs hgl hgs he
    have l1 : (luP n lowB gs).length = n.autos.length := by simp [luP]
    have l2 : (luP n upB gs).length = n.autos.length := by simp [luP]
    simp only [gsV, vl, NetD.cells, halfV] at hb
    by_cases hbad : badLoc n au lo
    · rw [if_pos hbad, if_pos hbad, if_pos hbad]
      unfold badLoc at hbad
      generalize rows3V (luP n lowB gs) = X1 at *
      generalize rows3V (luP n upB gs) = X2 at *
      rw [l1, l2] at hb
      refine PCall.nil2v ?_ rfl
      refine pB Tryz.func37 rfl (by decide) Tryz.ntmps37 (by simp) Tryz.results37 ?_
      by_cases q : 0 ≤ au ∧ au < n.autos.length
      · obtain ⟨k2, hk⟩ := Int.eq_ofNat_of_zero_le q.1
        have hkl : k2 < n.autos.length := by omega
        have hkl' : (k2 : Int) < n.autos.length := by omega
        obtain ⟨a, haa⟩ : ∃ a, n.autos[k2] = a := ⟨_, rfl⟩
        have hgg : n.autos.getD au.toNat default = a := by rw [hk]; simp [List.getD, hkl, haa]
        rw [hgg] at hbad
        have hk0 : ¬ (k2 : Int) < 0 := by omega
        have hk1 : ¬ (n.autos.length : Int) ≤ k2 := by omega
        have hl3 : lo < 0 ∨ (a.locs.length : Int) ≤ lo := by omega
        subst hk
        repeat' (first
 |refine aK fun K hK=>?_|refine Step.by1 ?_|refine sE (by decide) ?_|refine cz rfl ?_|refine Fork.by2 (fun h=>?_) fun h=>?_
 |((first|refine aR ?_|refine aC (f:=39) rfl rfl (hb) rfl rfl rfl ?_);simp [gsV, vl, NetD.cells, AutoD.cells, hkl, hkl', haa, hk0, hk1])
 |(refine Split.by2 (fun h=>?_) (fun h=>?_)<;>(simp [h, gsV, vl, NetD.cells, AutoD.cells, hkl, hkl', haa, hk0, hk1]))
 |(apply hK;clear hK K)|refine AWh ‹_› ?_)
        all_goals first
          | (exfalso; omega)
          | exact retq3 (cE rfl rfl)
      · have q' : au < 0 ∨ (n.autos.length : Int) ≤ au := by omega
        repeat' (first
 |refine aK fun K hK=>?_|refine Step.by1 ?_|refine sE (by decide) ?_|refine cz rfl ?_|refine Fork.by2 (fun h=>?_) fun h=>?_
 |((first|refine aR ?_|refine aC (f:=39) rfl rfl (hb) rfl rfl rfl ?_);simp [gsV, vl, NetD.cells, AutoD.cells])
 |(refine Split.by2 (fun h=>?_) (fun h=>?_)<;>(simp [h, gsV, vl, NetD.cells, AutoD.cells]))
 |(apply hK;clear hK K)|refine AWh ‹_› ?_)
        all_goals first
          | (exfalso; omega)
          | exact retq3 (cE rfl rfl)
    · rw [if_neg hbad, if_neg hbad, if_neg hbad]
      unfold badLoc at hbad
      obtain ⟨k2, hk⟩ := Int.eq_ofNat_of_zero_le (show 0 ≤ au by omega)
      obtain ⟨j2, hj⟩ := Int.eq_ofNat_of_zero_le (show 0 ≤ lo by omega)
      subst hk; subst hj
      have hkl : k2 < n.autos.length := by omega
      have hkl' : (k2 : Int) < n.autos.length := by omega
      obtain ⟨a, haa⟩ : ∃ a, n.autos[k2] = a := ⟨_, rfl⟩
      have hgg : n.autos.getD ((k2 : Int)).toNat default = a := by simp [List.getD, hkl, haa]
      rw [hgg] at hbad ⊢
      have ham : a ∈ n.autos := haa ▸ List.getElem_mem hkl
      have hk0 : ¬ (k2 : Int) < 0 := by omega
      have hk1 : ¬ (n.autos.length : Int) ≤ k2 := by omega
      have hj0 : ¬ (j2 : Int) < 0 := by omega
      have hj1 : ¬ (a.locs.length : Int) ≤ j2 := by omega
      have hjl : j2 < a.locs.length := by omega
      have hjl' : (j2 : Int) < a.locs.length := by omega
      rw [show ((j2 : Int)).toNat = j2 by omega]
      have p1 := luP_get (n := n) (so := lowB) (gs := gs) hkl
      have p2 := luP_get (n := n) (so := upB) (gs := gs) hkl
      rw [haa] at p1 p2
      have m1 := luM_len (a := a) (N := n.clocks.length) (so := lowB) (gs := gs)
      have m2 := luM_len (a := a) (N := n.clocks.length) (so := upB) (gs := gs)
      generalize luP n lowB gs = P1 at *
      generalize luP n upB gs = P2 at *
      generalize luM a n.clocks.length (luB a n.clocks.length lowB gs) = Q1 at *
      generalize luM a n.clocks.length (luB a n.clocks.length upB gs) = Q2 at *
      have x1 := rows3V_get p1
      have x2 := rows3V_get p2
      have y1 := rows2V_get (List.getElem?_eq_getElem (l := Q1) (i := j2) (by omega))
      have y2 := rows2V_get (List.getElem?_eq_getElem (l := Q2) (i := j2) (by omega))
      have z1 : Q1.getD j2 [] = Q1[j2] := by simp [List.getD, List.getElem?_eq_getElem (show j2 < Q1.length by omega)]
      have z2 : Q2.getD j2 [] = Q2[j2] := by simp [List.getD, List.getElem?_eq_getElem (show j2 < Q2.length by omega)]
      rw [z1, z2]
      generalize Q1[j2] = R1 at *
      generalize Q2[j2] = R2 at *
      have k1 : (rows3V P1).length = n.autos.length := by simp [l1]
      have k2' : (rows3V P2).length = n.autos.length := by simp [l2]
      have k3 : (rows2V Q1).length = a.locs.length := by simp [m1]
      have k4 : (rows2V Q2).length = a.locs.length := by simp [m2]
      generalize rows3V P1 = X1 at *
      generalize rows3V P2 = X2 at *
      rw [l1, l2] at hb
      rw [m1] at x1
      rw [m2] at x2
      generalize rows2V Q1 = Y1 at *
      generalize rows2V Q2 = Y2 at *
      have x1' : X1[k2]'(by omega) = [V.vec Y1 a.locs.length] := by rw [List.getElem?_eq_getElem (by omega)] at x1; exact Option.some.inj x1
      have x2' : X2[k2]'(by omega) = [V.vec Y2 a.locs.length] := by rw [List.getElem?_eq_getElem (by omega)] at x2; exact Option.some.inj x2
      have y1' : Y1[j2]'(by omega) = [V.vec (ivs R1) R1.length] := by rw [List.getElem?_eq_getElem (by omega)] at y1; exact Option.some.inj y1
      have y2' : Y2[j2]'(by omega) = [V.vec (ivs R2) R2.length] := by rw [List.getElem?_eq_getElem (by omega)] at y2; exact Option.some.inj y2
      refine pB Tryz.func37 rfl (by decide) Tryz.ntmps37 (by simp) Tryz.results37 ?_
      repeat' (first
 |refine aK fun K hK=>?_|refine Step.by1 ?_|refine sE (by decide) ?_|refine cz rfl ?_|refine Fork.by2 (fun h=>?_) fun h=>?_
 |((first|refine aR ?_|refine aC (f:=39) rfl rfl (hb) rfl rfl rfl ?_|refine aX (id:=6) 17 mixed (by decide) ?_);simp [gsV, vl, NetD.cells, hkl, hkl', haa, hk0, hk1, hj0, hj1, hjl, hjl', AutoD.cells, x1, x2, y1, y2, x1', x2', y1', y2', k1, k2', k3, k4])
 |(refine Split.by2 (fun h=>?_) (fun h=>?_)<;>(simp [h, gsV, vl, NetD.cells, hkl, hkl', haa, hk0, hk1, hj0, hj1, hjl, hjl', AutoD.cells, x1, x2, y1, y2, x1', x2', y1', y2', k1, k2', k3, k4]))
 |(apply hK;clear hK K)|refine AWh ‹_› ?_)
      exact retq3 (cE (by simp [isV, ivs]) (by simp))
  · rw [if_pos (show lookE n gs ≠ 0 from he), if_pos (show lookE n gs ≠ 0 from he), if_pos (show lookE n gs ≠ 0 from he)]
    have hb := r_PlanBad26 n hn gs hgl hgs he
    generalize lookE n gs = e0 at *
    simp only [gsV, vl, NetD.cells] at hb
    refine PCall.nil2v ?_ rfl
    refine pB Tryz.func37 rfl (by decide) Tryz.ntmps37 (by simp) Tryz.results37 ?_
    repeat' (first
 |refine aK fun K hK=>?_|refine Step.by1 ?_|refine sE (by decide) ?_|refine cz rfl ?_|refine Fork.by2 (fun h=>?_) fun h=>?_
 |((first|refine aR ?_|refine aC (f:=39) rfl rfl (hb) rfl rfl rfl ?_);simp [gsV, vl, NetD.cells, he])
 |(refine Split.by2 (fun h=>?_) (fun h=>?_)<;>(simp [h, gsV, vl, NetD.cells, he]))
 |(apply hK;clear hK K)|refine AWh ‹_› ?_)
    exact retq3 (cE rfl rfl)
end Go.Proofs.YtgmlimipejcpgaaGreatDoor
end
