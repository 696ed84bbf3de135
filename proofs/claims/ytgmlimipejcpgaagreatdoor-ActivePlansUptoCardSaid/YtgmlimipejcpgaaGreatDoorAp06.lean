/-
  YtgmlimipejcpgaaGreatDoorAp06: steps of the proof of a law of the program: what these texts prove holds under the hypotheses that their theorems name, and no others.
-/
import Derived.Test.YtgmlimipejcpgaaGreatDoorAp05
import Derived.Test.YtgmlimipejcpgaaGreatDoorCo30
section
set_option linter.unusedSimpArgs false
set_option linter.unusedVariables false
namespace Go.Proofs.YtgmlimipejcpgaaGreatDoor
open Go Go.AM Fx
set_option maxRecDepth 20000 in
set_option maxHeartbeats 8000000 in
theorem c_Clocks24 (n : NetD) (hn : n.ok) (au lo : Int) (gs : List (List PartD)) (hgl : gs.length ≤ 1048576) (hgs : ∀ g ∈ gs, okGoal g) :
    PC 33 [.agg n.cells, .int .i64 au, .int .i64 lo, gsV gs] (.tup [.own 3 (ivs (clksL n au lo gs)), .int .i64 (clksE n au lo gs)]) := by
  have hb := c_look n hn gs hgl hgs
  have hnl := hn.1.1
  have hof := fun a ha => c_ofA n hn a ha gs hgl hgs
  unfold clksL clksE
  generalize lookE n gs = e0 at *
  simp only [gsV, vl, NetD.cells] at hb
  by_cases he : e0 = 0
  · rw [if_neg (show ¬ (e0 ≠ 0) by simp [he]), if_neg (show ¬ (e0 ≠ 0) by simp [he])]
    rw [he] at hb
    by_cases hbad : badLoc n au lo
    · rw [if_pos hbad, if_pos hbad]
      unfold badLoc at hbad
      refine PCall.nilfst ?_ (by simp)
      refine pB Tryz.func33 rfl (by decide) Tryz.ntmps33 (by simp) Tryz.results33 ?_
      by_cases q : 0 ≤ au ∧ au < n.autos.length
      · obtain ⟨k2, hk⟩ := Int.eq_ofNat_of_zero_le q.1
        have hkl : k2 < n.autos.length := by omega
        have hkl' : (k2 : Int) < n.autos.length := by omega
        obtain ⟨a, haa⟩ : ∃ a, n.autos[k2] = a := ⟨_, rfl⟩
        have hgg : n.autos.getD au.toNat default = a := by rw [hk]; simp [List.getD, hkl, haa]
        rw [hgg] at hbad
        have hk0 : ¬ (k2 : Int) < 0 := by omega
        have hk1 : ¬ (n.autos.length : Int) ≤ k2 := by omega
        have hl3 : lo < 0 ∨ (a.locs.length : Int) ≤ lo := by omega
        subst hk
        repeat' (first
 |refine aK fun K hK=>?_|refine Step.by1 ?_|refine sE (by decide) ?_|refine cz rfl ?_|refine Fork.by2 (fun h=>?_) fun h=>?_
 |((first|refine aR ?_|refine aC (f:=98) rfl rfl (hb) rfl rfl rfl ?_);simp [gsV, vl, NetD.cells, AutoD.cells, hkl, hkl', haa, hk0, hk1])
 |(refine Split.by2 (fun h=>?_) (fun h=>?_)<;>(simp [h, gsV, vl, NetD.cells, AutoD.cells, hkl, hkl', haa, hk0, hk1]))
 |(apply hK;clear hK K)|refine AWh ‹_› ?_)
        all_goals first
          | (exfalso; omega)
          | exact retq2 (cE rfl rfl)
      · have q' : au < 0 ∨ (n.autos.length : Int) ≤ au := by omega
        repeat' (first
 |refine aK fun K hK=>?_|refine Step.by1 ?_|refine sE (by decide) ?_|refine cz rfl ?_|refine Fork.by2 (fun h=>?_) fun h=>?_
 |((first|refine aR ?_|refine aC (f:=98) rfl rfl (hb) rfl rfl rfl ?_);simp [gsV, vl, NetD.cells, AutoD.cells])
 |(refine Split.by2 (fun h=>?_) (fun h=>?_)<;>(simp [h, gsV, vl, NetD.cells, AutoD.cells]))
 |(apply hK;clear hK K)|refine AWh ‹_› ?_)
        all_goals first
          | (exfalso; omega)
          | exact retq2 (cE rfl rfl)
    · rw [if_neg hbad, if_neg hbad]
      unfold badLoc at hbad
      obtain ⟨k2, hk⟩ := Int.eq_ofNat_of_zero_le (show 0 ≤ au by omega)
      obtain ⟨j2, hj⟩ := Int.eq_ofNat_of_zero_le (show 0 ≤ lo by omega)
      subst hk; subst hj
      have hkl : k2 < n.autos.length := by omega
      have hkl' : (k2 : Int) < n.autos.length := by omega
      obtain ⟨a, haa⟩ : ∃ a, n.autos[k2] = a := ⟨_, rfl⟩
      have hgg : n.autos.getD ((k2 : Int)).toNat default = a := by simp [List.getD, hkl, haa]
      rw [hgg] at hbad ⊢
      have ham : a ∈ n.autos := haa ▸ List.getElem_mem hkl
      have hk0 : ¬ (k2 : Int) < 0 := by omega
      have hk1 : ¬ (n.autos.length : Int) ≤ k2 := by omega
      have hj0 : ¬ (j2 : Int) < 0 := by omega
      have hj1 : ¬ (a.locs.length : Int) ≤ j2 := by omega
      have hjl : j2 < a.locs.length := by omega
      have hjl' : (j2 : Int) < a.locs.length := by omega
      rw [show ((j2 : Int)).toNat = j2 by omega]
      have hc := hof a ham he
      obtain ⟨bb, hbb, hbl, hbj?⟩ : ∃ bb, markV a gs n.clocks.length = bb ∧ bb.length = a.locs.length ∧ bb[j2]? = some [V.vec (bvs (actR a gs n.clocks.length j2)) n.clocks.length] := ⟨_, rfl, by simp [markV], by simp [markV, hjl]⟩
      rw [hbb] at hc
      clear hbb hof
      have hbj : bb[j2]'(by omega) = [V.vec (bvs (actR a gs n.clocks.length j2)) n.clocks.length] := by rw [List.getElem?_eq_getElem (by omega)] at hbj?; exact Option.some.inj hbj?
      clear hbj?
      simp only [gsV, vl, NetD.cells, AutoD.cells] at hc
      obtain ⟨rr, hrr, hrl, hrg⟩ : ∃ rr, bvs (actR a gs n.clocks.length j2) = rr ∧ rr.length = n.clocks.length ∧ ∀ c, c < n.clocks.length → rr[c]? = some [V.bool (actB a gs ((c : Int) + 1) j2)] := ⟨_, rfl, by simp [bvs, actR], fun c hc => by simp [bvs, actR, hc]⟩
      rw [hrr] at hbj
      clear hrr
      refine pB Tryz.func33 rfl (by decide) Tryz.ntmps33 (by simp) Tryz.results33 ?_
      repeat' (first
 |refine aK fun K hK=>?_|refine Step.by1 ?_|refine sE (by decide) ?_|refine cz rfl ?_|refine Fork.by2 (fun h=>?_) fun h=>?_
 |((first|refine aR ?_|refine aC (f:=98) rfl rfl (hb) rfl rfl rfl ?_|refine aX (id:=7) 13 mixed (by decide) ?_|refine aP1 (f:=99) rfl rfl (hc) rfl rfl rfl ?_);simp [gsV, vl, NetD.cells, AutoD.cells, hkl, hkl', haa, hk0, hk1, hj0, hj1, hbl, hbj, hjl, hjl'])
 |(refine Split.by2 (fun h=>?_) (fun h=>?_)<;>(simp [h, gsV, vl, NetD.cells, AutoD.cells, hkl, hkl', haa, hk0, hk1, hj0, hj1, hbl, hbj, hjl, hjl']))
 |(apply hK;clear hK K)|refine AWh ‹_› ?_)
      refine AW_nilrow 11 3 rfl (by simp) ?_
      refine aL [54, 55] (fun k : Nat => [(11, .ref 1 (actL a gs j2 k).length 0 (actL a gs j2 k).length), (56, .int .i64 k)]) (fun k => [.var n.cells, .row 3 (actL a gs j2 k).length 0 true (ivs (actL a gs j2 k))]) (fun k => k ≤ n.clocks.length) (fun k => n.clocks.length - k) 0 (Nat.zero_le _) (by apply Weak.mk' <;> simp [gsV, vl, NetD.cells, AutoD.cells, actL, ivs]) (fun _ _ => rfl) ?_
      intro k hk
      have hll := actL_len (a := a) (gs := gs) (loc := j2) (k := k)
      by_cases hlt : k < n.clocks.length
      · have hlt' : (k : Int) < n.clocks.length := by omega
        have w1 : IntKind.i64.wrap ((k : Int) + 1) = k + 1 := wI (by omega) (by omega)
        have hby : ((actL a gs j2 k).length + 1) * 8 ≤ 140737488355328 := by omega
        have hsu := actL_succ (a := a) (gs := gs) (loc := j2) (k := k)
        have hrk : rr[k]'(by omega) = [V.bool (actB a gs ((k : Int) + 1) j2)] := by have := hrg k hlt; rw [List.getElem?_eq_getElem (by omega)] at this; exact Option.some.inj this
        have hil : (ivs (actL a gs j2 k)).length = (actL a gs j2 k).length := by simp [ivs]
        generalize actB a gs ((k : Int) + 1) j2 = b at *
        cases b
        · rw [if_neg (by simp)] at hsu
          repeat' (first
 |refine aK fun K hK=>?_|refine Step.by1 ?_|refine sE (by decide) ?_|refine cz rfl ?_|refine Fork.by2 (fun h=>?_) fun h=>?_
 |(refine aR ?_;simp [hrl, hrk, hlt, hlt', w1])
 |(refine Split.by2 (fun h=>?_) (fun h=>?_)<;>(simp [h, hrl, hrk, hlt, hlt', w1]))
 |(apply hK;clear hK K)|refine AWh ‹_› ?_)
          refine ⟨k + 1, by omega, by omega, ?_⟩
          rw [hsu]
          apply Weak.mk' <;> simp [gsV, vl, NetD.cells, AutoD.cells]
        · rw [if_pos rfl] at hsu
          repeat' (first
 |refine aK fun K hK=>?_|refine Step.by1 ?_|refine sE (by decide) ?_|refine cz rfl ?_|refine Fork.by2 (fun h=>?_) fun h=>?_
 |(refine aR ?_;simp [hrl, hrk, hlt, hlt', w1, hby, hil])
 |(refine Split.by2 (fun h=>?_) (fun h=>?_)<;>(simp [h, hrl, hrk, hlt, hlt', w1, hby, hil]))
 |(apply hK;clear hK K)|refine AWh ‹_› ?_)
          refine ⟨k + 1, by omega, by omega, ?_⟩
          rw [hsu]
          apply Weak.mk' <;> simp [gsV, vl, NetD.cells, AutoD.cells, ivs]
      · obtain rfl : k = n.clocks.length := by omega
        repeat' (first
 |refine aK fun K hK=>?_|refine Step.by1 ?_|refine sE (by decide) ?_|refine cz rfl ?_|refine Fork.by2 (fun h=>?_) fun h=>?_
 |(refine aR ?_;simp [gsV, vl])
 |(refine Split.by2 (fun h=>?_) (fun h=>?_)<;>(simp [h, gsV, vl]))
 |(apply hK;clear hK K)|refine AWh ‹_› ?_)
        refine retq2 (.inr (.inr ⟨_, _, rfl, rfl, rfl, fun i u s hu hs => ?_, fun i j u u' q hu hu' e e' => ?_⟩))
        · rcases i with _ | _ | i
          · cases hu; cases hs; exact .inr ⟨1, _, 3, _, by simp [ivs], rfl, rfl⟩
          · cases hu; cases hs; exact .inl ⟨rfl, rfl⟩
          · simp at hu
        · rcases i with _ | _ | i <;> rcases j with _ | _ | j <;> simp at hu hu' <;> subst hu <;> subst hu' <;> simp_all [V.refBlk]
  · rw [if_pos (show e0 ≠ 0 from he), if_pos (show e0 ≠ 0 from he)]
    refine PCall.nilfst ?_ (by simp)
    refine pB Tryz.func33 rfl (by decide) Tryz.ntmps33 (by simp) Tryz.results33 ?_
    repeat' (first
 |refine aK fun K hK=>?_|refine Step.by1 ?_|refine sE (by decide) ?_|refine cz rfl ?_|refine Fork.by2 (fun h=>?_) fun h=>?_
 |((first|refine aR ?_|refine aC (f:=98) rfl rfl (hb) rfl rfl rfl ?_);simp [gsV, vl, NetD.cells, he])
 |(refine Split.by2 (fun h=>?_) (fun h=>?_)<;>(simp [h, gsV, vl, NetD.cells, he]))
 |(apply hK;clear hK K)|refine AWh ‹_› ?_)
    exact retq2 (cE rfl rfl)
/-- What a plan says: where a clock is active its number, elsewhere none. -/
noncomputable def planRow (a : AutoD) (gs : List (List PartD)) (M : List Int) (i : Nat) : List Int := (List.range M.length).map fun c : Nat => if actB a gs ((c : Int) + 1) i = true then M.getD c 0 else -1
noncomputable def planA (gs : List (List PartD)) (M : List Int) (a : AutoD) : List (List Int) := (List.range a.locs.length).map (planRow a gs M)
noncomputable def planP (n : NetD) (gs : List (List PartD)) (M : List Int) : List (List (List Int)) := n.autos.map (planA gs M)
structure HA where
  i : Nat
  hc : List B
  fl : Bool
  T : List (Nat × Nat × Bool × List (Nat × Nat × Nat))
structure HB where
  j : Nat
  hc : List B
  fl : Bool
  ids : List (Nat × Nat × Nat)
theorem ivs_rep0 {N : Nat} : List.replicate N [V.int .i64 0] = ivs (List.replicate N 0) := by simp [ivs]
theorem planA_len {gs : List (List PartD)} {M : List Int} {a : AutoD} : (planA gs M a).length = a.locs.length := by simp [planA]
theorem planA_at {gs : List (List PartD)} {M : List Int} {a : AutoD} {j : Nat} (hj : j < a.locs.length) : (planA gs M a).take (j + 1) = (planA gs M a).take j ++ [planRow a gs M j] := by
  rw [List.take_add_one, List.getElem?_eq_getElem (by rw [planA_len]; exact hj)]; simp [planA]
theorem planP_at {n : NetD} {gs : List (List PartD)} {M : List Int} {i : Nat} (hi : i < n.autos.length) : (planP n gs M).take (i + 1) = (planP n gs M).take i ++ [planA gs M n.autos[i]] := by
  rw [List.take_add_one, List.getElem?_eq_getElem (by simp [planP]; exact hi)]; simp [planP]
set_option maxRecDepth 20000 in
set_option maxHeartbeats 16000000 in
theorem c_half (n : NetD) (hn : n.ok) (gs : List (List PartD)) (hgl : gs.length ≤ 1048576) (hgs : ∀ g ∈ gs, okGoal g) (he : lookE n gs = 0) (M : List Int) (hM : M.length = n.clocks.length) {h : List B} {bn bg bm : Nat} (hl : HL h)
    (h1 : h[bn]? = some (.var n.cells)) (h2 : h[bg]? = some (.var [gsV gs])) (h3 : h[bm]? = some (.var [.vec (ivs M) n.clocks.length])) :
    GCall Tryz.prog GV 111 [.ptr bn 0, .ptr bg 0, .ptr bm 0] h (fun v h' => ∃ b g fl T, v = .ref b g 0 T.length ∧ Old h h' ∧ N3 h.length h' b g fl T (planP n gs M)) := by
  have hN := hn.1.1
  have hal := hn.2.2.2.1
  have l1 := (List.getElem?_eq_some_iff.1 h1).1
  have l2 := (List.getElem?_eq_some_iff.1 h2).1
  have l3 := (List.getElem?_eq_some_iff.1 h3).1
  have hiM : (ivs M).length = n.clocks.length := by simp [ivs, hM]
  have hgM : ∀ q (hq : q < n.clocks.length), (ivs M)[q]'(by omega) = [V.int .i64 (M.getD q 0)] := fun q hq => by simp [ivs, List.getD, List.getElem?_eq_getElem (show q < M.length by omega)]
  simp only [NetD.cells, vl, gsV] at h1 h2
  refine gB1 Tryz.func111 rfl (by decide) Tryz.ntmps111 (by simp) Tryz.results111 ?_
  repeat' (first
 |refine aK fun K hK=>?_|refine Step.by1 ?_|refine sE (by decide) ?_|refine cz rfl ?_|refine Fork.by2 (fun h=>?_) fun h=>?_
 |(refine aR ?_;simp [h1])
 |(refine Split.by2 (fun h=>?_) (fun h=>?_)<;>(simp [h, h1]))
 |(apply hK;clear hK K)|refine AWh ‹_› ?_)
  refine AW_nilrow 4 54 rfl (by simp) ?_
  refine AW_loopGL [0, 1, 2, 14, 15] (fun s : HA => [(4, .ref h.length s.i 0 s.i), (16, .int .i64 s.i)]) (fun s => s.hc) (fun s => s.i ≤ n.autos.length ∧ Old h s.hc ∧ s.T.length = s.i ∧ N3 h.length s.hc h.length s.i s.fl s.T ((planP n gs M).take s.i)) (fun s => n.autos.length - s.i) ⟨0, h ++ [B.row 54 0 0 true []], true, []⟩
    ⟨Nat.zero_le _, (Old.rfl hl).app (hl.app (by simp)), rfl, ⟨by rw [ga0 rfl]; rfl, fun _ => rfl, by simp, fun i y hy => by simp at hy, Nat.le_refl _, by simp⟩⟩
    (Weak.sym (x := []) (by simp) (hl.app (by simp)) (by simp [vl]; omega)) (fun s hs => by have := hs.2.2.2.b_lt; simp; omega) ?_
  rintro ⟨i, hc, fl, T⟩ ⟨hi, ho, hT, hp⟩
  simp only at hi ho hT hp
  by_cases hlt : i < n.autos.length
  · obtain ⟨a, haa⟩ : ∃ a, n.autos[i] = a := ⟨_, rfl⟩
    have ham : a ∈ n.autos := haa ▸ List.getElem_mem hlt
    have hcA := c_ofA n hn a ham gs hgl hgs he
    have hpi := planP_at (gs := gs) (M := M) hlt
    have hll := (hn.2.2.2.2 a ham).2.1.1
    have hlt' : (i : Int) < n.autos.length := by omega
    have w1 : IntKind.i64.wrap ((i : Int) + 1) = i + 1 := wI (by omega) (by omega)
    have hby : (i + 1) * 24 ≤ 140737488355328 := by omega
    obtain ⟨mv, hmv, hml, hmg⟩ : ∃ mv, markV a gs n.clocks.length = mv ∧ mv.length = a.locs.length ∧ ∀ j, j < a.locs.length → mv[j]? = some [V.vec (bvs (actR a gs n.clocks.length j)) n.clocks.length] := ⟨_, rfl, by simp [markV], fun j hj => by simp [markV, hj]⟩
    rw [hmv] at hcA
    rw [haa] at hpi
    simp only [NetD.cells, AutoD.cells, vl, gsV] at hcA
    have k1 := fun x : List B => (get_app (x := x) (Nat.lt_of_lt_of_le l1 ho.len)).trans (ho.get h1)
    have k2 := fun x : List B => (get_app (x := x) (Nat.lt_of_lt_of_le l2 ho.len)).trans (ho.get h2)
    have g0 := fun x : List B => ga0 (h := hc) (x := x) rfl
    repeat' (first
 |refine aK fun K hK=>?_|refine Step.by1 ?_|refine sE (by decide) ?_|refine cz rfl ?_|refine Fork.by2 (fun h=>?_) fun h=>?_
 |((first|refine aR ?_|refine aC (f:=99) rfl rfl (hcA) rfl rfl rfl ?_);simp [vl, AutoD.cells, hlt, hlt', haa, k1, k2, g0])
 |(refine Split.by2 (fun h=>?_) (fun h=>?_)<;>(simp [h, vl, AutoD.cells, hlt, hlt', haa, k1, k2, g0]))
 |(apply hK;clear hK K)|refine AWh ‹_› ?_)
    refine AW_nilrow 7 47 rfl (by simp) ?_
    clear g0
    have hA0 : HL (hc ++ [B.var a.cells, B.row 47 0 0 true []]) := ho.hl.app (by simp [AutoD.cells, vl])
    refine AW_loopGL [0, 1, 2, 4, 14, 15, 16, 23, 24] (fun s : HB => [(7, .ref (hc.length + 1) s.j 0 s.j), (25, .int .i64 s.j)]) (fun s => s.hc) (fun s => s.j ≤ a.locs.length ∧ Old hc s.hc ∧ s.ids.length = s.j ∧ N2 hc.length s.hc (hc.length + 1) s.j s.fl s.ids ((planA gs M a).take s.j)) (fun s => a.locs.length - s.j) ⟨0, hc ++ [B.var a.cells, B.row 47 0 0 true []], true, []⟩
      ⟨Nat.zero_le _, (Old.rfl ho.hl).app hA0, rfl, ⟨by rw [ga1 rfl]; rfl, fun _ => rfl, by simp, fun i y hy => by simp at hy, ⟨Nat.le_succ _, by simp⟩, by simp⟩⟩
      (Weak.sym (x := []) (by simp [AutoD.cells, vl]) hA0 (by have := ho.len; have := hp.b_lt; simp [vl]; omega)) (fun s hs => by have := hs.2.2.2.b_lt; simp; omega) ?_
    rintro ⟨j, hd, fl2, ids⟩ ⟨hj, ho2, hil, hq⟩
    simp only at hj ho2 hil hq
    have hb2 := hq.b_lt
    by_cases hjl : j < a.locs.length
    · have hpa := planA_at (gs := gs) (M := M) hjl
      have hjl' : (j : Int) < a.locs.length := by omega
      have w2 : IntKind.i64.wrap ((j : Int) + 1) = j + 1 := wI (by omega) (by omega)
      have hby2 : (j + 1) * 24 ≤ 140737488355328 := by omega
      have hNb : (n.clocks.length : Int) * 8 ≤ 281474976710656 := by omega
      have hNc : n.clocks.length * 8 ≤ 140737488355328 := by omega
      have hmj : mv[j]'(by omega) = [V.vec (bvs (actR a gs n.clocks.length j)) n.clocks.length] := by have := hmg j hjl; rw [List.getElem?_eq_getElem (by omega)] at this; exact Option.some.inj this
      obtain ⟨rr, hrr, hrl, hrg⟩ : ∃ rr, bvs (actR a gs n.clocks.length j) = rr ∧ rr.length = n.clocks.length ∧ ∀ c, c < n.clocks.length → rr[c]? = some [V.bool (actB a gs ((c : Int) + 1) j)] := ⟨_, rfl, by simp [bvs, actR], fun c hc => by simp [bvs, actR, hc]⟩
      rw [hrr] at hmj
      have g0 := fun x : List B => ga0 (h := hd) (x := x) rfl
      have kb := fun x : List B => (get_app (x := x) hb2).trans hq.at0
      have sb := fun (x : List B) (y : B) => set_app (x := x) (y := y) hb2
      have hml2 : (ids.map fun x => [rv x]).length = j := by simp [hil]
      have k3 := fun x : List B => (get_app (x := x) (Nat.lt_of_lt_of_le l3 (ho.trans ho2).len)).trans ((ho.trans ho2).get h3)
      repeat' (first
 |refine aK fun K hK=>?_|refine Step.by1 ?_|refine sE (by decide) ?_|refine cz rfl ?_|refine Fork.by2 (fun h=>?_) fun h=>?_
 |(refine aR ?_;simp [hml, hmj, hjl, hjl', hNb, hNc, g0, ivs_rep0])
 |(refine Split.by2 (fun h=>?_) (fun h=>?_)<;>(simp [h, hml, hmj, hjl, hjl', hNb, hNc, g0, ivs_rep0]))
 |(apply hK;clear hK K)|refine AWh ‹_› ?_)
      refine aL [0, 1, 2, 4, 7, 10, 14, 15, 16, 23, 24, 25, 32, 33] (fun s : Nat × List Int => [(34, .int .i64 s.1)]) (fun s => hd ++ [B.row 3 0 0 true (ivs s.2)]) (fun s => s.1 ≤ n.clocks.length ∧ s.2.length = n.clocks.length ∧ ∀ q, q < s.1 → s.2[q]? = some (if actB a gs ((q : Int) + 1) j = true then M.getD q 0 else -1)) (fun s => n.clocks.length - s.1) (0, List.replicate n.clocks.length 0)
        ⟨Nat.zero_le _, by simp, fun q hq => by omega⟩ (Weak.sym (x := []) (by simp) (ho2.hl.app (by simp)) (by have := ho2.len; have := ho.len; have := hp.b_lt; simp [vl]; omega)) (fun s hs => by simp) ?_
      rintro ⟨k, c⟩ ⟨hk, hcl, hcv⟩
      simp only at hk hcl hcv
      have hcl2 : (ivs c).length = n.clocks.length := by simp [ivs, hcl]
      by_cases hkl : k < n.clocks.length
      · have hkl' : (k : Int) < n.clocks.length := by omega
        have w3 : IntKind.i64.wrap ((k : Int) + 1) = k + 1 := wI (by omega) (by omega)
        have hrk : rr[k]'(by omega) = [V.bool (actB a gs ((k : Int) + 1) j)] := by have := hrg k hkl; rw [List.getElem?_eq_getElem (by omega)] at this; exact Option.some.inj this
        have hMk := hgM k hkl
        have s0 := fun (x : List B) (y : B) => sa0 (h := hd) (x := x) (y := y) rfl
        have hck : (ivs c)[k]'(by omega) = [V.int .i64 (c[k]'(by omega))] := by simp [ivs]
        have hcl3 : (ivs (c.set k (-1))).length = n.clocks.length := by simp [ivs, hcl]
        have hck3 : (ivs (c.set k (-1)))[k]'(by omega) = [V.int .i64 (-1)] := by simp [ivs]
        have hs3 : ∀ v, (ivs (c.set k (-1))).set k [V.int .i64 v] = ivs (c.set k v) := fun v => by simp [ivs, ← List.map_set]
        have hs1 : ∀ v, (ivs c).set k [V.int .i64 v] = ivs (c.set k v) := fun v => by simp [ivs, List.map_set]
        have hnext : ∀ v, (if actB a gs ((k : Int) + 1) j = true then M.getD k 0 else -1) = v → ∀ q, q < k + 1 → (c.set k v)[q]? = some (if actB a gs ((q : Int) + 1) j = true then M.getD q 0 else -1) := fun v hv q hq => by
          rw [List.getElem?_set]
          by_cases e : k = q
          · subst e; rw [if_pos rfl, if_pos (by omega), hv]
          · rw [if_neg e]; exact hcv q (by omega)
        generalize actB a gs ((k : Int) + 1) j = b at *
        generalize M.getD k 0 = mk at *
        cases b
        · have hn2 := hnext (-1) (by simp)
          repeat' (first
 |refine aK fun K hK=>?_|refine Step.by1 ?_|refine sE (by decide) ?_|refine cz rfl ?_|refine Fork.by2 (fun h=>?_) fun h=>?_
 |(refine aR ?_;simp [hrl, hrk, hkl, hkl', w3, g0, s0, hcl2, hck, hs1])
 |(refine Split.by2 (fun h=>?_) (fun h=>?_)<;>(simp [h, hrl, hrk, hkl, hkl', w3, g0, s0, hcl2, hck, hs1]))
 |(apply hK;clear hK K)|refine AWh ‹_› ?_)
          exact ⟨k + 1, c.set k (-1), ⟨by show k + 1 ≤ _; omega, by simp [hcl], hn2⟩, by show _ - (k + 1) < _ - k; omega, Weak.sym (x := []) (by simp) (ho2.hl.app (by simp)) (by have := ho2.len; have := ho.len; have := hp.b_lt; simp [vl]; omega)⟩
        · have hn2 := hnext mk (by simp)
          repeat' (first
 |refine aK fun K hK=>?_|refine Step.by1 ?_|refine sE (by decide) ?_|refine cz rfl ?_|refine Fork.by2 (fun h=>?_) fun h=>?_
 |(refine aR ?_;simp [hrl, hrk, hkl, hkl', w3, g0, s0, hcl2, hck, hs1, hcl3, hck3, hs3, k3, hiM, hMk])
 |(refine Split.by2 (fun h=>?_) (fun h=>?_)<;>(simp [h, hrl, hrk, hkl, hkl', w3, g0, s0, hcl2, hck, hs1, hcl3, hck3, hs3, k3, hiM, hMk]))
 |(apply hK;clear hK K)|refine AWh ‹_› ?_)
          exact ⟨k + 1, c.set k mk, ⟨by show k + 1 ≤ _; omega, by simp [hcl], hn2⟩, by show _ - (k + 1) < _ - k; omega, Weak.sym (x := []) (by simp) (ho2.hl.app (by simp)) (by have := ho2.len; have := ho.len; have := hp.b_lt; simp [vl]; omega)⟩
      · obtain rfl : k = n.clocks.length := by omega
        have hce : c = planRow a gs M j := by
          apply List.ext_getElem?
          intro q
          by_cases hq : q < n.clocks.length
          · rw [hcv q hq]; simp [planRow, hM, hq]
          · rw [List.getElem?_eq_none (by omega), List.getElem?_eq_none (by simp [planRow, hM]; omega)]
        have hsn := hq.snoc (ns := c) ho2.len
        rw [hcl] at hsn
        rw [← hce] at hpa
        repeat' (first
 |refine aK fun K hK=>?_|refine Step.by1 ?_|refine sE (by decide) ?_|refine cz rfl ?_|refine Fork.by2 (fun h=>?_) fun h=>?_
 |(refine aR ?_;simp [kb, sb, hml2, hby2, w2, g0])
 |(refine Split.by2 (fun h=>?_) (fun h=>?_)<;>(simp [h, kb, sb, hml2, hby2, w2, g0]))
 |(apply hK;clear hK K)|refine AWh ‹_› ?_)
        have hold := ho2.setapp (b := hc.length + 1) (y := B.row 47 (j + 1) 0 false (ids.map (fun x => [rv x]) ++ [[rv (hd.length, 0, n.clocks.length)]])) (x := [B.row 3 0 0 true (ivs c)]) (by omega) (ho2.hl.setapp (rowR_lt fun y hy => by
          rcases List.mem_append.1 hy with hy | hy
          · exact refs_lt (fun x hx => by have := hq.ids_lt x hx; simp; omega) y hy
          · simp at hy; subst hy; simp [rv]) (by simp))
        exact ⟨⟨j + 1, _, false, ids ++ [(hd.length, 0, n.clocks.length)]⟩, ⟨by show j + 1 ≤ _; omega, hold, by simp [hil], by rw [hpa]; exact hsn⟩, by show _ - (j + 1) < _ - j; omega,
          Weak.sym (x := [B.row 47 0 0 false [[V.ref hd.length 0 0 n.clocks.length]]]) (by simp [rv]) hold.hl (by have := ho2.len; have := ho.len; have := hp.b_lt; simp [vl]; omega)⟩
    · obtain rfl : j = a.locs.length := by omega
      have kb := fun x : List B => (get_app (x := x) (Nat.lt_of_lt_of_le hp.b_lt ho2.len)).trans (ho2.get hp.at0)
      have sb := fun (x : List B) (y : B) => set_app (x := x) (y := y) (Nat.lt_of_lt_of_le hp.b_lt ho2.len)
      have hml2 : (T.map fun y => [V.ref y.1 y.2.1 0 y.2.2.2.length]).length = i := by simp [hT]
      have hqe : (planA gs M a).take a.locs.length = planA gs M a := List.take_of_length_le (by simp [planA])
      rw [hqe] at hq
      have hsn := hp.snoc ho.len ho2.old hq
      rw [hil] at hsn
      repeat' (first
 |refine aK fun K hK=>?_|refine Step.by1 ?_|refine sE (by decide) ?_|refine cz rfl ?_|refine Fork.by2 (fun h=>?_) fun h=>?_
 |(refine aR ?_;simp [kb, sb, hml2, hby, w1])
 |(refine Split.by2 (fun h=>?_) (fun h=>?_)<;>(simp [h, kb, sb, hml2, hby, w1]))
 |(apply hK;clear hK K)|refine AWh ‹_› ?_)
      have hold := (ho.trans ho2).set (b := h.length) (y := B.row 54 (i + 1) 0 false (T.map (fun y => [V.ref y.1 y.2.1 0 y.2.2.2.length]) ++ [[V.ref (hc.length + 1) a.locs.length 0 a.locs.length]])) (Nat.le_refl _) (ho2.hl.set (rowR_lt fun y hy => by
        rcases List.mem_append.1 hy with hy | hy
        · obtain ⟨x, hx, rfl⟩ := List.mem_map.1 hy
          obtain ⟨q, hq2⟩ := List.getElem?_of_mem hx
          obtain ⟨_, _, h5⟩ := hp.rows q x hq2
          have := h5.b_lt
          have := ho2.len
          simp; omega
        · simp at hy; subst hy; simp; omega))
      exact ⟨⟨i + 1, _, false, T ++ [(hc.length + 1, a.locs.length, fl2, ids)]⟩, ⟨by show i + 1 ≤ _; omega, hold, by simp [hT], by rw [hpi]; exact hsn⟩, by show _ - (i + 1) < _ - i; omega,
        Weak.sym (x := [B.row 54 0 0 false [[V.ref (hc.length + 1) a.locs.length 0 a.locs.length]]]) (by simp) hold.hl (by have := ho2.len; have := ho.len; have := hp.b_lt; simp [vl]; omega)⟩
  · obtain rfl : i = n.autos.length := by omega
    have hpe : (planP n gs M).take n.autos.length = planP n gs M := List.take_of_length_le (by simp [planP])
    rw [hpe] at hp
    repeat' (first
 |refine aK fun K hK=>?_|refine Step.by1 ?_|refine sE (by decide) ?_|refine cz rfl ?_|refine Fork.by2 (fun h=>?_) fun h=>?_
 |(refine aR ?_;simp [vl])
 |(refine Split.by2 (fun h=>?_) (fun h=>?_)<;>(simp [h, vl]))
 |(apply hK;clear hK K)|refine AWh ‹_› ?_)
    exact retg1 ⟨h.length, n.autos.length, fl, T, by rw [hT]; rfl, ho, hp⟩ (by simp; exact hp.b_lt) (Go.AM.Leaves.sym ho.len ho.hl)
end Go.Proofs.YtgmlimipejcpgaaGreatDoor
end
