/-
  YtgmlimipejcpgaaDoorLo08: steps of the proof of a law of the program: what these texts prove holds under the hypotheses that their theorems name, and no others.
-/
import Derived.Test.YtgmlimipejcpgaaDoorLo07
section
set_option linter.unusedSimpArgs false
set_option linter.unusedVariables false
namespace Go.Proofs.YtgmlimipejcpgaaDoor
open Go Go.AM Fx
theorem N2.row {o b g j : Nat} {h : List B} {fl : Bool} {ids : List (Nat × Nat × Nat)} {P : List (List Int)} (p : N2 o h b g fl ids P) (hj : j < P.length) :
    ∃ x ns, ids[j]? = some x ∧ P[j]? = some ns ∧ h[x.1]? = some (.row 3 x.2.1 0 true (ivs ns)) ∧ (j < ids.length ∧ ns.length = x.2.2) ∧ o ≤ x.1 := by
  have hj2 : j < ids.length := by rw [← p.len]; exact hj
  have hx := List.getElem?_eq_getElem hj2
  obtain ⟨ns, h1, h2, h3⟩ := p.rows j _ hx
  exact ⟨_, ns, hx, h1, h3, ⟨hj2, h2⟩, p.low.2 _ (List.mem_of_getElem? hx)⟩
set_option maxRecDepth 20000 in
set_option maxHeartbeats 16000000 in
theorem c_luAt (n : NetD) (hn : n.ok) (au lo : Int) (gs : List (List PartD)) (hgl : gs.length ≤ 1048577) (hgs : ∀ g ∈ gs, okGoal g) :
    PC 56 [.agg n.cells, .int .i64 au, .int .i64 lo, gsV gs] (.tup [.own 3 (ivs (luAtL n lowB au lo gs)), .own 3 (ivs (luAtL n upB au lo gs)), .int .i64 (clksE n au lo gs)]) := by
  have hb := c_luLook n hn gs hgl hgs
  have hnl := hn.1.1
  unfold luAtL clksE
  by_cases he : lookE n gs = 0
  · rw [if_neg (show ¬ (lookE n gs ≠ 0) by simp [he]), if_neg (show ¬ (lookE n gs ≠ 0) by simp [he]), if_neg (show ¬ (lookE n gs ≠ 0) by simp [he])]
    rw [he] at hb
    simp only [gsV, vl, NetD.cells] at hb
    by_cases hbad : badLoc n au lo
    · rw [if_pos hbad, if_pos hbad, if_pos hbad]
      unfold badLoc at hbad
      refine PCall.nil2 ?_ (by simp)
      refine pB Tryd.func56 rfl (by decide) Tryd.ntmps56 (by simp) Tryd.results56 ?_
      by_cases q : 0 ≤ au ∧ au < n.autos.length
      · obtain ⟨k2, hk⟩ := Int.eq_ofNat_of_zero_le q.1
        have hkl : k2 < n.autos.length := by omega
        have hkl' : (k2 : Int) < n.autos.length := by omega
        obtain ⟨a, haa⟩ : ∃ a, n.autos[k2] = a := ⟨_, rfl⟩
        have hgg : n.autos.getD au.toNat default = a := by rw [hk]; simp [List.getD, hkl, haa]
        rw [hgg] at hbad
        have hk0 : ¬ (k2 : Int) < 0 := by omega
        have hk1 : ¬ (n.autos.length : Int) ≤ k2 := by omega
        have hl3 : lo < 0 ∨ (a.locs.length : Int) ≤ lo := by omega
        subst hk
        repeat' (first
 |refine aK fun K hK=>?_|refine Step.by1 ?_|refine sE (by decide) ?_|refine cz rfl ?_|refine Fork.by2 (fun h=>?_) fun h=>?_
 |((first|refine aR ?_|refine aC (f:=96) rfl rfl (hb) rfl rfl rfl ?_);simp [gsV, vl, NetD.cells, AutoD.cells, hkl, hkl', haa, hk0, hk1])
 |(refine Split.by2 (fun h=>?_) (fun h=>?_)<;>(simp [h, gsV, vl, NetD.cells, AutoD.cells, hkl, hkl', haa, hk0, hk1]))
 |(apply hK;clear hK K)|refine AWh ‹_› ?_)
        all_goals first
          | (exfalso; omega)
          | exact retq3 (cE rfl rfl)
      · have q' : au < 0 ∨ (n.autos.length : Int) ≤ au := by omega
        repeat' (first
 |refine aK fun K hK=>?_|refine Step.by1 ?_|refine sE (by decide) ?_|refine cz rfl ?_|refine Fork.by2 (fun h=>?_) fun h=>?_
 |((first|refine aR ?_|refine aC (f:=96) rfl rfl (hb) rfl rfl rfl ?_);simp [gsV, vl, NetD.cells, AutoD.cells])
 |(refine Split.by2 (fun h=>?_) (fun h=>?_)<;>(simp [h, gsV, vl, NetD.cells, AutoD.cells]))
 |(apply hK;clear hK K)|refine AWh ‹_› ?_)
        all_goals first
          | (exfalso; omega)
          | exact retq3 (cE rfl rfl)
    · rw [if_neg hbad, if_neg hbad, if_neg hbad]
      unfold badLoc at hbad
      obtain ⟨k2, hk⟩ := Int.eq_ofNat_of_zero_le (show 0 ≤ au by omega)
      obtain ⟨j2, hj⟩ := Int.eq_ofNat_of_zero_le (show 0 ≤ lo by omega)
      subst hk; subst hj
      have hkl : k2 < n.autos.length := by omega
      have hkl' : (k2 : Int) < n.autos.length := by omega
      obtain ⟨a, haa⟩ : ∃ a, n.autos[k2] = a := ⟨_, rfl⟩
      have hgg : n.autos.getD ((k2 : Int)).toNat default = a := by simp [List.getD, hkl, haa]
      rw [hgg] at hbad ⊢
      have ham : a ∈ n.autos := haa ▸ List.getElem_mem hkl
      have hk0 : ¬ (k2 : Int) < 0 := by omega
      have hk1 : ¬ (n.autos.length : Int) ≤ k2 := by omega
      have hj0 : ¬ (j2 : Int) < 0 := by omega
      have hj1 : ¬ (a.locs.length : Int) ≤ j2 := by omega
      have hjl : j2 < a.locs.length := by omega
      have hjl' : (j2 : Int) < a.locs.length := by omega
      rw [show ((j2 : Int)).toNat = j2 by omega]
      have hof := fun {hx : List B} (hlx : HL hx) (fso : Nat) (so : Int → Bool) (hso : ∀ c, PC fso [.int .u8 c] (.bool (so c))) => c_luOf n hn a ham gs hgl hgs he fso so hso hlx
      have hH0 : HL [B.var n.cells, B.var a.cells] := by simp [HL, NetD.cells, AutoD.cells, vl]
      refine pB Tryd.func56 rfl (by decide) Tryd.ntmps56 (by simp) Tryd.results56 ?_
      repeat' (first
 |refine aK fun K hK=>?_|refine Step.by1 ?_|refine sE (by decide) ?_|refine cz rfl ?_|refine Fork.by2 (fun h=>?_) fun h=>?_
 |((first|refine aR ?_|refine aC (f:=96) rfl rfl (hb) rfl rfl rfl ?_);simp [gsV, vl, NetD.cells, hkl, hkl', haa, hk0, hk1, hj0, hj1, hjl, hjl', AutoD.cells])
 |(refine Split.by2 (fun h=>?_) (fun h=>?_)<;>(simp [h, gsV, vl, NetD.cells, hkl, hkl', haa, hk0, hk1, hj0, hj1, hjl, hjl', AutoD.cells]))
 |(apply hK;clear hK K)|refine AWh ‹_› ?_)
      have hrest : ∀ (s : St) (x1 x2 : Nat × Nat × Nat) (L1 L2 : List Int), s.n = 62 → HL s.h → lk s.tm 8 = rv x1 → lk s.tm 9 = rv x2 → lk s.tm 10 = .int .i64 0 → (luM a n.clocks.length (luB a n.clocks.length lowB gs))[j2]? = some L1 → (luM a n.clocks.length (luB a n.clocks.length upB gs))[j2]? = some L2 →
          (∃ m1, j2 < m1 ∧ L1.length = x1.2.2) → s.h[x1.1]? = some (.row 3 x1.2.1 0 true (ivs L1)) → (∃ m2, j2 < m2 ∧ L2.length = x2.2.2) → s.h[x2.1]? = some (.row 3 x2.2.1 0 true (ivs L2)) → x1.1 ≠ x2.1 → 2 ≤ x1.1 → 2 ≤ x2.1 → K s := by
        rintro ⟨sn, tm, H⟩ x1 x2 L1 L2 hsn hHl t8 t9 t10 hL1 hL2 ⟨m1, _, l1⟩ r1 ⟨m2, _, l2⟩ r2 hne o1 o2
        refine hK _ ?_
        simp only at hsn hHl t8 t9 t10 r1 r2
        subst hsn
        repeat' (first
 |refine aK fun K hK=>?_|refine Step.by1 ?_|refine sE (by decide) ?_|refine cz rfl ?_|refine Fork.by2 (fun h=>?_) fun h=>?_
 |(refine aR ?_;simp)
 |(refine Split.by2 (fun h=>?_) (fun h=>?_)<;>(simp [h]))
 |(apply hK;clear hK K)|refine AWh ‹_› ?_)
        refine retq3 (.inr (.inr ⟨_, _, rfl, rfl, rfl, fun i u s hu hs => ?_, fun i j u u' q hu hu' e e' => ?_⟩))
        · have v1 : lk tm 8 = .ref x1.1 x1.2.1 0 (ivs L1).length := by rw [t8]; simp [rv, ivs, l1]
          have v2 : lk tm 9 = .ref x2.1 x2.2.1 0 (ivs L2).length := by rw [t9]; simp [rv, ivs, l2]
          rcases i with _ | _ | _ | i
          · simp [v1] at hu; simp [List.getD, hL1] at hs; subst hu; subst hs
            exact .inr ⟨_, _, _, _, rfl, r1, rfl⟩
          · simp [v2] at hu; simp [List.getD, hL2] at hs; subst hu; subst hs
            exact .inr ⟨_, _, _, _, rfl, r2, rfl⟩
          · simp [t10] at hu; simp at hs; subst hu; subst hs
            exact .inl ⟨rfl, rfl⟩
          · simp at hu
        · rw [t8, t9, t10] at hu hu'
          rcases i with _ | _ | _ | i <;> rcases j with _ | _ | _ | j <;> simp at hu hu' <;> subst hu <;> subst hu' <;> simp [rv, V.refBlk] at e e' <;> omega
      refine AW_region_chain 15 16 [0, 1, 2, 4, 7, 8, 9, 11] (fun H => H[0]? = some (B.var n.cells) ∧ H[1]? = some (B.var a.cells)) mixed (by decide) (by decide) rfl ⟨rfl, rfl⟩ ?_
      simp only [List.take_succ_cons, List.take_zero]
      refine PX_op (v := .agg n.cells) rfl rfl rfl rfl (fun H hs => by simp [hs.1, NetD.cells]) ?_
      refine PX_op (v := .agg a.cells) rfl rfl rfl rfl (fun H hs => by simp [hs.2, AutoD.cells]) ?_
      refine PX_op rfl rfl rfl rfl (fun H hs => ⟨trivial, rfl⟩) ?_
      refine PX_skip rfl ?_
      refine PX_op rfl rfl rfl rfl (fun H hs => ⟨trivial, rfl⟩) ?_
      refine PX_skip rfl ?_
      refine PX_skip rfl ?_
      refine PX_op (v := .agg n.cells) rfl rfl rfl rfl (fun H hs => by simp [hs.1, NetD.cells]) ?_
      refine PX_op (v := .agg a.cells) rfl rfl rfl rfl (fun H hs => by simp [hs.2, AutoD.cells]) ?_
      refine PX_op rfl rfl rfl rfl (fun H hs => ⟨trivial, rfl⟩) ?_
      refine PX_skip rfl ?_
      refine PX_op rfl rfl rfl rfl (fun H hs => ⟨trivial, rfl⟩) ?_
      refine PX_skip rfl ?_
      refine PX_skip rfl ?_
      refine PX_skip rfl ?_
      refine PX_nil ?_
      refine Ch_1 3 (by decide) (by decide) ?_
      refine ChS_callG (f := 97) rfl rfl rfl rfl (hof hH0 98 lowB c_isBelow) (fun v h1 hq => ?_)
      obtain ⟨b1, g1, f1, ids1, rfl, ho1, q1⟩ := hq
      obtain ⟨x1, L1, hx1, hL1, r1, i1, o1⟩ := q1.row (j := j2) (by rw [luM_len]; exact hjl)
      have i1n := i1.1
      have x1e : ids1[j2] = x1 := by have hz := hx1; rw [List.getElem?_eq_getElem i1n] at hz; exact Option.some.inj hz
      have i1l : (j2 : Int) < ids1.length := by omega
      have u1 := (congrArg (Option.map fun x => [rv x]) hx1)
      rw [← List.getElem?_map] at u1
      have k1 := q1.at0
      have e0 := ho1.get (k := 0) rfl
      have e1 := ho1.get (k := 1) rfl
      refine ⟨⟨e0, e1⟩, ?_⟩
      simp
      refine Ch_2 5 10 (by decide) (by decide) ?_ ?_
      · refine cS1 rfl rfl rfl rfl (by simp [k1, u1, i1l, i1n, x1e]) ⟨e0, e1⟩ ?_; simp [k1, u1, i1l, i1n, x1e]
        refine Ch_2 6 10 (by decide) (by decide) ?_ ?_
        · refine cS1 rfl rfl rfl rfl (by simp [k1, u1, i1l, i1n, x1e]) ⟨e0, e1⟩ ?_; simp [k1, u1, i1l, i1n, x1e]
          refine Ch_1 10 (by decide) (by decide) ?_
          refine ChS_callG (f := 97) rfl rfl rfl rfl (hof ho1.hl 99 upB c_isAbove) (fun v h2 hq => ?_)
          obtain ⟨b2, g2, f2, ids2, rfl, ho2, q2⟩ := hq
          obtain ⟨x2, L2, hx2, hL2, r2, i2, o2⟩ := q2.row (j := j2) (by rw [luM_len]; exact hjl)
          have i2n := i2.1
          have x2e : ids2[j2] = x2 := by have hz := hx2; rw [List.getElem?_eq_getElem i2n] at hz; exact Option.some.inj hz
          have i2l : (j2 : Int) < ids2.length := by omega
          have u2 := (congrArg (Option.map fun x => [rv x]) hx2)
          rw [← List.getElem?_map] at u2
          have k2 := q2.at0
          have k1 := ho2.get k1
          have e0 := ho2.get e0
          have e1 := ho2.get e1
          refine ⟨⟨e0, e1⟩, ?_⟩
          simp
          refine Ch_2 12 14 (by decide) (by decide) ?_ ?_
          · refine cS1 rfl rfl rfl rfl (by simp [k2, u2, i2l, i2n, x2e]) ⟨e0, e1⟩ ?_; simp [k2, u2, i2l, i2n, x2e]
            refine Ch_2 13 14 (by decide) (by decide) ?_ ?_
            · refine cS1 rfl rfl rfl rfl (by simp [k2, u2, i2l, i2n, x2e]) ⟨e0, e1⟩ ?_; simp [k2, u2, i2l, i2n, x2e]
              refine Ch_1 14 (by decide) (by decide) ?_
              refine cS1 rfl rfl rfl rfl (by simp) ⟨e0, e1⟩ ?_; simp
              refine Ch_end (by decide) ?_
              refine AS_of_AO ?_; simp
              exact hrest _ x1 x2 _ _ rfl ho2.hl rfl rfl rfl hL1 hL2 ⟨_, i1⟩ (ho2.get r1) ⟨_, i2⟩ r2 (by have := (List.getElem?_eq_some_iff.1 r1).1; omega) o1 (by have := ho1.len; simp at this; omega)
            · refine cS1 rfl rfl rfl rfl (by simp) ⟨e0, e1⟩ ?_; simp
              refine Ch_1 13 (by decide) (by decide) ?_
              refine cS1 rfl rfl rfl rfl (by simp [k2, u2, i2l, i2n, x2e]) ⟨e0, e1⟩ ?_; simp [k2, u2, i2l, i2n, x2e]
              refine Ch_end (by decide) ?_
              refine AS_of_AO ?_; simp
              exact hrest _ x1 x2 _ _ rfl ho2.hl rfl rfl rfl hL1 hL2 ⟨_, i1⟩ (ho2.get r1) ⟨_, i2⟩ r2 (by have := (List.getElem?_eq_some_iff.1 r1).1; omega) o1 (by have := ho1.len; simp at this; omega)
          · refine cS1 rfl rfl rfl rfl (by simp) ⟨e0, e1⟩ ?_; simp
            refine Ch_1 12 (by decide) (by decide) ?_
            refine cS1 rfl rfl rfl rfl (by simp [k2, u2, i2l, i2n, x2e]) ⟨e0, e1⟩ ?_; simp [k2, u2, i2l, i2n, x2e]
            refine Ch_1 13 (by decide) (by decide) ?_
            refine cS1 rfl rfl rfl rfl (by simp [k2, u2, i2l, i2n, x2e]) ⟨e0, e1⟩ ?_; simp [k2, u2, i2l, i2n, x2e]
            refine Ch_end (by decide) ?_
            refine AS_of_AO ?_; simp
            exact hrest _ x1 x2 _ _ rfl ho2.hl rfl rfl rfl hL1 hL2 ⟨_, i1⟩ (ho2.get r1) ⟨_, i2⟩ r2 (by have := (List.getElem?_eq_some_iff.1 r1).1; omega) o1 (by have := ho1.len; simp at this; omega)
        · refine ChS_callG (f := 97) rfl rfl rfl rfl (hof ho1.hl 99 upB c_isAbove) (fun v h2 hq => ?_)
          obtain ⟨b2, g2, f2, ids2, rfl, ho2, q2⟩ := hq
          obtain ⟨x2, L2, hx2, hL2, r2, i2, o2⟩ := q2.row (j := j2) (by rw [luM_len]; exact hjl)
          have i2n := i2.1
          have x2e : ids2[j2] = x2 := by have hz := hx2; rw [List.getElem?_eq_getElem i2n] at hz; exact Option.some.inj hz
          have i2l : (j2 : Int) < ids2.length := by omega
          have u2 := (congrArg (Option.map fun x => [rv x]) hx2)
          rw [← List.getElem?_map] at u2
          have k2 := q2.at0
          have k1 := ho2.get k1
          have e0 := ho2.get e0
          have e1 := ho2.get e1
          refine ⟨⟨e0, e1⟩, ?_⟩
          simp
          refine Ch_2 6 12 (by decide) (by decide) ?_ ?_
          · refine cS1 rfl rfl rfl rfl (by simp [k1, u1, i1l, i1n, x1e]) ⟨e0, e1⟩ ?_; simp [k1, u1, i1l, i1n, x1e]
            refine Ch_2 12 14 (by decide) (by decide) ?_ ?_
            · refine cS1 rfl rfl rfl rfl (by simp [k2, u2, i2l, i2n, x2e]) ⟨e0, e1⟩ ?_; simp [k2, u2, i2l, i2n, x2e]
              refine Ch_2 13 14 (by decide) (by decide) ?_ ?_
              · refine cS1 rfl rfl rfl rfl (by simp [k2, u2, i2l, i2n, x2e]) ⟨e0, e1⟩ ?_; simp [k2, u2, i2l, i2n, x2e]
                refine Ch_1 14 (by decide) (by decide) ?_
                refine cS1 rfl rfl rfl rfl (by simp) ⟨e0, e1⟩ ?_; simp
                refine Ch_end (by decide) ?_
                refine AS_of_AO ?_; simp
                exact hrest _ x1 x2 _ _ rfl ho2.hl rfl rfl rfl hL1 hL2 ⟨_, i1⟩ (ho2.get r1) ⟨_, i2⟩ r2 (by have := (List.getElem?_eq_some_iff.1 r1).1; omega) o1 (by have := ho1.len; simp at this; omega)
              · refine cS1 rfl rfl rfl rfl (by simp) ⟨e0, e1⟩ ?_; simp
                refine Ch_1 13 (by decide) (by decide) ?_
                refine cS1 rfl rfl rfl rfl (by simp [k2, u2, i2l, i2n, x2e]) ⟨e0, e1⟩ ?_; simp [k2, u2, i2l, i2n, x2e]
                refine Ch_end (by decide) ?_
                refine AS_of_AO ?_; simp
                exact hrest _ x1 x2 _ _ rfl ho2.hl rfl rfl rfl hL1 hL2 ⟨_, i1⟩ (ho2.get r1) ⟨_, i2⟩ r2 (by have := (List.getElem?_eq_some_iff.1 r1).1; omega) o1 (by have := ho1.len; simp at this; omega)
            · refine cS1 rfl rfl rfl rfl (by simp) ⟨e0, e1⟩ ?_; simp
              refine Ch_1 12 (by decide) (by decide) ?_
              refine cS1 rfl rfl rfl rfl (by simp [k2, u2, i2l, i2n, x2e]) ⟨e0, e1⟩ ?_; simp [k2, u2, i2l, i2n, x2e]
              refine Ch_1 13 (by decide) (by decide) ?_
              refine cS1 rfl rfl rfl rfl (by simp [k2, u2, i2l, i2n, x2e]) ⟨e0, e1⟩ ?_; simp [k2, u2, i2l, i2n, x2e]
              refine Ch_end (by decide) ?_
              refine AS_of_AO ?_; simp
              exact hrest _ x1 x2 _ _ rfl ho2.hl rfl rfl rfl hL1 hL2 ⟨_, i1⟩ (ho2.get r1) ⟨_, i2⟩ r2 (by have := (List.getElem?_eq_some_iff.1 r1).1; omega) o1 (by have := ho1.len; simp at this; omega)
          · refine cS1 rfl rfl rfl rfl (by simp [k2, u2, i2l, i2n, x2e]) ⟨e0, e1⟩ ?_; simp [k2, u2, i2l, i2n, x2e]
            refine Ch_2 6 13 (by decide) (by decide) ?_ ?_
            · refine cS1 rfl rfl rfl rfl (by simp [k1, u1, i1l, i1n, x1e]) ⟨e0, e1⟩ ?_; simp [k1, u1, i1l, i1n, x1e]
              refine Ch_2 13 14 (by decide) (by decide) ?_ ?_
              · refine cS1 rfl rfl rfl rfl (by simp [k2, u2, i2l, i2n, x2e]) ⟨e0, e1⟩ ?_; simp [k2, u2, i2l, i2n, x2e]
                refine Ch_1 14 (by decide) (by decide) ?_
                refine cS1 rfl rfl rfl rfl (by simp) ⟨e0, e1⟩ ?_; simp
                refine Ch_end (by decide) ?_
                refine AS_of_AO ?_; simp
                exact hrest _ x1 x2 _ _ rfl ho2.hl rfl rfl rfl hL1 hL2 ⟨_, i1⟩ (ho2.get r1) ⟨_, i2⟩ r2 (by have := (List.getElem?_eq_some_iff.1 r1).1; omega) o1 (by have := ho1.len; simp at this; omega)
              · refine cS1 rfl rfl rfl rfl (by simp) ⟨e0, e1⟩ ?_; simp
                refine Ch_1 13 (by decide) (by decide) ?_
                refine cS1 rfl rfl rfl rfl (by simp [k2, u2, i2l, i2n, x2e]) ⟨e0, e1⟩ ?_; simp [k2, u2, i2l, i2n, x2e]
                refine Ch_end (by decide) ?_
                refine AS_of_AO ?_; simp
                exact hrest _ x1 x2 _ _ rfl ho2.hl rfl rfl rfl hL1 hL2 ⟨_, i1⟩ (ho2.get r1) ⟨_, i2⟩ r2 (by have := (List.getElem?_eq_some_iff.1 r1).1; omega) o1 (by have := ho1.len; simp at this; omega)
            · refine cS1 rfl rfl rfl rfl (by simp [k2, u2, i2l, i2n, x2e]) ⟨e0, e1⟩ ?_; simp [k2, u2, i2l, i2n, x2e]
              refine Ch_1 6 (by decide) (by decide) ?_
              refine cS1 rfl rfl rfl rfl (by simp [k1, u1, i1l, i1n, x1e]) ⟨e0, e1⟩ ?_; simp [k1, u1, i1l, i1n, x1e]
              refine Ch_1 14 (by decide) (by decide) ?_
              refine cS1 rfl rfl rfl rfl (by simp) ⟨e0, e1⟩ ?_; simp
              refine Ch_end (by decide) ?_
              refine AS_of_AO ?_; simp
              exact hrest _ x1 x2 _ _ rfl ho2.hl rfl rfl rfl hL1 hL2 ⟨_, i1⟩ (ho2.get r1) ⟨_, i2⟩ r2 (by have := (List.getElem?_eq_some_iff.1 r1).1; omega) o1 (by have := ho1.len; simp at this; omega)
      · refine ChS_callG (f := 97) rfl rfl rfl rfl (hof ho1.hl 99 upB c_isAbove) (fun v h2 hq => ?_)
        obtain ⟨b2, g2, f2, ids2, rfl, ho2, q2⟩ := hq
        obtain ⟨x2, L2, hx2, hL2, r2, i2, o2⟩ := q2.row (j := j2) (by rw [luM_len]; exact hjl)
        have i2n := i2.1
        have x2e : ids2[j2] = x2 := by have hz := hx2; rw [List.getElem?_eq_getElem i2n] at hz; exact Option.some.inj hz
        have i2l : (j2 : Int) < ids2.length := by omega
        have u2 := (congrArg (Option.map fun x => [rv x]) hx2)
        rw [← List.getElem?_map] at u2
        have k2 := q2.at0
        have k1 := ho2.get k1
        have e0 := ho2.get e0
        have e1 := ho2.get e1
        refine ⟨⟨e0, e1⟩, ?_⟩
        simp
        refine Ch_2 5 12 (by decide) (by decide) ?_ ?_
        · refine cS1 rfl rfl rfl rfl (by simp [k1, u1, i1l, i1n, x1e]) ⟨e0, e1⟩ ?_; simp [k1, u1, i1l, i1n, x1e]
          refine Ch_2 6 12 (by decide) (by decide) ?_ ?_
          · refine cS1 rfl rfl rfl rfl (by simp [k1, u1, i1l, i1n, x1e]) ⟨e0, e1⟩ ?_; simp [k1, u1, i1l, i1n, x1e]
            refine Ch_2 12 14 (by decide) (by decide) ?_ ?_
            · refine cS1 rfl rfl rfl rfl (by simp [k2, u2, i2l, i2n, x2e]) ⟨e0, e1⟩ ?_; simp [k2, u2, i2l, i2n, x2e]
              refine Ch_2 13 14 (by decide) (by decide) ?_ ?_
              · refine cS1 rfl rfl rfl rfl (by simp [k2, u2, i2l, i2n, x2e]) ⟨e0, e1⟩ ?_; simp [k2, u2, i2l, i2n, x2e]
                refine Ch_1 14 (by decide) (by decide) ?_
                refine cS1 rfl rfl rfl rfl (by simp) ⟨e0, e1⟩ ?_; simp
                refine Ch_end (by decide) ?_
                refine AS_of_AO ?_; simp
                exact hrest _ x1 x2 _ _ rfl ho2.hl rfl rfl rfl hL1 hL2 ⟨_, i1⟩ (ho2.get r1) ⟨_, i2⟩ r2 (by have := (List.getElem?_eq_some_iff.1 r1).1; omega) o1 (by have := ho1.len; simp at this; omega)
              · refine cS1 rfl rfl rfl rfl (by simp) ⟨e0, e1⟩ ?_; simp
                refine Ch_1 13 (by decide) (by decide) ?_
                refine cS1 rfl rfl rfl rfl (by simp [k2, u2, i2l, i2n, x2e]) ⟨e0, e1⟩ ?_; simp [k2, u2, i2l, i2n, x2e]
                refine Ch_end (by decide) ?_
                refine AS_of_AO ?_; simp
                exact hrest _ x1 x2 _ _ rfl ho2.hl rfl rfl rfl hL1 hL2 ⟨_, i1⟩ (ho2.get r1) ⟨_, i2⟩ r2 (by have := (List.getElem?_eq_some_iff.1 r1).1; omega) o1 (by have := ho1.len; simp at this; omega)
            · refine cS1 rfl rfl rfl rfl (by simp) ⟨e0, e1⟩ ?_; simp
              refine Ch_1 12 (by decide) (by decide) ?_
              refine cS1 rfl rfl rfl rfl (by simp [k2, u2, i2l, i2n, x2e]) ⟨e0, e1⟩ ?_; simp [k2, u2, i2l, i2n, x2e]
              refine Ch_1 13 (by decide) (by decide) ?_
              refine cS1 rfl rfl rfl rfl (by simp [k2, u2, i2l, i2n, x2e]) ⟨e0, e1⟩ ?_; simp [k2, u2, i2l, i2n, x2e]
              refine Ch_end (by decide) ?_
              refine AS_of_AO ?_; simp
              exact hrest _ x1 x2 _ _ rfl ho2.hl rfl rfl rfl hL1 hL2 ⟨_, i1⟩ (ho2.get r1) ⟨_, i2⟩ r2 (by have := (List.getElem?_eq_some_iff.1 r1).1; omega) o1 (by have := ho1.len; simp at this; omega)
          · refine cS1 rfl rfl rfl rfl (by simp [k2, u2, i2l, i2n, x2e]) ⟨e0, e1⟩ ?_; simp [k2, u2, i2l, i2n, x2e]
            refine Ch_2 6 13 (by decide) (by decide) ?_ ?_
            · refine cS1 rfl rfl rfl rfl (by simp [k1, u1, i1l, i1n, x1e]) ⟨e0, e1⟩ ?_; simp [k1, u1, i1l, i1n, x1e]
              refine Ch_2 13 14 (by decide) (by decide) ?_ ?_
              · refine cS1 rfl rfl rfl rfl (by simp [k2, u2, i2l, i2n, x2e]) ⟨e0, e1⟩ ?_; simp [k2, u2, i2l, i2n, x2e]
                refine Ch_1 14 (by decide) (by decide) ?_
                refine cS1 rfl rfl rfl rfl (by simp) ⟨e0, e1⟩ ?_; simp
                refine Ch_end (by decide) ?_
                refine AS_of_AO ?_; simp
                exact hrest _ x1 x2 _ _ rfl ho2.hl rfl rfl rfl hL1 hL2 ⟨_, i1⟩ (ho2.get r1) ⟨_, i2⟩ r2 (by have := (List.getElem?_eq_some_iff.1 r1).1; omega) o1 (by have := ho1.len; simp at this; omega)
              · refine cS1 rfl rfl rfl rfl (by simp) ⟨e0, e1⟩ ?_; simp
                refine Ch_1 13 (by decide) (by decide) ?_
                refine cS1 rfl rfl rfl rfl (by simp [k2, u2, i2l, i2n, x2e]) ⟨e0, e1⟩ ?_; simp [k2, u2, i2l, i2n, x2e]
                refine Ch_end (by decide) ?_
                refine AS_of_AO ?_; simp
                exact hrest _ x1 x2 _ _ rfl ho2.hl rfl rfl rfl hL1 hL2 ⟨_, i1⟩ (ho2.get r1) ⟨_, i2⟩ r2 (by have := (List.getElem?_eq_some_iff.1 r1).1; omega) o1 (by have := ho1.len; simp at this; omega)
            · refine cS1 rfl rfl rfl rfl (by simp [k2, u2, i2l, i2n, x2e]) ⟨e0, e1⟩ ?_; simp [k2, u2, i2l, i2n, x2e]
              refine Ch_1 6 (by decide) (by decide) ?_
              refine cS1 rfl rfl rfl rfl (by simp [k1, u1, i1l, i1n, x1e]) ⟨e0, e1⟩ ?_; simp [k1, u1, i1l, i1n, x1e]
              refine Ch_1 14 (by decide) (by decide) ?_
              refine cS1 rfl rfl rfl rfl (by simp) ⟨e0, e1⟩ ?_; simp
              refine Ch_end (by decide) ?_
              refine AS_of_AO ?_; simp
              exact hrest _ x1 x2 _ _ rfl ho2.hl rfl rfl rfl hL1 hL2 ⟨_, i1⟩ (ho2.get r1) ⟨_, i2⟩ r2 (by have := (List.getElem?_eq_some_iff.1 r1).1; omega) o1 (by have := ho1.len; simp at this; omega)
        · refine cS1 rfl rfl rfl rfl (by simp [k2, u2, i2l, i2n, x2e]) ⟨e0, e1⟩ ?_; simp [k2, u2, i2l, i2n, x2e]
          refine Ch_2 5 13 (by decide) (by decide) ?_ ?_
          · refine cS1 rfl rfl rfl rfl (by simp [k1, u1, i1l, i1n, x1e]) ⟨e0, e1⟩ ?_; simp [k1, u1, i1l, i1n, x1e]
            refine Ch_2 6 13 (by decide) (by decide) ?_ ?_
            · refine cS1 rfl rfl rfl rfl (by simp [k1, u1, i1l, i1n, x1e]) ⟨e0, e1⟩ ?_; simp [k1, u1, i1l, i1n, x1e]
              refine Ch_2 13 14 (by decide) (by decide) ?_ ?_
              · refine cS1 rfl rfl rfl rfl (by simp [k2, u2, i2l, i2n, x2e]) ⟨e0, e1⟩ ?_; simp [k2, u2, i2l, i2n, x2e]
                refine Ch_1 14 (by decide) (by decide) ?_
                refine cS1 rfl rfl rfl rfl (by simp) ⟨e0, e1⟩ ?_; simp
                refine Ch_end (by decide) ?_
                refine AS_of_AO ?_; simp
                exact hrest _ x1 x2 _ _ rfl ho2.hl rfl rfl rfl hL1 hL2 ⟨_, i1⟩ (ho2.get r1) ⟨_, i2⟩ r2 (by have := (List.getElem?_eq_some_iff.1 r1).1; omega) o1 (by have := ho1.len; simp at this; omega)
              · refine cS1 rfl rfl rfl rfl (by simp) ⟨e0, e1⟩ ?_; simp
                refine Ch_1 13 (by decide) (by decide) ?_
                refine cS1 rfl rfl rfl rfl (by simp [k2, u2, i2l, i2n, x2e]) ⟨e0, e1⟩ ?_; simp [k2, u2, i2l, i2n, x2e]
                refine Ch_end (by decide) ?_
                refine AS_of_AO ?_; simp
                exact hrest _ x1 x2 _ _ rfl ho2.hl rfl rfl rfl hL1 hL2 ⟨_, i1⟩ (ho2.get r1) ⟨_, i2⟩ r2 (by have := (List.getElem?_eq_some_iff.1 r1).1; omega) o1 (by have := ho1.len; simp at this; omega)
            · refine cS1 rfl rfl rfl rfl (by simp [k2, u2, i2l, i2n, x2e]) ⟨e0, e1⟩ ?_; simp [k2, u2, i2l, i2n, x2e]
              refine Ch_1 6 (by decide) (by decide) ?_
              refine cS1 rfl rfl rfl rfl (by simp [k1, u1, i1l, i1n, x1e]) ⟨e0, e1⟩ ?_; simp [k1, u1, i1l, i1n, x1e]
              refine Ch_1 14 (by decide) (by decide) ?_
              refine cS1 rfl rfl rfl rfl (by simp) ⟨e0, e1⟩ ?_; simp
              refine Ch_end (by decide) ?_
              refine AS_of_AO ?_; simp
              exact hrest _ x1 x2 _ _ rfl ho2.hl rfl rfl rfl hL1 hL2 ⟨_, i1⟩ (ho2.get r1) ⟨_, i2⟩ r2 (by have := (List.getElem?_eq_some_iff.1 r1).1; omega) o1 (by have := ho1.len; simp at this; omega)
          · refine cS1 rfl rfl rfl rfl (by simp [k2, u2, i2l, i2n, x2e]) ⟨e0, e1⟩ ?_; simp [k2, u2, i2l, i2n, x2e]
            refine Ch_1 5 (by decide) (by decide) ?_
            refine cS1 rfl rfl rfl rfl (by simp [k1, u1, i1l, i1n, x1e]) ⟨e0, e1⟩ ?_; simp [k1, u1, i1l, i1n, x1e]
            refine Ch_1 6 (by decide) (by decide) ?_
            refine cS1 rfl rfl rfl rfl (by simp [k1, u1, i1l, i1n, x1e]) ⟨e0, e1⟩ ?_; simp [k1, u1, i1l, i1n, x1e]
            refine Ch_1 14 (by decide) (by decide) ?_
            refine cS1 rfl rfl rfl rfl (by simp) ⟨e0, e1⟩ ?_; simp
            refine Ch_end (by decide) ?_
            refine AS_of_AO ?_; simp
            exact hrest _ x1 x2 _ _ rfl ho2.hl rfl rfl rfl hL1 hL2 ⟨_, i1⟩ (ho2.get r1) ⟨_, i2⟩ r2 (by have := (List.getElem?_eq_some_iff.1 r1).1; omega) o1 (by have := ho1.len; simp at this; omega)
  · rw [if_pos (show lookE n gs ≠ 0 from he), if_pos (show lookE n gs ≠ 0 from he), if_pos (show lookE n gs ≠ 0 from he)]
    generalize lookE n gs = e0 at *
    simp only [gsV, vl, NetD.cells] at hb
    refine PCall.nil2 ?_ (by simp)
    refine pB Tryd.func56 rfl (by decide) Tryd.ntmps56 (by simp) Tryd.results56 ?_
    repeat' (first
 |refine aK fun K hK=>?_|refine Step.by1 ?_|refine sE (by decide) ?_|refine cz rfl ?_|refine Fork.by2 (fun h=>?_) fun h=>?_
 |((first|refine aR ?_|refine aC (f:=96) rfl rfl (hb) rfl rfl rfl ?_);simp [gsV, vl, NetD.cells, he])
 |(refine Split.by2 (fun h=>?_) (fun h=>?_)<;>(simp [h, gsV, vl, NetD.cells, he]))
 |(apply hK;clear hK K)|refine AWh ‹_› ?_)
    exact retq3 (cE rfl rfl)
@[simp] theorem rows3V_len {P : List (List (List Int))} : (rows3V P).length = P.length := by simp [rows3V]
@[simp] theorem rows2V_len {P : List (List Int)} : (rows2V P).length = P.length := by simp [rows2V]
theorem rows3V_get {P : List (List (List Int))} {i : Nat} {Q : List (List Int)} (h : P[i]? = some Q) : (rows3V P)[i]? = some [V.vec (rows2V Q) Q.length] := by simp [rows3V, h]
theorem rows2V_get {P : List (List Int)} {i : Nat} {r : List Int} (h : P[i]? = some r) : (rows2V P)[i]? = some [V.vec (ivs r) r.length] := by simp [rows2V, h]
end Go.Proofs.YtgmlimipejcpgaaDoor
end
