/-
  YtgmlimipejcpgaaGreatDoorPart20: steps of the proof of a law of the program: what these texts prove holds under the hypotheses that their theorems name, and no others.
-/
import Derived.Test.YtgmlimipejcpgaaGreatDoorPart19
import Derived.Test.YtgmlimipejcpgaaGreatDoorPart15
section
set_option linter.unusedVariables false
set_option linter.unusedSimpArgs false
namespace Go.Proofs.YtgmlimipejcpgaaGreatDoor
open Go Go.AM Fx
theorem N2.row {o b g j : Nat} {h : List B} {fl : Bool} {ids : List (Nat × Nat × Nat)} {P : List (List Int)} (p : N2 o h b g fl ids P) (hj : j < P.length) :
    ∃ x ns, ids[j]? = some x ∧ P[j]? = some ns ∧ h[x.1]? = some (.row 3 x.2.1 0 true (ivs ns)) ∧ (j < ids.length ∧ ns.length = x.2.2) ∧ o ≤ x.1 := by
  have hj2 : j < ids.length := by rw [← p.len]; exact hj
  have hx := List.getElem?_eq_getElem hj2
  obtain ⟨ns, h1, h2, h3⟩ := p.rows j _ hx
  exact ⟨_, ns, hx, h1, h3, ⟨hj2, h2⟩, p.low.2 _ (List.mem_of_getElem? hx)⟩
set_option maxRecDepth 20000 in
set_option maxHeartbeats 16000000 in
theorem c_luAt (n : NetD) (hn : n.ok) (au lo : Int) (gs : List (List PartD)) (hgl : gs.length ≤ 1048576) (hgs : ∀ g ∈ gs, okGoal g) :
    PC 36 [.agg n.cells, .int .i64 au, .int .i64 lo, gsV gs] (.tup [.own 3 (ivs (luAtL n lowB au lo gs)), .own 3 (ivs (luAtL n upB au lo gs)), .int .i64 (clksE n au lo gs)]) := by
  have hb := c_luLook n hn gs hgl hgs
  have hnl := hn.1.1
  unfold luAtL clksE
  by_cases he : lookE n gs = 0
  · rw [if_neg (show ¬ (lookE n gs ≠ 0) by simp [he]), if_neg (show ¬ (lookE n gs ≠ 0) by simp [he]), if_neg (show ¬ (lookE n gs ≠ 0) by simp [he])]
    rw [he] at hb
    simp only [gsV, vl, NetD.cells] at hb
    by_cases hbad : badLoc n au lo
    · rw [if_pos hbad, if_pos hbad, if_pos hbad]
      unfold badLoc at hbad
      refine PCall.nil2 ?_ (by simp)
      refine PCall_body Tryz.func36 rfl (by decide) Tryz.ntmps36 (by simp) Tryz.results36 ?_
      by_cases q : 0 ≤ au ∧ au < n.autos.length
      · obtain ⟨k2, hk⟩ := Int.eq_ofNat_of_zero_le q.1
        have hkl : k2 < n.autos.length := by omega
        have hkl' : (k2 : Int) < n.autos.length := by omega
        obtain ⟨a, haa⟩ : ∃ a, n.autos[k2] = a := ⟨_, rfl⟩
        have hgg : n.autos.getD au.toNat default = a := by rw [hk]; simp [List.getD, hkl, haa]
        rw [hgg] at hbad
        have hk0 : ¬ (k2 : Int) < 0 := by omega
        have hk1 : ¬ (n.autos.length : Int) ≤ k2 := by omega
        have hl3 : lo < 0 ∨ (a.locs.length : Int) ≤ lo := by omega
        subst hk
        repeat' (first
 |refine AW_seq_k fun K hK=>?_|refine Step.by1 ?_|refine SBlock_exit_ne (by decide) ?_|refine cz rfl ?_|refine Fork.by2 (fun h=>?_) fun h=>?_
 |((first|refine AW_region_AO ?_|refine AS_call1 (f:=103) rfl rfl (hb) rfl rfl rfl ?_);simp [gsV, vl, NetD.cells, AutoD.cells, hkl, hkl', haa, hk0, hk1])
 |(refine Split.by2 (fun h=>?_) (fun h=>?_)<;>(simp [h, gsV, vl, NetD.cells, AutoD.cells, hkl, hkl', haa, hk0, hk1]))
 |(apply hK;clear hK K)|refine AWh (by assumption) ?_)
        all_goals first
          | (exfalso; omega)
          | exact retq3 (conv_eq rfl rfl)
          | trace_state
      · have q' : au < 0 ∨ (n.autos.length : Int) ≤ au := by omega
        repeat' (first
 |refine AW_seq_k fun K hK=>?_|refine Step.by1 ?_|refine SBlock_exit_ne (by decide) ?_|refine cz rfl ?_|refine Fork.by2 (fun h=>?_) fun h=>?_
 |((first|refine AW_region_AO ?_|refine AS_call1 (f:=103) rfl rfl (hb) rfl rfl rfl ?_);simp [gsV, vl, NetD.cells, AutoD.cells])
 |(refine Split.by2 (fun h=>?_) (fun h=>?_)<;>(simp [h, gsV, vl, NetD.cells, AutoD.cells]))
 |(apply hK;clear hK K)|refine AWh (by assumption) ?_)
        all_goals first
          | (exfalso; omega)
          | exact retq3 (conv_eq rfl rfl)
          | trace_state
    · rw [if_neg hbad, if_neg hbad, if_neg hbad]
      unfold badLoc at hbad
      obtain ⟨k2, hk⟩ := Int.eq_ofNat_of_zero_le (show 0 ≤ au by omega)
      obtain ⟨j2, hj⟩ := Int.eq_ofNat_of_zero_le (show 0 ≤ lo by omega)
      subst hk; subst hj
      have hkl : k2 < n.autos.length := by omega
      have hkl' : (k2 : Int) < n.autos.length := by omega
      obtain ⟨a, haa⟩ : ∃ a, n.autos[k2] = a := ⟨_, rfl⟩
      have hgg : n.autos.getD ((k2 : Int)).toNat default = a := by simp [List.getD, hkl, haa]
      rw [hgg] at hbad ⊢
      have ham : a ∈ n.autos := haa ▸ List.getElem_mem hkl
      have hk0 : ¬ (k2 : Int) < 0 := by omega
      have hk1 : ¬ (n.autos.length : Int) ≤ k2 := by omega
      have hj0 : ¬ (j2 : Int) < 0 := by omega
      have hj1 : ¬ (a.locs.length : Int) ≤ j2 := by omega
      have hjl : j2 < a.locs.length := by omega
      have hjl' : (j2 : Int) < a.locs.length := by omega
      rw [show ((j2 : Int)).toNat = j2 by omega]
      have hof := fun {hx : List B} (hlx : HL hx) (fso : Nat) (so : Int → Bool) (hso : ∀ c, PC fso [.int .u8 c] (.bool (so c))) => c_luOf n hn a ham gs hgl hgs he fso so hso hlx
      have hH0 : HL [B.var n.cells, B.var a.cells] := by simp [HL, NetD.cells, AutoD.cells, vl]
      refine PCall_body Tryz.func36 rfl (by decide) Tryz.ntmps36 (by simp) Tryz.results36 ?_
      repeat' (first
 |refine AW_seq_k fun K hK=>?_|refine Step.by1 ?_|refine SBlock_exit_ne (by decide) ?_|refine cz rfl ?_|refine Fork.by2 (fun h=>?_) fun h=>?_
 |((first|refine AW_region_AO ?_|refine AS_call1 (f:=103) rfl rfl (hb) rfl rfl rfl ?_);simp [gsV, vl, NetD.cells, hkl, hkl', haa, hk0, hk1, hj0, hj1, hjl, hjl', AutoD.cells])
 |(refine Split.by2 (fun h=>?_) (fun h=>?_)<;>(simp [h, gsV, vl, NetD.cells, hkl, hkl', haa, hk0, hk1, hj0, hj1, hjl, hjl', AutoD.cells]))
 |(apply hK;clear hK K)|refine AWh (by assumption) ?_)
      have hrest : ∀ (s : St) (x1 x2 : Nat × Nat × Nat) (L1 L2 : List Int), s.n = 62 → HL s.h → lk s.tm 8 = rv x1 → lk s.tm 9 = rv x2 → lk s.tm 10 = .int .i64 0 → (luM a n.clocks.length (luB a n.clocks.length lowB gs))[j2]? = some L1 → (luM a n.clocks.length (luB a n.clocks.length upB gs))[j2]? = some L2 →
          (∃ m1, j2 < m1 ∧ L1.length = x1.2.2) → s.h[x1.1]? = some (.row 3 x1.2.1 0 true (ivs L1)) → (∃ m2, j2 < m2 ∧ L2.length = x2.2.2) → s.h[x2.1]? = some (.row 3 x2.2.1 0 true (ivs L2)) → x1.1 ≠ x2.1 → 2 ≤ x1.1 → 2 ≤ x2.1 → K s := by
        rintro ⟨sn, tm, H⟩ x1 x2 L1 L2 hsn hHl t8 t9 t10 hL1 hL2 ⟨m1, _, l1⟩ r1 ⟨m2, _, l2⟩ r2 hne o1 o2
        refine hK _ ?_
        simp only at hsn hHl t8 t9 t10 r1 r2
        subst hsn
        repeat' (first
 |refine AW_seq_k fun K hK=>?_|refine Step.by1 ?_|refine SBlock_exit_ne (by decide) ?_|refine cz rfl ?_|refine Fork.by2 (fun h=>?_) fun h=>?_
 |(refine AW_region_AO ?_;simp)
 |(refine Split.by2 (fun h=>?_) (fun h=>?_)<;>(simp [h]))
 |(apply hK;clear hK K)|refine AWh (by assumption) ?_)
        refine retq3 (.inr (.inr ⟨_, _, rfl, rfl, rfl, fun i u s hu hs => ?_, fun i j u u' q hu hu' e e' => ?_⟩))
        · have v1 : lk tm 8 = .ref x1.1 x1.2.1 0 (ivs L1).length := by rw [t8]; simp [rv, ivs, l1]
          have v2 : lk tm 9 = .ref x2.1 x2.2.1 0 (ivs L2).length := by rw [t9]; simp [rv, ivs, l2]
          rcases i with _ | _ | _ | i
          · simp [v1] at hu; simp [List.getD, hL1] at hs; subst hu; subst hs
            exact .inr ⟨_, _, _, _, rfl, r1, rfl⟩
          · simp [v2] at hu; simp [List.getD, hL2] at hs; subst hu; subst hs
            exact .inr ⟨_, _, _, _, rfl, r2, rfl⟩
          · simp [t10] at hu; simp at hs; subst hu; subst hs
            exact .inl ⟨rfl, rfl⟩
          · simp at hu
        · rw [t8, t9, t10] at hu hu'
          rcases i with _ | _ | _ | i <;> rcases j with _ | _ | _ | j <;> simp at hu hu' <;> subst hu <;> subst hu' <;> simp [rv, V.refBlk] at e e' <;> omega
      refine AW_region_chain 15 16 [0, 1, 2, 4, 7, 8, 9, 11] (fun H => H[0]? = some (B.var n.cells) ∧ H[1]? = some (B.var a.cells)) mixed (by decide) (by decide) rfl ⟨rfl, rfl⟩ ?_
      simp only [List.take_succ_cons, List.take_zero]
      refine PX_op (v := .agg n.cells) rfl rfl rfl rfl (fun H hs => by simp [hs.1, NetD.cells]) ?_
      refine PX_op (v := .agg a.cells) rfl rfl rfl rfl (fun H hs => by simp [hs.2, AutoD.cells]) ?_
      refine PX_op rfl rfl rfl rfl (fun H hs => ⟨trivial, rfl⟩) ?_
      refine PX_skip rfl ?_
      refine PX_op rfl rfl rfl rfl (fun H hs => ⟨trivial, rfl⟩) ?_
      refine PX_skip rfl ?_
      refine PX_skip rfl ?_
      refine PX_op (v := .agg n.cells) rfl rfl rfl rfl (fun H hs => by simp [hs.1, NetD.cells]) ?_
      refine PX_op (v := .agg a.cells) rfl rfl rfl rfl (fun H hs => by simp [hs.2, AutoD.cells]) ?_
      refine PX_op rfl rfl rfl rfl (fun H hs => ⟨trivial, rfl⟩) ?_
      refine PX_skip rfl ?_
      refine PX_op rfl rfl rfl rfl (fun H hs => ⟨trivial, rfl⟩) ?_
      refine PX_skip rfl ?_
      refine PX_skip rfl ?_
      refine PX_skip rfl ?_
      refine PX_nil ?_
      refine Ch_1 3 (by decide) (by decide) ?_
      refine ChS_callG (f := 104) rfl rfl rfl rfl (hof hH0 105 lowB c_isBelow) (fun v h1 hq => ?_)
      obtain ⟨b1, g1, f1, ids1, rfl, ho1, q1⟩ := hq
      obtain ⟨x1, L1, hx1, hL1, r1, i1, o1⟩ := q1.row (j := j2) (by rw [luM_len]; exact hjl)
      have i1n := i1.1
      have x1e : ids1[j2] = x1 := by have hz := hx1; rw [List.getElem?_eq_getElem i1n] at hz; exact Option.some.inj hz
      have i1l : (j2 : Int) < ids1.length := by omega
      have u1 := (congrArg (Option.map fun x => [rv x]) hx1)
      rw [← List.getElem?_map] at u1
      have k1 := q1.at0
      have e0 := ho1.get (k := 0) rfl
      have e1 := ho1.get (k := 1) rfl
      refine ⟨⟨e0, e1⟩, ?_⟩
      simp
      refine Ch_2 5 10 (by decide) (by decide) ?_ ?_
      · refine ChS_still rfl rfl rfl rfl (by simp [k1, u1, i1l, i1n, x1e]) ⟨e0, e1⟩ ?_; simp [k1, u1, i1l, i1n, x1e]
        refine Ch_2 6 10 (by decide) (by decide) ?_ ?_
        · refine ChS_still rfl rfl rfl rfl (by simp [k1, u1, i1l, i1n, x1e]) ⟨e0, e1⟩ ?_; simp [k1, u1, i1l, i1n, x1e]
          refine Ch_1 10 (by decide) (by decide) ?_
          refine ChS_callG (f := 104) rfl rfl rfl rfl (hof ho1.hl 106 upB c_isAbove) (fun v h2 hq => ?_)
          obtain ⟨b2, g2, f2, ids2, rfl, ho2, q2⟩ := hq
          obtain ⟨x2, L2, hx2, hL2, r2, i2, o2⟩ := q2.row (j := j2) (by rw [luM_len]; exact hjl)
          have i2n := i2.1
          have x2e : ids2[j2] = x2 := by have hz := hx2; rw [List.getElem?_eq_getElem i2n] at hz; exact Option.some.inj hz
          have i2l : (j2 : Int) < ids2.length := by omega
          have u2 := (congrArg (Option.map fun x => [rv x]) hx2)
          rw [← List.getElem?_map] at u2
          have k2 := q2.at0
          have k1 := ho2.get k1
          have e0 := ho2.get e0
          have e1 := ho2.get e1
          refine ⟨⟨e0, e1⟩, ?_⟩
          simp
          refine Ch_2 12 14 (by decide) (by decide) ?_ ?_
          · refine ChS_still rfl rfl rfl rfl (by simp [k2, u2, i2l, i2n, x2e]) ⟨e0, e1⟩ ?_; simp [k2, u2, i2l, i2n, x2e]
            refine Ch_2 13 14 (by decide) (by decide) ?_ ?_
            · refine ChS_still rfl rfl rfl rfl (by simp [k2, u2, i2l, i2n, x2e]) ⟨e0, e1⟩ ?_; simp [k2, u2, i2l, i2n, x2e]
              refine Ch_1 14 (by decide) (by decide) ?_
              refine ChS_still rfl rfl rfl rfl (by simp) ⟨e0, e1⟩ ?_; simp
              refine Ch_end (by decide) ?_
              refine AS_of_AO ?_; simp
              exact hrest _ x1 x2 _ _ rfl ho2.hl rfl rfl rfl hL1 hL2 ⟨_, i1⟩ (ho2.get r1) ⟨_, i2⟩ r2 (by have := (List.getElem?_eq_some_iff.1 r1).1; omega) o1 (by have := ho1.len; simp at this; omega)
            · refine ChS_still rfl rfl rfl rfl (by simp) ⟨e0, e1⟩ ?_; simp
              refine Ch_1 13 (by decide) (by decide) ?_
              refine ChS_still rfl rfl rfl rfl (by simp [k2, u2, i2l, i2n, x2e]) ⟨e0, e1⟩ ?_; simp [k2, u2, i2l, i2n, x2e]
              refine Ch_end (by decide) ?_
              refine AS_of_AO ?_; simp
              exact hrest _ x1 x2 _ _ rfl ho2.hl rfl rfl rfl hL1 hL2 ⟨_, i1⟩ (ho2.get r1) ⟨_, i2⟩ r2 (by have := (List.getElem?_eq_some_iff.1 r1).1; omega) o1 (by have := ho1.len; simp at this; omega)
          · refine ChS_still rfl rfl rfl rfl (by simp) ⟨e0, e1⟩ ?_; simp
            refine Ch_1 12 (by decide) (by decide) ?_
            refine ChS_still rfl rfl rfl rfl (by simp [k2, u2, i2l, i2n, x2e]) ⟨e0, e1⟩ ?_; simp [k2, u2, i2l, i2n, x2e]
            refine Ch_1 13 (by decide) (by decide) ?_
            refine ChS_still rfl rfl rfl rfl (by simp [k2, u2, i2l, i2n, x2e]) ⟨e0, e1⟩ ?_; simp [k2, u2, i2l, i2n, x2e]
            refine Ch_end (by decide) ?_
            refine AS_of_AO ?_; simp
            exact hrest _ x1 x2 _ _ rfl ho2.hl rfl rfl rfl hL1 hL2 ⟨_, i1⟩ (ho2.get r1) ⟨_, i2⟩ r2 (by have := (List.getElem?_eq_some_iff.1 r1).1; omega) o1 (by have := ho1.len; simp at this; omega)
        · refine ChS_callG (f := 104) rfl rfl rfl rfl (hof ho1.hl 106 upB c_isAbove) (fun v h2 hq => ?_)
          obtain ⟨b2, g2, f2, ids2, rfl, ho2, q2⟩ := hq
          obtain ⟨x2, L2, hx2, hL2, r2, i2, o2⟩ := q2.row (j := j2) (by rw [luM_len]; exact hjl)
          have i2n := i2.1
          have x2e : ids2[j2] = x2 := by have hz := hx2; rw [List.getElem?_eq_getElem i2n] at hz; exact Option.some.inj hz
          have i2l : (j2 : Int) < ids2.length := by omega
          have u2 := (congrArg (Option.map fun x => [rv x]) hx2)
          rw [← List.getElem?_map] at u2
          have k2 := q2.at0
          have k1 := ho2.get k1
          have e0 := ho2.get e0
          have e1 := ho2.get e1
          refine ⟨⟨e0, e1⟩, ?_⟩
          simp
          refine Ch_2 6 12 (by decide) (by decide) ?_ ?_
          · refine ChS_still rfl rfl rfl rfl (by simp [k1, u1, i1l, i1n, x1e]) ⟨e0, e1⟩ ?_; simp [k1, u1, i1l, i1n, x1e]
            refine Ch_2 12 14 (by decide) (by decide) ?_ ?_
            · refine ChS_still rfl rfl rfl rfl (by simp [k2, u2, i2l, i2n, x2e]) ⟨e0, e1⟩ ?_; simp [k2, u2, i2l, i2n, x2e]
              refine Ch_2 13 14 (by decide) (by decide) ?_ ?_
              · refine ChS_still rfl rfl rfl rfl (by simp [k2, u2, i2l, i2n, x2e]) ⟨e0, e1⟩ ?_; simp [k2, u2, i2l, i2n, x2e]
                refine Ch_1 14 (by decide) (by decide) ?_
                refine ChS_still rfl rfl rfl rfl (by simp) ⟨e0, e1⟩ ?_; simp
                refine Ch_end (by decide) ?_
                refine AS_of_AO ?_; simp
                exact hrest _ x1 x2 _ _ rfl ho2.hl rfl rfl rfl hL1 hL2 ⟨_, i1⟩ (ho2.get r1) ⟨_, i2⟩ r2 (by have := (List.getElem?_eq_some_iff.1 r1).1; omega) o1 (by have := ho1.len; simp at this; omega)
              · refine ChS_still rfl rfl rfl rfl (by simp) ⟨e0, e1⟩ ?_; simp
                refine Ch_1 13 (by decide) (by decide) ?_
                refine ChS_still rfl rfl rfl rfl (by simp [k2, u2, i2l, i2n, x2e]) ⟨e0, e1⟩ ?_; simp [k2, u2, i2l, i2n, x2e]
                refine Ch_end (by decide) ?_
                refine AS_of_AO ?_; simp
                exact hrest _ x1 x2 _ _ rfl ho2.hl rfl rfl rfl hL1 hL2 ⟨_, i1⟩ (ho2.get r1) ⟨_, i2⟩ r2 (by have := (List.getElem?_eq_some_iff.1 r1).1; omega) o1 (by have := ho1.len; simp at this; omega)
            · refine ChS_still rfl rfl rfl rfl (by simp) ⟨e0, e1⟩ ?_; simp
              refine Ch_1 12 (by decide) (by decide) ?_
              refine ChS_still rfl rfl rfl rfl (by simp [k2, u2, i2l, i2n, x2e]) ⟨e0, e1⟩ ?_; simp [k2, u2, i2l, i2n, x2e]
              refine Ch_1 13 (by decide) (by decide) ?_
              refine ChS_still rfl rfl rfl rfl (by simp [k2, u2, i2l, i2n, x2e]) ⟨e0, e1⟩ ?_; simp [k2, u2, i2l, i2n, x2e]
              refine Ch_end (by decide) ?_
              refine AS_of_AO ?_; simp
              exact hrest _ x1 x2 _ _ rfl ho2.hl rfl rfl rfl hL1 hL2 ⟨_, i1⟩ (ho2.get r1) ⟨_, i2⟩ r2 (by have := (List.getElem?_eq_some_iff.1 r1).1; omega) o1 (by have := ho1.len; simp at this; omega)
          · refine ChS_still rfl rfl rfl rfl (by simp [k2, u2, i2l, i2n, x2e]) ⟨e0, e1⟩ ?_; simp [k2, u2, i2l, i2n, x2e]
            refine Ch_2 6 13 (by decide) (by decide) ?_ ?_
            · refine ChS_still rfl rfl rfl rfl (by simp [k1, u1, i1l, i1n, x1e]) ⟨e0, e1⟩ ?_; simp [k1, u1, i1l, i1n, x1e]
              refine Ch_2 13 14 (by decide) (by decide) ?_ ?_
              · refine ChS_still rfl rfl rfl rfl (by simp [k2, u2, i2l, i2n, x2e]) ⟨e0, e1⟩ ?_; simp [k2, u2, i2l, i2n, x2e]
                refine Ch_1 14 (by decide) (by decide) ?_
                refine ChS_still rfl rfl rfl rfl (by simp) ⟨e0, e1⟩ ?_; simp
                refine Ch_end (by decide) ?_
                refine AS_of_AO ?_; simp
                exact hrest _ x1 x2 _ _ rfl ho2.hl rfl rfl rfl hL1 hL2 ⟨_, i1⟩ (ho2.get r1) ⟨_, i2⟩ r2 (by have := (List.getElem?_eq_some_iff.1 r1).1; omega) o1 (by have := ho1.len; simp at this; omega)
              · refine ChS_still rfl rfl rfl rfl (by simp) ⟨e0, e1⟩ ?_; simp
                refine Ch_1 13 (by decide) (by decide) ?_
                refine ChS_still rfl rfl rfl rfl (by simp [k2, u2, i2l, i2n, x2e]) ⟨e0, e1⟩ ?_; simp [k2, u2, i2l, i2n, x2e]
                refine Ch_end (by decide) ?_
                refine AS_of_AO ?_; simp
                exact hrest _ x1 x2 _ _ rfl ho2.hl rfl rfl rfl hL1 hL2 ⟨_, i1⟩ (ho2.get r1) ⟨_, i2⟩ r2 (by have := (List.getElem?_eq_some_iff.1 r1).1; omega) o1 (by have := ho1.len; simp at this; omega)
            · refine ChS_still rfl rfl rfl rfl (by simp [k2, u2, i2l, i2n, x2e]) ⟨e0, e1⟩ ?_; simp [k2, u2, i2l, i2n, x2e]
              refine Ch_1 6 (by decide) (by decide) ?_
              refine ChS_still rfl rfl rfl rfl (by simp [k1, u1, i1l, i1n, x1e]) ⟨e0, e1⟩ ?_; simp [k1, u1, i1l, i1n, x1e]
              refine Ch_1 14 (by decide) (by decide) ?_
              refine ChS_still rfl rfl rfl rfl (by simp) ⟨e0, e1⟩ ?_; simp
              refine Ch_end (by decide) ?_
              refine AS_of_AO ?_; simp
              exact hrest _ x1 x2 _ _ rfl ho2.hl rfl rfl rfl hL1 hL2 ⟨_, i1⟩ (ho2.get r1) ⟨_, i2⟩ r2 (by have := (List.getElem?_eq_some_iff.1 r1).1; omega) o1 (by have := ho1.len; simp at this; omega)
      · refine ChS_callG (f := 104) rfl rfl rfl rfl (hof ho1.hl 106 upB c_isAbove) (fun v h2 hq => ?_)
        obtain ⟨b2, g2, f2, ids2, rfl, ho2, q2⟩ := hq
        obtain ⟨x2, L2, hx2, hL2, r2, i2, o2⟩ := q2.row (j := j2) (by rw [luM_len]; exact hjl)
        have i2n := i2.1
        have x2e : ids2[j2] = x2 := by have hz := hx2; rw [List.getElem?_eq_getElem i2n] at hz; exact Option.some.inj hz
        have i2l : (j2 : Int) < ids2.length := by omega
        have u2 := (congrArg (Option.map fun x => [rv x]) hx2)
        rw [← List.getElem?_map] at u2
        have k2 := q2.at0
        have k1 := ho2.get k1
        have e0 := ho2.get e0
        have e1 := ho2.get e1
        refine ⟨⟨e0, e1⟩, ?_⟩
        simp
        refine Ch_2 5 12 (by decide) (by decide) ?_ ?_
        · refine ChS_still rfl rfl rfl rfl (by simp [k1, u1, i1l, i1n, x1e]) ⟨e0, e1⟩ ?_; simp [k1, u1, i1l, i1n, x1e]
          refine Ch_2 6 12 (by decide) (by decide) ?_ ?_
          · refine ChS_still rfl rfl rfl rfl (by simp [k1, u1, i1l, i1n, x1e]) ⟨e0, e1⟩ ?_; simp [k1, u1, i1l, i1n, x1e]
            refine Ch_2 12 14 (by decide) (by decide) ?_ ?_
            · refine ChS_still rfl rfl rfl rfl (by simp [k2, u2, i2l, i2n, x2e]) ⟨e0, e1⟩ ?_; simp [k2, u2, i2l, i2n, x2e]
              refine Ch_2 13 14 (by decide) (by decide) ?_ ?_
              · refine ChS_still rfl rfl rfl rfl (by simp [k2, u2, i2l, i2n, x2e]) ⟨e0, e1⟩ ?_; simp [k2, u2, i2l, i2n, x2e]
                refine Ch_1 14 (by decide) (by decide) ?_
                refine ChS_still rfl rfl rfl rfl (by simp) ⟨e0, e1⟩ ?_; simp
                refine Ch_end (by decide) ?_
                refine AS_of_AO ?_; simp
                exact hrest _ x1 x2 _ _ rfl ho2.hl rfl rfl rfl hL1 hL2 ⟨_, i1⟩ (ho2.get r1) ⟨_, i2⟩ r2 (by have := (List.getElem?_eq_some_iff.1 r1).1; omega) o1 (by have := ho1.len; simp at this; omega)
              · refine ChS_still rfl rfl rfl rfl (by simp) ⟨e0, e1⟩ ?_; simp
                refine Ch_1 13 (by decide) (by decide) ?_
                refine ChS_still rfl rfl rfl rfl (by simp [k2, u2, i2l, i2n, x2e]) ⟨e0, e1⟩ ?_; simp [k2, u2, i2l, i2n, x2e]
                refine Ch_end (by decide) ?_
                refine AS_of_AO ?_; simp
                exact hrest _ x1 x2 _ _ rfl ho2.hl rfl rfl rfl hL1 hL2 ⟨_, i1⟩ (ho2.get r1) ⟨_, i2⟩ r2 (by have := (List.getElem?_eq_some_iff.1 r1).1; omega) o1 (by have := ho1.len; simp at this; omega)
            · refine ChS_still rfl rfl rfl rfl (by simp) ⟨e0, e1⟩ ?_; simp
              refine Ch_1 12 (by decide) (by decide) ?_
              refine ChS_still rfl rfl rfl rfl (by simp [k2, u2, i2l, i2n, x2e]) ⟨e0, e1⟩ ?_; simp [k2, u2, i2l, i2n, x2e]
              refine Ch_1 13 (by decide) (by decide) ?_
              refine ChS_still rfl rfl rfl rfl (by simp [k2, u2, i2l, i2n, x2e]) ⟨e0, e1⟩ ?_; simp [k2, u2, i2l, i2n, x2e]
              refine Ch_end (by decide) ?_
              refine AS_of_AO ?_; simp
              exact hrest _ x1 x2 _ _ rfl ho2.hl rfl rfl rfl hL1 hL2 ⟨_, i1⟩ (ho2.get r1) ⟨_, i2⟩ r2 (by have := (List.getElem?_eq_some_iff.1 r1).1; omega) o1 (by have := ho1.len; simp at this; omega)
          · refine ChS_still rfl rfl rfl rfl (by simp [k2, u2, i2l, i2n, x2e]) ⟨e0, e1⟩ ?_; simp [k2, u2, i2l, i2n, x2e]
            refine Ch_2 6 13 (by decide) (by decide) ?_ ?_
            · refine ChS_still rfl rfl rfl rfl (by simp [k1, u1, i1l, i1n, x1e]) ⟨e0, e1⟩ ?_; simp [k1, u1, i1l, i1n, x1e]
              refine Ch_2 13 14 (by decide) (by decide) ?_ ?_
              · refine ChS_still rfl rfl rfl rfl (by simp [k2, u2, i2l, i2n, x2e]) ⟨e0, e1⟩ ?_; simp [k2, u2, i2l, i2n, x2e]
                refine Ch_1 14 (by decide) (by decide) ?_
                refine ChS_still rfl rfl rfl rfl (by simp) ⟨e0, e1⟩ ?_; simp
                refine Ch_end (by decide) ?_
                refine AS_of_AO ?_; simp
                exact hrest _ x1 x2 _ _ rfl ho2.hl rfl rfl rfl hL1 hL2 ⟨_, i1⟩ (ho2.get r1) ⟨_, i2⟩ r2 (by have := (List.getElem?_eq_some_iff.1 r1).1; omega) o1 (by have := ho1.len; simp at this; omega)
              · refine ChS_still rfl rfl rfl rfl (by simp) ⟨e0, e1⟩ ?_; simp
                refine Ch_1 13 (by decide) (by decide) ?_
                refine ChS_still rfl rfl rfl rfl (by simp [k2, u2, i2l, i2n, x2e]) ⟨e0, e1⟩ ?_; simp [k2, u2, i2l, i2n, x2e]
                refine Ch_end (by decide) ?_
                refine AS_of_AO ?_; simp
                exact hrest _ x1 x2 _ _ rfl ho2.hl rfl rfl rfl hL1 hL2 ⟨_, i1⟩ (ho2.get r1) ⟨_, i2⟩ r2 (by have := (List.getElem?_eq_some_iff.1 r1).1; omega) o1 (by have := ho1.len; simp at this; omega)
            · refine ChS_still rfl rfl rfl rfl (by simp [k2, u2, i2l, i2n, x2e]) ⟨e0, e1⟩ ?_; simp [k2, u2, i2l, i2n, x2e]
              refine Ch_1 6 (by decide) (by decide) ?_
              refine ChS_still rfl rfl rfl rfl (by simp [k1, u1, i1l, i1n, x1e]) ⟨e0, e1⟩ ?_; simp [k1, u1, i1l, i1n, x1e]
              refine Ch_1 14 (by decide) (by decide) ?_
              refine ChS_still rfl rfl rfl rfl (by simp) ⟨e0, e1⟩ ?_; simp
              refine Ch_end (by decide) ?_
              refine AS_of_AO ?_; simp
              exact hrest _ x1 x2 _ _ rfl ho2.hl rfl rfl rfl hL1 hL2 ⟨_, i1⟩ (ho2.get r1) ⟨_, i2⟩ r2 (by have := (List.getElem?_eq_some_iff.1 r1).1; omega) o1 (by have := ho1.len; simp at this; omega)
        · refine ChS_still rfl rfl rfl rfl (by simp [k2, u2, i2l, i2n, x2e]) ⟨e0, e1⟩ ?_; simp [k2, u2, i2l, i2n, x2e]
          refine Ch_2 5 13 (by decide) (by decide) ?_ ?_
          · refine ChS_still rfl rfl rfl rfl (by simp [k1, u1, i1l, i1n, x1e]) ⟨e0, e1⟩ ?_; simp [k1, u1, i1l, i1n, x1e]
            refine Ch_2 6 13 (by decide) (by decide) ?_ ?_
            · refine ChS_still rfl rfl rfl rfl (by simp [k1, u1, i1l, i1n, x1e]) ⟨e0, e1⟩ ?_; simp [k1, u1, i1l, i1n, x1e]
              refine Ch_2 13 14 (by decide) (by decide) ?_ ?_
              · refine ChS_still rfl rfl rfl rfl (by simp [k2, u2, i2l, i2n, x2e]) ⟨e0, e1⟩ ?_; simp [k2, u2, i2l, i2n, x2e]
                refine Ch_1 14 (by decide) (by decide) ?_
                refine ChS_still rfl rfl rfl rfl (by simp) ⟨e0, e1⟩ ?_; simp
                refine Ch_end (by decide) ?_
                refine AS_of_AO ?_; simp
                exact hrest _ x1 x2 _ _ rfl ho2.hl rfl rfl rfl hL1 hL2 ⟨_, i1⟩ (ho2.get r1) ⟨_, i2⟩ r2 (by have := (List.getElem?_eq_some_iff.1 r1).1; omega) o1 (by have := ho1.len; simp at this; omega)
              · refine ChS_still rfl rfl rfl rfl (by simp) ⟨e0, e1⟩ ?_; simp
                refine Ch_1 13 (by decide) (by decide) ?_
                refine ChS_still rfl rfl rfl rfl (by simp [k2, u2, i2l, i2n, x2e]) ⟨e0, e1⟩ ?_; simp [k2, u2, i2l, i2n, x2e]
                refine Ch_end (by decide) ?_
                refine AS_of_AO ?_; simp
                exact hrest _ x1 x2 _ _ rfl ho2.hl rfl rfl rfl hL1 hL2 ⟨_, i1⟩ (ho2.get r1) ⟨_, i2⟩ r2 (by have := (List.getElem?_eq_some_iff.1 r1).1; omega) o1 (by have := ho1.len; simp at this; omega)
            · refine ChS_still rfl rfl rfl rfl (by simp [k2, u2, i2l, i2n, x2e]) ⟨e0, e1⟩ ?_; simp [k2, u2, i2l, i2n, x2e]
              refine Ch_1 6 (by decide) (by decide) ?_
              refine ChS_still rfl rfl rfl rfl (by simp [k1, u1, i1l, i1n, x1e]) ⟨e0, e1⟩ ?_; simp [k1, u1, i1l, i1n, x1e]
              refine Ch_1 14 (by decide) (by decide) ?_
              refine ChS_still rfl rfl rfl rfl (by simp) ⟨e0, e1⟩ ?_; simp
              refine Ch_end (by decide) ?_
              refine AS_of_AO ?_; simp
              exact hrest _ x1 x2 _ _ rfl ho2.hl rfl rfl rfl hL1 hL2 ⟨_, i1⟩ (ho2.get r1) ⟨_, i2⟩ r2 (by have := (List.getElem?_eq_some_iff.1 r1).1; omega) o1 (by have := ho1.len; simp at this; omega)
          · refine ChS_still rfl rfl rfl rfl (by simp [k2, u2, i2l, i2n, x2e]) ⟨e0, e1⟩ ?_; simp [k2, u2, i2l, i2n, x2e]
            refine Ch_1 5 (by decide) (by decide) ?_
            refine ChS_still rfl rfl rfl rfl (by simp [k1, u1, i1l, i1n, x1e]) ⟨e0, e1⟩ ?_; simp [k1, u1, i1l, i1n, x1e]
            refine Ch_1 6 (by decide) (by decide) ?_
            refine ChS_still rfl rfl rfl rfl (by simp [k1, u1, i1l, i1n, x1e]) ⟨e0, e1⟩ ?_; simp [k1, u1, i1l, i1n, x1e]
            refine Ch_1 14 (by decide) (by decide) ?_
            refine ChS_still rfl rfl rfl rfl (by simp) ⟨e0, e1⟩ ?_; simp
            refine Ch_end (by decide) ?_
            refine AS_of_AO ?_; simp
            exact hrest _ x1 x2 _ _ rfl ho2.hl rfl rfl rfl hL1 hL2 ⟨_, i1⟩ (ho2.get r1) ⟨_, i2⟩ r2 (by have := (List.getElem?_eq_some_iff.1 r1).1; omega) o1 (by have := ho1.len; simp at this; omega)
  · rw [if_pos (show lookE n gs ≠ 0 from he), if_pos (show lookE n gs ≠ 0 from he), if_pos (show lookE n gs ≠ 0 from he)]
    generalize lookE n gs = e0 at *
    simp only [gsV, vl, NetD.cells] at hb
    refine PCall.nil2 ?_ (by simp)
    refine PCall_body Tryz.func36 rfl (by decide) Tryz.ntmps36 (by simp) Tryz.results36 ?_
    repeat' (first
 |refine AW_seq_k fun K hK=>?_|refine Step.by1 ?_|refine SBlock_exit_ne (by decide) ?_|refine cz rfl ?_|refine Fork.by2 (fun h=>?_) fun h=>?_
 |((first|refine AW_region_AO ?_|refine AS_call1 (f:=103) rfl rfl (hb) rfl rfl rfl ?_);simp [gsV, vl, NetD.cells, he])
 |(refine Split.by2 (fun h=>?_) (fun h=>?_)<;>(simp [h, gsV, vl, NetD.cells, he]))
 |(apply hK;clear hK K)|refine AWh (by assumption) ?_)
    exact retq3 (conv_eq rfl rfl)
end Go.Proofs.YtgmlimipejcpgaaGreatDoor
end

section
set_option linter.unusedVariables false
set_option linter.unusedSimpArgs false
namespace Go.Proofs.YtgmlimipejcpgaaGreatDoor
open Go Go.AM Fx
end Go.Proofs.YtgmlimipejcpgaaGreatDoor
end

section
set_option linter.unusedVariables false
set_option linter.unusedSimpArgs false
namespace Go.Proofs.YtgmlimipejcpgaaGreatDoor
open Go Go.AM Fx
end Go.Proofs.YtgmlimipejcpgaaGreatDoor
end

section
set_option linter.unusedVariables false
set_option linter.unusedSimpArgs false
namespace Go.Proofs.YtgmlimipejcpgaaGreatDoor
open Go Go.AM Fx
theorem N2.snocAt {o b g : Nat} {h h1 : List B} {fl : Bool} {ids : List (Nat × Nat × Nat)} {P : List (List Int)} (p : N2 o h b g fl ids P) (hh : ∀ k, k < h.length → h1[k]? = h[k]?) {k gk len : Nat} {ns : List Int} (hk : h.length ≤ k) (ho : o ≤ k) (hr : h1[k]? = some (.row 3 gk 0 true (ivs ns))) (hns : ns.length = len) :
    N2 o (h1.set b (.row 47 (g + 1) 0 false (ids.map (fun x => [rv x]) ++ [[rv (k, gk, len)]]))) b (g + 1) false (ids ++ [(k, gk, len)]) (P ++ [ns]) := by
  have q := p.mono hh
  have hb := q.b_lt
  have hkb : b ≠ k := by have := p.b_lt; omega
  refine ⟨?_, fun h => (by cases h), by simp [p.len], fun j x hx => ?_, ⟨p.low.1, fun x hx => ?_⟩, ?_⟩
  · rw [List.getElem?_set, if_pos rfl, if_pos hb]; simp
  · by_cases hj : j < ids.length
    · rw [List.getElem?_append_left hj] at hx
      obtain ⟨ms, h4, h5, h6⟩ := q.rows j x hx
      have hne : b ≠ x.1 := fun e => by
        have := q.at0
        rw [e, h6] at this
        simp at this
      exact ⟨ms, by rw [List.getElem?_append_left (by rw [p.len]; exact hj)]; exact h4, h5, by rw [get_set_ne hne]; exact h6⟩
    · have hj2 : j = ids.length := by have := (List.getElem?_eq_some_iff.1 hx).1; simp at this; omega
      subst hj2
      simp at hx; subst hx
      exact ⟨ns, by rw [← p.len]; simp, hns, by rw [get_set_ne hkb]; exact hr⟩
  · rcases List.mem_append.1 hx with hx | hx
    · exact p.low.2 x hx
    · simp at hx; subst hx; exact ho
  · rw [List.map_append]
    refine List.nodup_append.2 ⟨p.nodup, by simp, fun u hu w hw e => ?_⟩
    obtain ⟨x, hx, rfl⟩ := List.mem_map.1 hu
    simp at hw
    have := p.ids_lt x hx
    omega
theorem N2.set47 {o b g : Nat} {h : List B} {fl : Bool} {ids : List (Nat × Nat × Nat)} {P : List (List Int)} (p : N2 o h b g fl ids P) {k gk fk : Nat} {flk : Bool} {xs : List (List V)} {y : B} (hne : k ≠ b) (hk : h[k]? = some (.row 47 gk fk flk xs)) : N2 o (h.set k y) b g fl ids P :=
  ⟨by rw [get_set_ne hne]; exact p.at0, p.flat, p.len, fun j x hx => by
    obtain ⟨ns, h1, h2, h3⟩ := p.rows j x hx
    exact ⟨ns, h1, h2, by rw [get_set_ne (fun e => by rw [← e, hk] at h3; simp at h3)]; exact h3⟩, p.low, p.nodup⟩
theorem MR.setne {h : List B} {mr gm N : Nat} {fl : Bool} {ids : List (Nat × Nat)} {m : List (List Int)} (p : MR 47 3 ivs h mr gm fl ids N m h) {k : Nat} {y : B} (hne : k ≠ mr) (hk : ∀ x ∈ ids, k ≠ x.1) (hl : HL (h.set k y)) : MR 47 3 ivs (h.set k y) mr gm fl ids N m (h.set k y) :=
  ⟨p.ne, rfl, hl, by rw [get_set_ne hne]; exact p.mr, p.ml, fun i x hx => by
    obtain ⟨r, h1, h2, h3⟩ := p.rows i x hx
    exact ⟨r, h1, h2, by rw [get_set_ne (hk x (List.mem_of_getElem? hx))]; exact h3⟩, p.inj, fun _ _ => rfl⟩
/-- Behind i places. -/
structure Q1 (n : NetD) (a : AutoD) (N : Nat) (gs : List (List PartD)) (i : Nat) (hc : List B) (f1 : Bool) (ids1 : List (Nat × Nat × Nat)) (f2 : Bool) (ids2 : List (Nat × Nat × Nat)) : Prop where
  hl : HL hc
  c0 : hc[0]? = some (.var n.cells)
  c1 : hc[1]? = some (.var a.cells)
  l1 : ids1.length = i
  l2 : ids2.length = i
  n1 : ∀ x ∈ ids1, x.2.2 = N
  n2 : ∀ x ∈ ids2, x.2.2 = N
  p1 : N2 0 hc 2 i f1 ids1 ((List.range i).map (luBase a N lowB gs))
  p2 : N2 0 hc 3 i f2 ids2 ((List.range i).map (luBase a N upB gs))
  dj : ∀ x ∈ ids1, ∀ y ∈ ids2, x.1 ≠ y.1
/-- The heap behind a place more. -/
def qH (hc : List B) (i N : Nat) (ids1 ids2 : List (Nat × Nat × Nat)) (R : List B) : List B :=
  (R.set 2 (.row 47 (i + 1) 0 false (ids1.map (fun x => [rv x]) ++ [[rv (hc.length, 0, N)]]))).set 3 (.row 47 (i + 1) 0 false (ids2.map (fun x => [rv x]) ++ [[rv (hc.length + 1, 0, N)]]))
theorem Q1.step {n : NetD} {a : AutoD} {N i : Nat} {gs : List (List PartD)} {hc : List B} {f1 f2 : Bool} {ids1 ids2 : List (Nat × Nat × Nat)} (q : Q1 n a N gs i hc f1 ids1 f2 ids2) {R : List B} (hR : HL R) (hlen : R.length = hc.length + 2) (hold : ∀ k, k < hc.length → R[k]? = hc[k]?)
    (r1 : R[hc.length]? = some (.row 3 0 0 true (ivs (luBase a N lowB gs i)))) (r2 : R[hc.length + 1]? = some (.row 3 0 0 true (ivs (luBase a N upB gs i)))) :
    Q1 n a N gs (i + 1) (qH hc i N ids1 ids2 R) false (ids1 ++ [(hc.length, 0, N)]) false (ids2 ++ [(hc.length + 1, 0, N)]) := by
  have hb3 := q.p2.b_lt
  have s1 := q.p1.snocAt hold (Nat.le_refl _) (Nat.zero_le _) r1 luBase_len
  have e2 := q.p2.mono hold
  have e1 := q.p1.mono hold
  have w2 := e2.set47 (k := 2) (y := .row 47 (i + 1) 0 false (ids1.map (fun x => [rv x]) ++ [[rv (hc.length, 0, N)]])) (by omega) e1.at0
  have hk3 : (R.set 2 (.row 47 (i + 1) 0 false (ids1.map (fun x => [rv x]) ++ [[rv (hc.length, 0, N)]])))[3]? = some (.row 47 i 0 f2 (ids2.map fun x => [rv x])) := by rw [get_set_ne (by omega)]; exact e2.at0
  have p1' := s1.set47 (k := 3) (y := .row 47 (i + 1) 0 false (ids2.map (fun x => [rv x]) ++ [[rv (hc.length + 1, 0, N)]])) (by omega) hk3
  have s2 := q.p2.snocAt (h1 := R.set 2 (.row 47 (i + 1) 0 false (ids1.map (fun x => [rv x]) ++ [[rv (hc.length, 0, N)]]))) (k := hc.length + 1) (gk := 0) (ns := luBase a N upB gs i) (len := N)
  have hx1 : ∀ y ∈ ids1.map (fun x => [rv x]) ++ [[rv (hc.length, 0, N)]], V.lts R.length y = true := fun y hy => by
    rcases List.mem_append.1 hy with hy | hy
    · exact refs_lt (fun x hx => by have := q.p1.ids_lt x hx; omega) y hy
    · simp at hy; subst hy; simp [rv]; omega
  have hx2 : ∀ y ∈ ids2.map (fun x => [rv x]) ++ [[rv (hc.length + 1, 0, N)]], V.lts R.length y = true := fun y hy => by
    rcases List.mem_append.1 hy with hy | hy
    · exact refs_lt (fun x hx => by have := q.p2.ids_lt x hx; omega) y hy
    · simp at hy; subst hy; simp [rv]; omega
  unfold qH
  refine ⟨(hR.set (rowR_lt hx1)).set (rowR_lt (by rw [List.length_set]; exact hx2)), ?_, ?_, by simp [q.l1], by simp [q.l2], fun x hx => ?_, fun x hx => ?_, ?_, ?_, fun x hx y hy => ?_⟩
  · rw [get_set_ne (by omega), get_set_ne (by omega), hold 0 (by omega)]; exact q.c0
  · rw [get_set_ne (by omega), get_set_ne (by omega), hold 1 (by omega)]; exact q.c1
  · rcases List.mem_append.1 hx with hx | hx
    · exact q.n1 x hx
    · simp at hx; subst hx; rfl
  · rcases List.mem_append.1 hx with hx | hx
    · exact q.n2 x hx
    · simp at hx; subst hx; rfl
  · rw [List.range_succ, List.map_append]; exact p1'
  · rw [List.range_succ, List.map_append]
    have h47 : N2 0 (R.set 2 (.row 47 (i + 1) 0 false (ids1.map (fun x => [rv x]) ++ [[rv (hc.length, 0, N)]]))) 3 i f2 ids2 ((List.range i).map (luBase a N upB gs)) := w2
    have key : N2 0 ((R.set 3 (.row 47 (i + 1) 0 false (ids2.map (fun x => [rv x]) ++ [[rv (hc.length + 1, 0, N)]]))).set 2 (.row 47 (i + 1) 0 false (ids1.map (fun x => [rv x]) ++ [[rv (hc.length, 0, N)]]))) 3 (i + 1) false (ids2 ++ [(hc.length + 1, 0, N)]) ((List.range i).map (luBase a N upB gs) ++ [luBase a N upB gs i]) := by
      have t := q.p2.snocAt hold (k := hc.length + 1) (Nat.le_succ _) (Nat.zero_le _) r2 luBase_len
      exact t.set47 (by omega) (by rw [get_set_ne (by omega)]; exact e1.at0)
    rw [List.set_comm _ _ (by omega)] at key
    exact key
  · rcases List.mem_append.1 hx with hx | hx <;> rcases List.mem_append.1 hy with hy | hy
    · exact q.dj x hx y hy
    · simp at hy; subst hy; have := q.p1.ids_lt x hx; simp; omega
    · simp at hx; subst hx; have := q.p2.ids_lt y hy; simp; omega
    · simp at hx hy; subst hx; subst hy; simp
/-- Two rows of rows of numbers. -/
structure W2 (n : NetD) (a : AutoD) (N K L : Nat) (f1 : Bool) (js1 : List (Nat × Nat)) (f2 : Bool) (js2 : List (Nat × Nat)) (m1 m2 : List (List Int)) (hc : List B) : Prop where
  len : hc.length = K
  c0 : hc[0]? = some (.var n.cells)
  c1 : hc[1]? = some (.var a.cells)
  p1 : MR 47 3 ivs hc 2 L f1 js1 N m1 hc
  p2 : MR 47 3 ivs hc 3 L f2 js2 N m2 hc
  dj : ∀ x ∈ js1, ∀ y ∈ js2, x.1 ≠ y.1
theorem Q1.w2 {n : NetD} {a : AutoD} {N : Nat} {gs : List (List PartD)} {hc : List B} {f1 f2 : Bool} {ids1 ids2 : List (Nat × Nat × Nat)} {L : Nat} (q : Q1 n a N gs L hc f1 ids1 f2 ids2) :
    W2 n a N hc.length L f1 (ids1.map fun x => (x.1, x.2.1)) f2 (ids2.map fun x => (x.1, x.2.1)) ((List.range L).map (luBase a N lowB gs)) ((List.range L).map (luBase a N upB gs)) hc :=
  ⟨rfl, q.c0, q.c1, q.p1.toMR q.hl q.n1, q.p2.toMR q.hl q.n2, fun x hx y hy => by
    obtain ⟨u, hu, rfl⟩ := List.mem_map.1 hx
    obtain ⟨v, hv, rfl⟩ := List.mem_map.1 hy
    exact q.dj u hu v hv⟩
end Go.Proofs.YtgmlimipejcpgaaGreatDoor
end

section
set_option linter.unusedVariables false
set_option linter.unusedSimpArgs false
namespace Go.Proofs.YtgmlimipejcpgaaGreatDoor
open Go Go.AM Fx
end Go.Proofs.YtgmlimipejcpgaaGreatDoor
end

section
set_option linter.unusedVariables false
set_option linter.unusedSimpArgs false
namespace Go.Proofs.YtgmlimipejcpgaaGreatDoor
open Go Go.AM Fx
theorem c_luPlanBad (n : NetD) (hn : n.ok) (gs : List (List PartD)) (hgl : gs.length ≤ 1048576) (hgs : ∀ g ∈ gs, okGoal g) (he : lookE n gs ≠ 0) :
    PC 38 [.agg n.cells, gsV gs] (.tup [.agg [.nils, .nils], .int .i64 (lookE n gs)]) := by
  have hc := c_luLook n hn gs hgl hgs
  generalize lookE n gs = e at *
  simp only [NetD.cells, vl, gsV] at hc
  refine PCall_body Tryz.func38 rfl (by decide) Tryz.ntmps38 (by simp) Tryz.results38 ?_
  repeat' (first
 |refine AW_seq_k fun K hK=>?_|refine Step.by1 ?_|refine SBlock_exit_ne (by decide) ?_|refine cz rfl ?_|refine Fork.by2 (fun h=>?_) fun h=>?_
 |((first|refine AW_region_AO ?_|refine AS_call1 (f:=103) rfl rfl (hc) rfl rfl rfl ?_);simp [NetD.cells, vl, gsV, he])
 |(refine Split.by2 (fun h=>?_) (fun h=>?_)<;>(simp [h, NetD.cells, vl, gsV, he]))
 |(apply hK;clear hK K)|refine AWh (by assumption) ?_)
  exact retq2ct rfl (by simp) (conv_eq (by simp) (by simp))
end Go.Proofs.YtgmlimipejcpgaaGreatDoor
end

section
set_option linter.unusedVariables false
set_option linter.unusedSimpArgs false
namespace Go.Proofs.YtgmlimipejcpgaaGreatDoor
open Go Go.AM Fx
@[simp] theorem rows3V_len {P : List (List (List Int))} : (rows3V P).length = P.length := by simp [rows3V]
@[simp] theorem rows2V_len {P : List (List Int)} : (rows2V P).length = P.length := by simp [rows2V]
theorem rows3V_get {P : List (List (List Int))} {i : Nat} {Q : List (List Int)} (h : P[i]? = some Q) : (rows3V P)[i]? = some [V.vec (rows2V Q) Q.length] := by simp [rows3V, h]
theorem rows2V_get {P : List (List Int)} {i : Nat} {r : List Int} (h : P[i]? = some r) : (rows2V P)[i]? = some [V.vec (ivs r) r.length] := by simp [rows2V, h]
theorem luP_get {n : NetD} {so : Int → Bool} {gs : List (List PartD)} {k : Nat} (hk : k < n.autos.length) : (luP n so gs)[k]? = some (luM n.autos[k] n.clocks.length (luB n.autos[k] n.clocks.length so gs)) := by simp [luP, hk]
end Go.Proofs.YtgmlimipejcpgaaGreatDoor
end

section
set_option linter.unusedVariables false
set_option linter.unusedSimpArgs false
namespace Go.Proofs.YtgmlimipejcpgaaGreatDoor
open Go Go.AM Fx
def eqF {α β : Type} (p : α → β → Bool) : List α → List β → Bool
  | [], [] => true
  | x :: r, y :: s => p x y && eqF p r s
  | _, _ => false
theorem eqF_ne {α β : Type} {p : α → β → Bool} : ∀ {l : List α} {m : List β}, ¬ l.length = m.length → eqF p l m = false
  | [], [], h => absurd rfl h
  | [], _ :: _, _ => rfl
  | _ :: _, [], _ => rfl
  | x :: r, y :: s, h => by rw [eqF, eqF_ne (fun e => h (by simp [e])), Bool.and_false]
theorem eqF_iff {α β : Type} {p : α → β → Bool} : ∀ {l : List α} {m : List β}, eqF p l m = true ↔ l.length = m.length ∧ ∀ (i : Nat) (a : α) (r : β), l[i]? = some a → m[i]? = some r → p a r = true
  | [], [] => by simp [eqF]
  | [], _ :: _ => by simp [eqF]
  | _ :: _, [] => by simp [eqF]
  | x :: r, y :: s => by
    rw [eqF, Bool.and_eq_true, eqF_iff]
    constructor
    · rintro ⟨h1, h2, h3⟩
      refine ⟨by simp [h2], fun i a b ha hb => ?_⟩
      rcases i with _ | i
      · simp at ha hb; subst ha; subst hb; exact h1
      · exact h3 i a b (by simpa using ha) (by simpa using hb)
    · rintro ⟨h2, h3⟩
      exact ⟨h3 0 x y rfl rfl, by simpa using h2, fun i a b ha hb => h3 (i + 1) a b (by simpa using ha) (by simpa using hb)⟩
def outB (m : Int) : Bool := decide (m < -1 ∨ 1048576 < m)
theorem c_out (m : Int) : PC 183 [.int .i64 m] (.bool (outB m)) := by
  refine PCall_body Tryz.func183 rfl (by decide) Tryz.ntmps183 (by simp) Tryz.results183 ?_
  repeat' (first
 |refine AW_seq_k fun K hK=>?_|refine Step.by1 ?_|refine SBlock_exit_ne (by decide) ?_|refine cz rfl ?_|refine Fork.by2 (fun h=>?_) fun h=>?_
 |(refine AW_region_AO ?_;simp)
 |(refine Split.by2 (fun h=>?_) (fun h=>?_)<;>(simp [h]))
 |(apply hK;clear hK K)|refine AWh (by assumption) ?_)
  all_goals first
    | exact retq1 (conv_eq (by simp [outB, *]; done) rfl)
    | exact retq1 (conv_eq (by simp [outB, *]; omega) rfl)
    | trace_state
def idxL (P : Int → Bool) : List Int → Nat → Int
  | [], _ => -1
  | s :: r, i => if P s = true then i else idxL P r (i + 1)
theorem idxL_any {P : Int → Bool} : ∀ {l : List Int} {i : Nat}, 0 ≤ idxL P l i ↔ anyL P l = true
  | [], i => by simp [idxL, anyL_nil]
  | s :: r, i => by
    rw [idxL, anyL_cons, Bool.or_eq_true]
    by_cases h : P s = true
    · rw [if_pos h]; simp [h]
    · rw [if_neg h, idxL_any]; simp [h]
set_option maxHeartbeats 4000000 in
theorem c_idxInt (f : Nat) (P : Int → Bool) (hf : ∀ s : Int, PC f [.int .i64 s] (.bool (P s))) (l : List Int) (hll : l.length ≤ 1048576) :
    PC 214 [.vec (ivs l) l.length, .fn (.func f) [] []] (.int .i64 (idxL P l 0)) := by
  refine PCall_body Tryz.func214 rfl (by decide) Tryz.ntmps214 (by simp) Tryz.results214 ?_
  repeat' (first
 |refine AW_seq_k fun K hK=>?_|refine Step.by1 ?_|refine SBlock_exit_ne (by decide) ?_|refine cz rfl ?_|refine Fork.by2 (fun h=>?_) fun h=>?_
 |(refine AW_region_AO ?_;simp [ivs])
 |(refine Split.by2 (fun h=>?_) (fun h=>?_)<;>(simp [h, ivs]))
 |(apply hK;clear hK K)|refine AWh (by assumption) ?_)
  refine AW_loopL [0, 1, 7] (fun i : Nat => [(8, .int .i64 i)]) (fun _ => []) (fun i => i ≤ l.length ∧ idxL P (l.drop i) i = idxL P l 0) (fun i => l.length - i) 0 ⟨Nat.zero_le _, rfl⟩ (by apply Weak.mk' <;> simp [ivs]) (fun _ _ => rfl) ?_
  rintro i ⟨hi, hk⟩
  by_cases hlt : i < l.length
  · obtain ⟨s, hs⟩ : ∃ s, l[i] = s := ⟨_, rfl⟩
    rw [List.drop_eq_getElem_cons hlt, hs, idxL] at hk
    have hlt' : (i : Int) < l.length := by omega
    have w1 : IntKind.i64.wrap ((i : Int) + 1) = i + 1 := wrap_i64 (by omega) (by omega)
    have hc := hf s
    generalize P s = b at *
    cases b
    · rw [if_neg (by simp)] at hk
      repeat' (first
 |refine AW_seq_k fun K hK=>?_|refine Step.by1 ?_|refine SBlock_exit_ne (by decide) ?_|refine cz rfl ?_|refine Fork.by2 (fun h=>?_) fun h=>?_
 |(refine AW_region_AO ?_;simp [ivs, hlt, hlt', hs, w1])
 |(refine Split.by2 (fun h=>?_) (fun h=>?_)<;>(simp [h, ivs, hlt, hlt', hs, w1]))
 |(refine AS_call1 (f := f) rfl rfl hc rfl rfl rfl ?_; simp [hs])
 |(apply hK;clear hK K)|refine AWh (by assumption) ?_)
      refine ⟨i + 1, ⟨by omega, hk⟩, by omega, ?_⟩
      apply Weak.mk' <;> simp [ivs]
    · rw [if_pos rfl] at hk
      repeat' (first
 |refine AW_seq_k fun K hK=>?_|refine Step.by1 ?_|refine SBlock_exit_ne (by decide) ?_|refine cz rfl ?_|refine Fork.by2 (fun h=>?_) fun h=>?_
 |(refine AW_region_AO ?_;simp [ivs, hlt, hlt', hs, w1])
 |(refine Split.by2 (fun h=>?_) (fun h=>?_)<;>(simp [h, ivs, hlt, hlt', hs, w1]))
 |(refine AS_call1 (f := f) rfl rfl hc rfl rfl rfl ?_; simp [hs])
 |(apply hK;clear hK K)|refine AWh (by assumption) ?_)
      exact retq1 (conv_eq (by simp [← hk]) rfl)
  · obtain rfl : i = l.length := by omega
    rw [List.drop_length, idxL] at hk
    repeat' (first
 |refine AW_seq_k fun K hK=>?_|refine Step.by1 ?_|refine SBlock_exit_ne (by decide) ?_|refine cz rfl ?_|refine Fork.by2 (fun h=>?_) fun h=>?_
 |(refine AW_region_AO ?_;simp [ivs])
 |(refine Split.by2 (fun h=>?_) (fun h=>?_)<;>(simp [h, ivs]))
 |(apply hK;clear hK K)|refine AWh (by assumption) ?_)
    exact retq1 (conv_eq (by simp [← hk]) rfl)
set_option maxHeartbeats 4000000 in
theorem c_hasInt (f : Nat) (P : Int → Bool) (hf : ∀ s : Int, PC f [.int .i64 s] (.bool (P s))) (l : List Int) (hll : l.length ≤ 1048576) :
    PC 182 [.vec (ivs l) l.length, .fn (.func f) [] []] (.bool (anyL P l)) := by
  have hc := c_idxInt f P hf l hll
  have ha := idxL_any (P := P) (l := l) (i := 0)
  generalize idxL P l 0 = k at *
  generalize ivs l = L at *
  refine PCall_body Tryz.func182 rfl (by decide) Tryz.ntmps182 (by simp) Tryz.results182 ?_
  by_cases hk : 0 ≤ k
  · rw [ha.1 hk]
    repeat' (first
 |refine AW_seq_k fun K hK=>?_|refine Step.by1 ?_|refine SBlock_exit_ne (by decide) ?_|refine cz rfl ?_|refine Fork.by2 (fun h=>?_) fun h=>?_
 |((first|refine AW_region_AO ?_|refine AS_call1 (f:=214) rfl rfl (hc) rfl rfl rfl ?_);simp [hk])
 |(refine Split.by2 (fun h=>?_) (fun h=>?_)<;>(simp [h, hk]))
 |(apply hK;clear hK K)|refine AWh (by assumption) ?_)
    exact retq1 (conv_eq rfl rfl)
  · have hb : anyL P l = false := by
      cases h : anyL P l
      · rfl
      · exact absurd (ha.2 h) hk
    rw [hb]
    repeat' (first
 |refine AW_seq_k fun K hK=>?_|refine Step.by1 ?_|refine SBlock_exit_ne (by decide) ?_|refine cz rfl ?_|refine Fork.by2 (fun h=>?_) fun h=>?_
 |((first|refine AW_region_AO ?_|refine AS_call1 (f:=214) rfl rfl (hc) rfl rfl rfl ?_);simp [hk])
 |(refine Split.by2 (fun h=>?_) (fun h=>?_)<;>(simp [h, hk]))
 |(apply hK;clear hK K)|refine AWh (by assumption) ?_)
    exact retq1 (conv_eq rfl rfl)
def rowOk (N : Nat) (r : List Int) : Bool := decide (r.length = N) && !anyL outB r
set_option maxHeartbeats 8000000 in
theorem g_eqLocs {h : List B} (hl : HL h) {b : Nat} {cs : List V} (hb : h[b]? = some (.var cs)) (f : Nat) (p : LocD → List Int → Bool) (l : List LocD) (m : List (List Int))
    (hf : ∀ (H : List B), HL H → H[b]? = some (.var cs) → ∀ a ∈ l, ∀ r ∈ m, GCall Tryz.prog GV f [.agg a.cells, .vec (ivs r) r.length, .ptr b 0] H (fun v h' => v = .bool (p a r) ∧ h' = H)) (hll : l.length ≤ 1048576) :
    GCall Tryz.prog GV 180 [vl LocD.cells l, .vec (rows2V m) m.length, .fn (.func f) [] [.ptr b 0]] h (fun v h' => v = .bool (eqF p l m) ∧ h' = h) := by
  have hrl : (rows2V m).length = m.length := by simp
  have hbl := (List.getElem?_eq_some_iff.1 hb).1
  have g0 := fun x : List B => ga0 (h := h) (x := x) rfl
  by_cases hlen : l.length = m.length
  · have hlen' : (l.length : Int) = m.length := by omega
    refine GCall_body Tryz.func180 rfl (by decide) Tryz.ntmps180 (by simp) Tryz.results180 ?_
    repeat' (first
 |refine AW_seq_k fun K hK=>?_|refine Step.by1 ?_|refine SBlock_exit_ne (by decide) ?_|refine cz rfl ?_|refine Fork.by2 (fun h=>?_) fun h=>?_
 |(refine AW_region_AO ?_;simp [vl, hlen, hlen'])
 |(refine Split.by2 (fun h=>?_) (fun h=>?_)<;>(simp [h, vl, hlen, hlen']))
 |(apply hK;clear hK K)|refine AWh (by assumption) ?_)
    refine AW_loopL [1, 2, 15, 16] (fun i : Nat => [(17, .int .i64 i)]) (fun _ => h) (fun i => i ≤ l.length ∧ eqF p (l.drop i) (m.drop i) = eqF p l m) (fun i => l.length - i) 0 ⟨Nat.zero_le _, rfl⟩ (Weak.sym (x := []) (by simp) hl (by simp [hbl, hlen])) (fun _ _ => rfl) ?_
    rintro i ⟨hi, hk⟩
    by_cases hlt : i < l.length
    · obtain ⟨a, haa⟩ : ∃ a, l[i] = a := ⟨_, rfl⟩
      have hlm : i < m.length := by omega
      obtain ⟨r, hrr⟩ : ∃ r, m[i] = r := ⟨_, rfl⟩
      rw [List.drop_eq_getElem_cons hlt, List.drop_eq_getElem_cons hlm, haa, hrr, eqF] at hk
      have hlt' : (i : Int) < l.length := by omega
      have hlm' : (i : Int) < m.length := by omega
      have w1 : IntKind.i64.wrap ((i : Int) + 1) = i + 1 := wrap_i64 (by omega) (by omega)
      have c2 := rows2V_get (P := m) (i := i) (by rw [List.getElem?_eq_getElem hlm, hrr])
      have c3 : (rows2V m)[i]'(by omega) = [.vec (ivs r) r.length] := by rw [List.getElem?_eq_getElem (by omega)] at c2; exact Option.some.inj c2
      have hH : HL (h ++ [B.var a.cells]) := hl.push (by simp [LocD.cells, vl])
      have hc := hf (h ++ [B.var a.cells]) hH (by rw [List.getElem?_append_left hbl]; exact hb) a (haa ▸ List.getElem_mem hlt) r (hrr ▸ List.getElem_mem hlm)
      simp only [LocD.cells, vl] at hc
      generalize p a r = q at *
      cases q
      · rw [Bool.false_and] at hk
        repeat' (first
 |refine AW_seq_k fun K hK=>?_|refine Step.by1 ?_|refine SBlock_exit_ne (by decide) ?_|refine cz rfl ?_|refine Fork.by2 (fun h=>?_) fun h=>?_
 |(refine AW_region_AO ?_;simp [vl, LocD.cells, hlt, hlt', hlm, hlm', haa, c2, c3, w1, hrl, g0, hlen])
 |(refine Split.by2 (fun h=>?_) (fun h=>?_)<;>(simp [h, vl, LocD.cells, hlt, hlt', hlm, hlm', haa, c2, c3, w1, hrl, g0, hlen]))
 |(refine AS_callG (f := f) rfl rfl hc rfl (fun v h' hq => ?_); obtain ⟨rfl, rfl⟩ := hq; simp [g0])
 |(apply hK;clear hK K)|refine AWh (by assumption) ?_)
        exact retg1 ⟨by rw [← hk]; rfl, rfl⟩ rfl (Go.Proofs.YtgmlimipejcpgaaGreatDoor.Leaves.symx (Nat.le_refl _) hl)
      · rw [Bool.true_and] at hk
        repeat' (first
 |refine AW_seq_k fun K hK=>?_|refine Step.by1 ?_|refine SBlock_exit_ne (by decide) ?_|refine cz rfl ?_|refine Fork.by2 (fun h=>?_) fun h=>?_
 |(refine AW_region_AO ?_;simp [vl, LocD.cells, hlt, hlt', hlm, hlm', haa, c2, c3, w1, hrl, g0, hlen])
 |(refine Split.by2 (fun h=>?_) (fun h=>?_)<;>(simp [h, vl, LocD.cells, hlt, hlt', hlm, hlm', haa, c2, c3, w1, hrl, g0, hlen]))
 |(refine AS_callG (f := f) rfl rfl hc rfl (fun v h' hq => ?_); obtain ⟨rfl, rfl⟩ := hq; simp [g0])
 |(apply hK;clear hK K)|refine AWh (by assumption) ?_)
        exact ⟨i + 1, ⟨by omega, hk⟩, by omega, Weak.sym (x := [B.var a.cells]) (by simp [LocD.cells, vl]) hl (by simp [hbl, hlen])⟩
    · obtain rfl : i = l.length := by omega
      rw [List.drop_length, hlen, List.drop_length, eqF] at hk
      repeat' (first
 |refine AW_seq_k fun K hK=>?_|refine Step.by1 ?_|refine SBlock_exit_ne (by decide) ?_|refine cz rfl ?_|refine Fork.by2 (fun h=>?_) fun h=>?_
 |(refine AW_region_AO ?_;simp [vl, hlen])
 |(refine Split.by2 (fun h=>?_) (fun h=>?_)<;>(simp [h, vl, hlen]))
 |(apply hK;clear hK K)|refine AWh (by assumption) ?_)
      exact retg1 ⟨by rw [← hk]; rfl, rfl⟩ rfl (Go.AM.Leaves.sym (Nat.le_refl _) hl)
  · have hlen' : ¬ (l.length : Int) = m.length := by omega
    rw [eqF_ne hlen]
    refine GCall_body Tryz.func180 rfl (by decide) Tryz.ntmps180 (by simp) Tryz.results180 ?_
    repeat' (first
 |refine AW_seq_k fun K hK=>?_|refine Step.by1 ?_|refine SBlock_exit_ne (by decide) ?_|refine cz rfl ?_|refine Fork.by2 (fun h=>?_) fun h=>?_
 |(refine AW_region_AO ?_;simp [vl, hlen, hlen'])
 |(refine Split.by2 (fun h=>?_) (fun h=>?_)<;>(simp [h, vl, hlen, hlen']))
 |(apply hK;clear hK K)|refine AWh (by assumption) ?_)
    exact retg1 ⟨rfl, rfl⟩ rfl (Go.AM.Leaves.sym (Nat.le_refl _) hl)
set_option maxHeartbeats 8000000 in
theorem g_rowRight {H : List B} (hH : HL H) (n : NetD) {b : Nat} (hb : H[b]? = some (.var n.cells)) (a : LocD) (r : List Int) (hr : r.length ≤ 1048576) :
    GCall Tryz.prog GV 181 [.agg a.cells, .vec (ivs r) r.length, .ptr b 0] H (fun v h' => v = .bool (rowOk n.clocks.length r) ∧ h' = H) := by
  have hbl := (List.getElem?_eq_some_iff.1 hb).1
  have hc := c_hasInt 183 outB c_out r hr
  have hn : (H ++ [B.var a.cells])[b]? = some (.var n.cells) := by rw [List.getElem?_append_left hbl]; exact hb
  unfold rowOk
  generalize anyL outB r = q at *
  generalize ivs r = R at *
  simp only [LocD.cells, NetD.cells, vl] at hn hb ⊢
  refine GCall_body Tryz.func181 rfl (by decide) Tryz.ntmps181 (by simp) Tryz.results181 ?_
  by_cases hk : r.length = n.clocks.length
  · have hk' : (r.length : Int) = n.clocks.length := by omega
    rw [hk] at hc
    repeat' (first
 |refine AW_seq_k fun K hK=>?_|refine Step.by1 ?_|refine SBlock_exit_ne (by decide) ?_|refine cz rfl ?_|refine Fork.by2 (fun h=>?_) fun h=>?_
 |((first|refine AW_region_AO ?_|refine AS_call1 (f:=182) rfl rfl (hc) rfl rfl rfl ?_);simp [hn, hk, hk'])
 |(refine Split.by2 (fun h=>?_) (fun h=>?_)<;>(simp [h, hn, hk, hk']))
 |(apply hK;clear hK K)|refine AWh (by assumption) ?_)
    exact retg1 ⟨by simp [hk], rfl⟩ rfl (Go.Proofs.YtgmlimipejcpgaaGreatDoor.Leaves.symx (Nat.le_refl _) hH)
  · have hk' : ¬ (r.length : Int) = n.clocks.length := by omega
    repeat' (first
 |refine AW_seq_k fun K hK=>?_|refine Step.by1 ?_|refine SBlock_exit_ne (by decide) ?_|refine cz rfl ?_|refine Fork.by2 (fun h=>?_) fun h=>?_
 |((first|refine AW_region_AO ?_|refine AS_call1 (f:=182) rfl rfl (hc) rfl rfl rfl ?_);simp [hn, hk, hk'])
 |(refine Split.by2 (fun h=>?_) (fun h=>?_)<;>(simp [h, hn, hk, hk']))
 |(apply hK;clear hK K)|refine AWh (by assumption) ?_)
    exact retg1 ⟨by simp [hk], rfl⟩ rfl (Go.Proofs.YtgmlimipejcpgaaGreatDoor.Leaves.symx (Nat.le_refl _) hH)
def locsOk (N : Nat) (a : AutoD) (Q : List (List Int)) : Bool := eqF (fun _ r => rowOk N r) a.locs Q
set_option maxHeartbeats 8000000 in
theorem g_eqAutos {h : List B} (hl : HL h) {b : Nat} {cs : List V} (hb : h[b]? = some (.var cs)) (f : Nat) (p : AutoD → List (List Int) → Bool) (l : List AutoD) (m : List (List (List Int)))
    (hf : ∀ (H : List B), HL H → H[b]? = some (.var cs) → ∀ a ∈ l, ∀ r ∈ m, GCall Tryz.prog GV f [.agg a.cells, .vec (rows2V r) r.length, .ptr b 0] H (fun v h' => v = .bool (p a r) ∧ h' = H)) (hll : l.length ≤ 1048576) :
    GCall Tryz.prog GV 178 [vl AutoD.cells l, .vec (rows3V m) m.length, .fn (.func f) [] [.ptr b 0]] h (fun v h' => v = .bool (eqF p l m) ∧ h' = h) := by
  have hrl : (rows3V m).length = m.length := by simp
  have hbl := (List.getElem?_eq_some_iff.1 hb).1
  have g0 := fun x : List B => ga0 (h := h) (x := x) rfl
  by_cases hlen : l.length = m.length
  · have hlen' : (l.length : Int) = m.length := by omega
    refine GCall_body Tryz.func178 rfl (by decide) Tryz.ntmps178 (by simp) Tryz.results178 ?_
    repeat' (first
 |refine AW_seq_k fun K hK=>?_|refine Step.by1 ?_|refine SBlock_exit_ne (by decide) ?_|refine cz rfl ?_|refine Fork.by2 (fun h=>?_) fun h=>?_
 |(refine AW_region_AO ?_;simp [vl, hlen, hlen'])
 |(refine Split.by2 (fun h=>?_) (fun h=>?_)<;>(simp [h, vl, hlen, hlen']))
 |(apply hK;clear hK K)|refine AWh (by assumption) ?_)
    refine AW_loopL [1, 2, 15, 16] (fun i : Nat => [(17, .int .i64 i)]) (fun _ => h) (fun i => i ≤ l.length ∧ eqF p (l.drop i) (m.drop i) = eqF p l m) (fun i => l.length - i) 0 ⟨Nat.zero_le _, rfl⟩ (Weak.sym (x := []) (by simp) hl (by simp [hbl, hlen])) (fun _ _ => rfl) ?_
    rintro i ⟨hi, hk⟩
    by_cases hlt : i < l.length
    · obtain ⟨a, haa⟩ : ∃ a, l[i] = a := ⟨_, rfl⟩
      have hlm : i < m.length := by omega
      obtain ⟨r, hrr⟩ : ∃ r, m[i] = r := ⟨_, rfl⟩
      rw [List.drop_eq_getElem_cons hlt, List.drop_eq_getElem_cons hlm, haa, hrr, eqF] at hk
      have hlt' : (i : Int) < l.length := by omega
      have hlm' : (i : Int) < m.length := by omega
      have w1 : IntKind.i64.wrap ((i : Int) + 1) = i + 1 := wrap_i64 (by omega) (by omega)
      have c2 := rows3V_get (P := m) (i := i) (by rw [List.getElem?_eq_getElem hlm, hrr])
      have c3 : (rows3V m)[i]'(by omega) = [.vec (rows2V r) r.length] := by rw [List.getElem?_eq_getElem (by omega)] at c2; exact Option.some.inj c2
      have hH : HL (h ++ [B.var a.cells]) := hl.push (by simp [AutoD.cells, vl])
      have hc := hf (h ++ [B.var a.cells]) hH (by rw [List.getElem?_append_left hbl]; exact hb) a (haa ▸ List.getElem_mem hlt) r (hrr ▸ List.getElem_mem hlm)
      simp only [AutoD.cells, vl] at hc
      generalize p a r = q at *
      cases q
      · rw [Bool.false_and] at hk
        repeat' (first
 |refine AW_seq_k fun K hK=>?_|refine Step.by1 ?_|refine SBlock_exit_ne (by decide) ?_|refine cz rfl ?_|refine Fork.by2 (fun h=>?_) fun h=>?_
 |(refine AW_region_AO ?_;simp [vl, AutoD.cells, hlt, hlt', hlm, hlm', haa, c2, c3, w1, hrl, g0, hlen])
 |(refine Split.by2 (fun h=>?_) (fun h=>?_)<;>(simp [h, vl, AutoD.cells, hlt, hlt', hlm, hlm', haa, c2, c3, w1, hrl, g0, hlen]))
 |(refine AS_callG (f := f) rfl rfl hc rfl (fun v h' hq => ?_); obtain ⟨rfl, rfl⟩ := hq; simp [g0])
 |(apply hK;clear hK K)|refine AWh (by assumption) ?_)
        exact retg1 ⟨by rw [← hk]; rfl, rfl⟩ rfl (Go.Proofs.YtgmlimipejcpgaaGreatDoor.Leaves.symx (Nat.le_refl _) hl)
      · rw [Bool.true_and] at hk
        repeat' (first
 |refine AW_seq_k fun K hK=>?_|refine Step.by1 ?_|refine SBlock_exit_ne (by decide) ?_|refine cz rfl ?_|refine Fork.by2 (fun h=>?_) fun h=>?_
 |(refine AW_region_AO ?_;simp [vl, AutoD.cells, hlt, hlt', hlm, hlm', haa, c2, c3, w1, hrl, g0, hlen])
 |(refine Split.by2 (fun h=>?_) (fun h=>?_)<;>(simp [h, vl, AutoD.cells, hlt, hlt', hlm, hlm', haa, c2, c3, w1, hrl, g0, hlen]))
 |(refine AS_callG (f := f) rfl rfl hc rfl (fun v h' hq => ?_); obtain ⟨rfl, rfl⟩ := hq; simp [g0])
 |(apply hK;clear hK K)|refine AWh (by assumption) ?_)
        exact ⟨i + 1, ⟨by omega, hk⟩, by omega, Weak.sym (x := [B.var a.cells]) (by simp [AutoD.cells, vl]) hl (by simp [hbl, hlen])⟩
    · obtain rfl : i = l.length := by omega
      rw [List.drop_length, hlen, List.drop_length, eqF] at hk
      repeat' (first
 |refine AW_seq_k fun K hK=>?_|refine Step.by1 ?_|refine SBlock_exit_ne (by decide) ?_|refine cz rfl ?_|refine Fork.by2 (fun h=>?_) fun h=>?_
 |(refine AW_region_AO ?_;simp [vl, hlen])
 |(refine Split.by2 (fun h=>?_) (fun h=>?_)<;>(simp [h, vl, hlen]))
 |(apply hK;clear hK K)|refine AWh (by assumption) ?_)
      exact retg1 ⟨by rw [← hk]; rfl, rfl⟩ rfl (Go.AM.Leaves.sym (Nat.le_refl _) hl)
  · have hlen' : ¬ (l.length : Int) = m.length := by omega
    rw [eqF_ne hlen]
    refine GCall_body Tryz.func178 rfl (by decide) Tryz.ntmps178 (by simp) Tryz.results178 ?_
    repeat' (first
 |refine AW_seq_k fun K hK=>?_|refine Step.by1 ?_|refine SBlock_exit_ne (by decide) ?_|refine cz rfl ?_|refine Fork.by2 (fun h=>?_) fun h=>?_
 |(refine AW_region_AO ?_;simp [vl, hlen, hlen'])
 |(refine Split.by2 (fun h=>?_) (fun h=>?_)<;>(simp [h, vl, hlen, hlen']))
 |(apply hK;clear hK K)|refine AWh (by assumption) ?_)
    exact retg1 ⟨rfl, rfl⟩ rfl (Go.AM.Leaves.sym (Nat.le_refl _) hl)
set_option maxHeartbeats 8000000 in
theorem g_halfRight {H : List B} (hH : HL H) (n : NetD) {b : Nat} (hb : H[b]? = some (.var n.cells)) (a : AutoD) (hal : a.locs.length ≤ 1048576) (Q : List (List Int)) (hQ : ∀ r ∈ Q, r.length ≤ 1048576) :
    GCall Tryz.prog GV 179 [.agg a.cells, .vec (rows2V Q) Q.length, .ptr b 0] H (fun v h' => v = .bool (locsOk n.clocks.length a Q) ∧ h' = H) := by
  have hbl := (List.getElem?_eq_some_iff.1 hb).1
  have hn : (H ++ [B.var a.cells])[b]? = some (.var n.cells) := by rw [List.getElem?_append_left hbl]; exact hb
  have hH2 : HL (H ++ [B.var a.cells]) := hH.push (by simp [AutoD.cells, vl])
  have hc := g_eqLocs hH2 hn 181 (fun _ r => rowOk n.clocks.length r) a.locs Q (fun H' hl' hb' x _ r hr => g_rowRight hl' n hb' x r (hQ r hr)) hal
  have g0 := fun x : List B => ga0 (h := H) (x := x) rfl
  unfold locsOk
  generalize eqF (fun _ r => rowOk n.clocks.length r) a.locs Q = q at *
  generalize rows2V Q = R at *
  simp only [AutoD.cells, vl] at hc ⊢
  refine GCall_body Tryz.func179 rfl (by decide) Tryz.ntmps179 (by simp) Tryz.results179 ?_
  repeat' (first
 |refine AW_seq_k fun K hK=>?_|refine Step.by1 ?_|refine SBlock_exit_ne (by decide) ?_|refine cz rfl ?_|refine Fork.by2 (fun h=>?_) fun h=>?_
 |(refine AW_region_AO ?_;simp [g0, hbl])
 |(refine Split.by2 (fun h=>?_) (fun h=>?_)<;>(simp [h, g0, hbl]))
 |(refine AS_callG (f := 180) rfl rfl hc rfl (fun v h' hq => ?_); obtain ⟨rfl, rfl⟩ := hq; simp)
 |(apply hK;clear hK K)|refine AWh (by assumption) ?_)
  exact retg1 ⟨rfl, rfl⟩ rfl (Go.Proofs.YtgmlimipejcpgaaGreatDoor.Leaves.symx (Nat.le_refl _) hH)
def halfOk (n : NetD) (P : List (List (List Int))) : Bool := eqF (fun a Q => locsOk n.clocks.length a Q) n.autos P
/-- A plan as it is read. -/
def planOk (P : List (List (List Int))) : Prop := P.length ≤ 1048576 ∧ ∀ Q ∈ P, Q.length ≤ 1048576 ∧ ∀ r ∈ Q, r.length ≤ 1048576
set_option maxHeartbeats 8000000 in
theorem c_luright (n : NetD) (hn : n.ok) (P : List (List (List Int))) (hP : planOk P) : PC 121 [.agg n.cells, halfV P] (.bool (halfOk n P)) := by
  have hH : HL [B.var n.cells] := by simp [HL, NetD.cells, vl]
  have hal := hn.2.2.2.1
  have hc := g_eqAutos (h := [B.var n.cells]) hH (b := 0) rfl 179 (fun a Q => locsOk n.clocks.length a Q) n.autos P (fun H' hl' hb' a ha Q hQ => g_halfRight hl' n hb' a (by have := (hn.2.2.2.2 a ha).2.1.1; omega) Q (hP.2 Q hQ).2) (by omega)
  unfold halfOk halfV
  generalize eqF (fun a Q => locsOk n.clocks.length a Q) n.autos P = q at *
  generalize rows3V P = R at *
  simp only [NetD.cells, vl] at hc ⊢
  refine PCall_body Tryz.func121 rfl (by decide) Tryz.ntmps121 (by simp) Tryz.results121 ?_
  repeat' (first
 |refine AW_seq_k fun K hK=>?_|refine Step.by1 ?_|refine SBlock_exit_ne (by decide) ?_|refine cz rfl ?_|refine Fork.by2 (fun h=>?_) fun h=>?_
 |(refine AW_region_AO ?_;simp)
 |(refine Split.by2 (fun h=>?_) (fun h=>?_)<;>(simp [h]))
 |(refine AS_callG (f := 178) rfl rfl hc rfl (fun v h' hq => ?_); obtain ⟨rfl, rfl⟩ := hq; simp)
 |(apply hK;clear hK K)|refine AWh (by assumption) ?_)
  exact retq1 (conv_eq rfl rfl)
theorem c_netRight (n : NetD) (hn : n.ok) : PC 120 [.agg n.cells] (.bool (decide (wholeE n = 0))) := by
  have hc := c_Whole n hn
  generalize wholeE n = e at *
  simp only [NetD.cells, vl] at hc
  refine PCall_body Tryz.func120 rfl (by decide) Tryz.ntmps120 (by simp) Tryz.results120 ?_
  repeat' (first
 |refine AW_seq_k fun K hK=>?_|refine Step.by1 ?_|refine SBlock_exit_ne (by decide) ?_|refine cz rfl ?_|refine Fork.by2 (fun h=>?_) fun h=>?_
 |((first|refine AW_region_AO ?_|refine AS_call1 (f:=58) rfl rfl (hc) rfl rfl rfl ?_);simp [NetD.cells, vl])
 |(refine Split.by2 (fun h=>?_) (fun h=>?_)<;>(simp [h, NetD.cells, vl]))
 |(apply hK;clear hK K)|refine AWh (by assumption) ?_)
  exact retq1 (conv_eq rfl rfl)
def rightPE (n : NetD) (P1 P2 : List (List (List Int))) : Bool := decide (wholeE n = 0) && halfOk n P1 && halfOk n P2
set_option maxHeartbeats 8000000 in
theorem c_luRight (n : NetD) (hn : n.ok) (P1 P2 : List (List (List Int))) (h1 : planOk P1) (h2 : planOk P2) : PC 50 [.agg n.cells, .agg [halfV P1, halfV P2]] (.bool (rightPE n P1 P2)) := by
  have hc := c_netRight n hn
  have c1 := c_luright n hn P1 h1
  have c2 := c_luright n hn P2 h2
  unfold rightPE
  generalize decide (wholeE n = 0) = b0 at *
  generalize halfOk n P1 = b1 at *
  generalize halfOk n P2 = b2 at *
  simp only [NetD.cells, vl, halfV] at hc c1 c2 ⊢
  generalize rows3V P1 = R1 at *
  generalize rows3V P2 = R2 at *
  refine PCall_body Tryz.func50 rfl (by decide) Tryz.ntmps50 (by simp) Tryz.results50 ?_
  cases b0
  · repeat' (first
 |refine AW_seq_k fun K hK=>?_|refine Step.by1 ?_|refine SBlock_exit_ne (by decide) ?_|refine cz rfl ?_|refine Fork.by2 (fun h=>?_) fun h=>?_
 |((first|refine AW_region_AO ?_|refine AS_call1 (f:=120) rfl rfl (hc) rfl rfl rfl ?_);simp)
 |(refine Split.by2 (fun h=>?_) (fun h=>?_)<;>(simp [h]))
 |(apply hK;clear hK K)|refine AWh (by assumption) ?_)
    exact retq1 (conv_eq rfl rfl)
  · cases b1
    · repeat' (first
 |refine AW_seq_k fun K hK=>?_|refine Step.by1 ?_|refine SBlock_exit_ne (by decide) ?_|refine cz rfl ?_|refine Fork.by2 (fun h=>?_) fun h=>?_
 |((first|refine AW_region_AO ?_|refine AS_call1 (f:=120) rfl rfl (hc) rfl rfl rfl ?_|refine AS_call1 (f:=121) rfl rfl (c1) rfl rfl rfl ?_);simp)
 |(refine Split.by2 (fun h=>?_) (fun h=>?_)<;>(simp [h]))
 |(apply hK;clear hK K)|refine AWh (by assumption) ?_)
      exact retq1 (conv_eq rfl rfl)
    · repeat' (first
 |refine AW_seq_k fun K hK=>?_|refine Step.by1 ?_|refine SBlock_exit_ne (by decide) ?_|refine cz rfl ?_|refine Fork.by2 (fun h=>?_) fun h=>?_
 |((first|refine AW_region_AO ?_|refine AS_call1 (f:=120) rfl rfl (hc) rfl rfl rfl ?_|refine AS_call1 (f:=121) rfl rfl (c1) rfl rfl rfl ?_|refine AS_call1 (f:=121) rfl rfl (c2) rfl rfl rfl ?_);simp)
 |(refine Split.by2 (fun h=>?_) (fun h=>?_)<;>(simp [h]))
 |(apply hK;clear hK K)|refine AWh (by assumption) ?_)
      exact retq1 (conv_eq rfl rfl)
end Go.Proofs.YtgmlimipejcpgaaGreatDoor
end
