/-
  YtbgooadmonnjaaaGreatDoorRc28: steps of the proof of a law of the program: what these texts prove holds under the hypotheses that their theorems name, and no others.
-/
import Derived.Test.YtbgooadmonnjaaaGreatDoorRc26
import Derived.Test.YtbgooadmonnjaaaGreatDoorRc27
section
set_option linter.unusedSimpArgs false
set_option linter.unusedVariables false
namespace Go.Proofs.YtbgooadmonnjaaaGreatDoor
open Go Go.AM Fx
theorem retgc1 {P : Program} {st : St} {t : Nat} {T : TypeId} {cs : List V} {off : Nat} {Q : V → List B → Prop} {h0 h' : List B} (hp : place st.h (lk st.tm t) = some (cs, off)) (ho : loadOk P T cs off) (hq : Q (loadV P T cs off) h')
    (hv : (loadV P T cs off).lt h'.length = true) (hl : Go.AM.Leaves h0 st.h h') : RetG P #[.cell t T] Q h0 .ret st :=
  ⟨.inr rfl, _, h', ⟨cs, off, hp, ho, rfl⟩, hq, hv, hl⟩
def zI (k : Nat) : List (List V) := List.replicate k [.int .i64 0]
def zR (k : Nat) : List (List V) := List.replicate k [.int .i64 0, .int .i64 0]
def H10 (p0 p1 p2 p3 : B) (c : CfgD) (A C D : List (List V)) : List B := [p0, p1, p2, p3, .var c.cells, .var [.nils, .nils, .nils], .row 3 1 0 true A, .row 3 1 0 true C, .row 38 1 0 true D, .var [.ref 6 1 0 c.st.locs.length, .ref 7 1 0 c.st.vars.length, .ref 8 1 0 c.clocks.length]]
def rowsR (c : CfgD) : List B := [.dead, .dead, .row 3 1 0 true (ivs c.st.locs), .row 3 1 0 true (ivs c.st.vars), .row 38 1 0 true (c.clocks.map RatD.cells)]
def ownV (c : CfgD) : V := .agg [.ref 6 1 0 c.st.locs.length, .ref 7 1 0 c.st.vars.length, .ref 8 1 0 c.clocks.length]
set_option maxRecDepth 40000 in
set_option maxHeartbeats 16000000 in
theorem g_own (p0 p1 p2 p3 : B) (hp : ∀ y ∈ [p0, p1, p2, p3], y.lt 4) (c : CfgD) (hc : c.ok) : GCall Tryz.prog GV 52 [.agg c.cells] [p0, p1, p2, p3] (fun v h' => v = ownV c ∧ h' = [p0, p1, p2, p3] ++ rowsR c) := by
  have ccells : c.cells = [.vec (ivs c.st.locs) c.st.locs.length, .vec (ivs c.st.vars) c.st.vars.length, .vec (c.clocks.map RatD.cells) c.clocks.length] := rfl
  have hiv : (ivs c.st.locs).length = c.st.locs.length := by simp [ivs]
  have hivv : (ivs c.st.vars).length = c.st.vars.length := by simp [ivs]
  have hcl : (c.clocks.map RatD.cells).length = c.clocks.length := by simp
  have hl1 := hc.1.1
  have hl2 := hc.1.2
  have hl3 := hc.2.1
  have by1 : (c.st.locs.length : Int) * 8 ≤ 281474976710656 := by omega
  have by2 : (c.st.vars.length : Int) * 8 ≤ 281474976710656 := by omega
  have by3 : (c.clocks.length : Int) * 16 ≤ 281474976710656 := by omega
  have hz1 : ∀ z ∈ ivs c.st.locs, z.length = 1 := by intro z hz; simp [ivs] at hz; obtain ⟨_, _, rfl⟩ := hz; rfl
  have hz2 : ∀ z ∈ ivs c.st.vars, z.length = 1 := by intro z hz; simp [ivs] at hz; obtain ⟨_, _, rfl⟩ := hz; rfl
  have hz3 : ∀ z ∈ c.clocks.map RatD.cells, z.length = 2 := by intro z hz; simp at hz; obtain ⟨_, _, rfl⟩ := hz; rfl
  have t1 : (ivs c.st.locs).take c.st.locs.length = ivs c.st.locs := List.take_of_length_le (by omega)
  have t2 : (ivs c.st.vars).take c.st.vars.length = ivs c.st.vars := List.take_of_length_le (by omega)
  have t3 : (c.clocks.map RatD.cells).take c.clocks.length = c.clocks.map RatD.cells := List.take_of_length_le (by simp)
  have g0 : p0.lt 10 := B.lt_mono (by decide) (hp p0 (by simp))
  have g1 : p1.lt 10 := B.lt_mono (by decide) (hp p1 (by simp))
  have g2 : p2.lt 10 := B.lt_mono (by decide) (hp p2 (by simp))
  have g3 : p3.lt 10 := B.lt_mono (by decide) (hp p3 (by simp))
  rw [ccells]
  refine gB1 Tryz.func52 rfl (by decide) Tryz.ntmps52 (by simp) Tryz.results52 ?_
  repeat' (first
 |refine aK fun K hK=>?_|refine Step.by1 ?_|refine sE (by decide) ?_|refine cz rfl ?_|refine Fork.by2 (fun h=>?_) fun h=>?_
 |(refine aR ?_;simp)
 |(refine Split.by2 (fun h=>?_) (fun h=>?_)<;>(simp [h]))
 |(apply hK;clear hK K)|refine AWh ‹_› ?_)
  refine AW_addrow 3 (by simp) ?_
  refine AW_addrow 3 (by simp) ?_
  refine AW_addrow 38 (by simp) ?_
  simp
  have hrest : ∀ st' : St, st'.n = 40 → st'.h = H10 p0 p1 p2 p3 c (zI c.st.locs.length) (zI c.st.vars.length) (zR c.clocks.length) → lk st'.tm 1 = .ptr 4 0 → lk st'.tm 2 = .ptr 5 0 → lk st'.tm 3 = .ptr 9 0 → K st' := by
    rintro ⟨sn, tm, H⟩ hsn hH u1 u2 u3
    refine hK _ ?_
    simp only at hsn hH u1 u2 u3
    subst hsn; subst hH
    refine AW.weak (st' := ⟨40, [(1, .ptr 4 0), (2, .ptr 5 0), (3, .ptr 9 0)], H10 p0 p1 p2 p3 c (zI c.st.locs.length) (zI c.st.vars.length) (zR c.clocks.length)⟩) ?_ rfl ?_
    · apply Weak.mk' <;> simp [H10, u1, u2, u3, ccells]
      exact ⟨.inr g0, .inr g1, .inr g2, .inr g3⟩
    clear hK u1 u2 u3
    repeat' (first
 |refine aK fun K hK=>?_|refine Step.by1 ?_|refine sE (by decide) ?_|refine cz rfl ?_|refine Fork.by2 (fun h=>?_) fun h=>?_
 |(refine aR ?_;simp [H10, ccells, hiv, hivv, hcl])
 |(refine Split.by2 (fun h=>?_) (fun h=>?_)<;>(simp [h, H10, ccells, hiv, hivv, hcl]))
 |(refine AS_op1 rfl (S_copyN (T := 61) (T2 := 61) (e := 3) (T0 := 3) (b := 6) (g := 1) (off := 0) (len := c.st.locs.length) (m := c.st.locs.length) (sz := 1) (xs := zI c.st.locs.length) (zs := (ivs c.st.locs).take c.st.locs.length) rfl (by simp) (info_sz (by simp)) (by decide) rfl rfl (by simp [zI]) (by simp) (by rw [t1]; exact hiv) (Nat.le_refl _) (srcN_vec rfl (by decide) hz1 (by simp) (by omega))) ?_; rw [t1]; simp [zI, H10, ccells])
 |(refine AS_op1 rfl (S_copyN (T := 61) (T2 := 61) (e := 3) (T0 := 3) (b := 7) (g := 1) (off := 0) (len := c.st.vars.length) (m := c.st.vars.length) (sz := 1) (xs := zI c.st.vars.length) (zs := (ivs c.st.vars).take c.st.vars.length) rfl (by simp) (info_sz (by simp)) (by decide) rfl rfl (by simp [zI]) (by simp) (by rw [t2]; exact hivv) (Nat.le_refl _) (srcN_vec rfl (by decide) hz2 (by simp) (by omega))) ?_; rw [t2]; simp [zI, H10, ccells])
 |(refine AS_op1 rfl (S_copyN (T := 33) (T2 := 33) (e := 38) (T0 := 38) (b := 8) (g := 1) (off := 0) (len := c.clocks.length) (m := c.clocks.length) (sz := 2) (xs := zR c.clocks.length) (zs := (c.clocks.map RatD.cells).take c.clocks.length) rfl (by simp) (info_szN (by decide) (by simp)) (by decide) rfl rfl (by simp [zR]) (by simp) (by rw [t3]; exact hcl) (Nat.le_refl _) (srcN_vec rfl (by decide) hz3 (by simp) (by simp))) ?_; rw [t3]; simp [zR, H10, ccells])
 |(apply hK;clear hK K)|refine AWh ‹_› ?_)
    refine retgc1 (h' := [p0, p1, p2, p3] ++ rowsR c) rfl (by simp) ⟨by simp [ownV], rfl⟩ (by simp [rowsR]) ⟨by simp [rowsR], by simp [rowsR], fun b x hx => ?_⟩
    rcases b with _ | _ | _ | _ | _ | _ | _ | _ | _ | b
    all_goals (try (simp [rowsR] at hx; done))
    all_goals (simp [rowsR] at hx; subst hx; try simp)
  refine AW_region_chain 18 19 [0, 1, 2, 3, 5, 6, 7, 8, 11, 12, 13] (fun H => H[4]? = some (.var [.vec (ivs c.st.locs) c.st.locs.length, .vec (ivs c.st.vars) c.st.vars.length, .vec (c.clocks.map RatD.cells) c.clocks.length])) mixed (by decide) (by decide) rfl rfl ?_
  simp only [List.take_succ_cons, List.take_zero]
  refine PX_op (v := .ptr 4 0) rfl rfl rfl rfl (fun H hs => by simp [hs]) ?_
  refine PX_op (v := .ptr 4 0) rfl rfl rfl rfl (fun H hs => by simp [hs]) ?_
  refine PX_op (v := .vec (ivs c.st.locs) c.st.locs.length) rfl rfl rfl rfl (fun H hs => by simp [hs]) ?_
  refine PX_op (v := .int .i64 c.st.locs.length) rfl rfl rfl rfl (fun H hs => by simp [hs]) ?_
  refine PX_skip rfl ?_
  refine PX_op (v := .ptr 4 0) rfl rfl rfl rfl (fun H hs => by simp [hs]) ?_
  refine PX_op (v := .ptr 4 1) rfl rfl rfl rfl (fun H hs => by simp [hs]) ?_
  refine PX_op (v := .vec (ivs c.st.vars) c.st.vars.length) rfl rfl rfl rfl (fun H hs => by simp [hs]) ?_
  refine PX_op (v := .int .i64 c.st.vars.length) rfl rfl rfl rfl (fun H hs => by simp [hs]) ?_
  refine PX_skip rfl ?_
  refine PX_skip rfl ?_
  refine PX_op (v := .ptr 4 2) rfl rfl rfl rfl (fun H hs => by simp [hs]) ?_
  refine PX_op (v := .vec (c.clocks.map RatD.cells) c.clocks.length) rfl rfl rfl rfl (fun H hs => by simp [hs]) ?_
  refine PX_op (v := .int .i64 c.clocks.length) rfl rfl rfl rfl (fun H hs => by simp [hs]) ?_
  refine PX_skip rfl ?_
  refine PX_skip rfl ?_
  refine PX_skip rfl ?_
  refine PX_skip rfl ?_
  refine PX_nil ?_
  simp
  refine Ch_4 4 9 14 16 (by decide) (by decide) ?_ ?_ ?_ ?_
  · refine ChS_slotM 6 rfl rfl (by simp [ccells, hiv, hivv, hcl, by1, by2, by3]) rfl rfl (by simp [ccells]) ?_; simp [ccells, hiv, hivv, hcl]
    refine Ch_3 9 14 16 (by decide) (by decide) ?_ ?_ ?_
    · refine ChS_slotM 7 rfl rfl (by simp [ccells, hiv, hivv, hcl, by1, by2, by3]) rfl rfl (by simp [ccells]) ?_; simp [ccells, hiv, hivv, hcl]
      refine Ch_3 10 14 16 (by decide) (by decide) ?_ ?_ ?_
      · refine cS1 rfl rfl rfl rfl (by simp) (by simp [ccells]) ?_; simp [ccells, hiv, hivv, hcl]
        refine Ch_2 14 16 (by decide) (by decide) ?_ ?_
        · refine ChS_slotM 8 rfl rfl (by simp [ccells, hiv, hivv, hcl, by1, by2, by3]) rfl rfl (by simp [ccells]) ?_; simp [ccells, hiv, hivv, hcl]
          refine Ch_2 15 16 (by decide) (by decide) ?_ ?_
          · refine cS1 rfl rfl rfl rfl (by simp) (by simp [ccells]) ?_; simp [ccells, hiv, hivv, hcl]
            refine Ch_1 16 (by decide) (by decide) ?_
            refine ChS_op rfl rfl rfl rfl (by simp) rfl (by simp [ccells]) ?_; simp [ccells, hiv, hivv, hcl]
            refine Ch_1 17 (by decide) (by decide) ?_
            refine ChS_op rfl rfl rfl rfl (by simp) rfl (by simp [ccells]) ?_; simp [ccells, hiv, hivv, hcl]
            refine Ch_end (by decide) ?_
            refine AS_of_AO ?_; simp; exact hrest _ rfl (by simp [H10, ccells, zI, zR]) rfl rfl rfl
          · refine ChS_op rfl rfl rfl rfl (by simp) rfl (by simp [ccells]) ?_; simp [ccells, hiv, hivv, hcl]
            refine Ch_1 15 (by decide) (by decide) ?_
            refine cS1 rfl rfl rfl rfl (by simp) (by simp [ccells]) ?_; simp [ccells, hiv, hivv, hcl]
            refine Ch_1 17 (by decide) (by decide) ?_
            refine ChS_op rfl rfl rfl rfl (by simp) rfl (by simp [ccells]) ?_; simp [ccells, hiv, hivv, hcl]
            refine Ch_end (by decide) ?_
            refine AS_of_AO ?_; simp; exact hrest _ rfl (by simp [H10, ccells, zI, zR]) rfl rfl rfl
        · refine ChS_op rfl rfl rfl rfl (by simp) rfl (by simp [ccells]) ?_; simp [ccells, hiv, hivv, hcl]
          refine Ch_1 14 (by decide) (by decide) ?_
          refine ChS_slotM 8 rfl rfl (by simp [ccells, hiv, hivv, hcl, by1, by2, by3]) rfl rfl (by simp [ccells]) ?_; simp [ccells, hiv, hivv, hcl]
          refine Ch_1 15 (by decide) (by decide) ?_
          refine cS1 rfl rfl rfl rfl (by simp) (by simp [ccells]) ?_; simp [ccells, hiv, hivv, hcl]
          refine Ch_1 17 (by decide) (by decide) ?_
          refine ChS_op rfl rfl rfl rfl (by simp) rfl (by simp [ccells]) ?_; simp [ccells, hiv, hivv, hcl]
          refine Ch_end (by decide) ?_
          refine AS_of_AO ?_; simp; exact hrest _ rfl (by simp [H10, ccells, zI, zR]) rfl rfl rfl
      · refine ChS_slotM 8 rfl rfl (by simp [ccells, hiv, hivv, hcl, by1, by2, by3]) rfl rfl (by simp [ccells]) ?_; simp [ccells, hiv, hivv, hcl]
        refine Ch_2 10 16 (by decide) (by decide) ?_ ?_
        · refine cS1 rfl rfl rfl rfl (by simp) (by simp [ccells]) ?_; simp [ccells, hiv, hivv, hcl]
          refine Ch_2 15 16 (by decide) (by decide) ?_ ?_
          · refine cS1 rfl rfl rfl rfl (by simp) (by simp [ccells]) ?_; simp [ccells, hiv, hivv, hcl]
            refine Ch_1 16 (by decide) (by decide) ?_
            refine ChS_op rfl rfl rfl rfl (by simp) rfl (by simp [ccells]) ?_; simp [ccells, hiv, hivv, hcl]
            refine Ch_1 17 (by decide) (by decide) ?_
            refine ChS_op rfl rfl rfl rfl (by simp) rfl (by simp [ccells]) ?_; simp [ccells, hiv, hivv, hcl]
            refine Ch_end (by decide) ?_
            refine AS_of_AO ?_; simp; exact hrest _ rfl (by simp [H10, ccells, zI, zR]) rfl rfl rfl
          · refine ChS_op rfl rfl rfl rfl (by simp) rfl (by simp [ccells]) ?_; simp [ccells, hiv, hivv, hcl]
            refine Ch_1 15 (by decide) (by decide) ?_
            refine cS1 rfl rfl rfl rfl (by simp) (by simp [ccells]) ?_; simp [ccells, hiv, hivv, hcl]
            refine Ch_1 17 (by decide) (by decide) ?_
            refine ChS_op rfl rfl rfl rfl (by simp) rfl (by simp [ccells]) ?_; simp [ccells, hiv, hivv, hcl]
            refine Ch_end (by decide) ?_
            refine AS_of_AO ?_; simp; exact hrest _ rfl (by simp [H10, ccells, zI, zR]) rfl rfl rfl
        · refine ChS_op rfl rfl rfl rfl (by simp) rfl (by simp [ccells]) ?_; simp [ccells, hiv, hivv, hcl]
          refine Ch_1 10 (by decide) (by decide) ?_
          refine cS1 rfl rfl rfl rfl (by simp) (by simp [ccells]) ?_; simp [ccells, hiv, hivv, hcl]
          refine Ch_1 15 (by decide) (by decide) ?_
          refine cS1 rfl rfl rfl rfl (by simp) (by simp [ccells]) ?_; simp [ccells, hiv, hivv, hcl]
          refine Ch_1 17 (by decide) (by decide) ?_
          refine ChS_op rfl rfl rfl rfl (by simp) rfl (by simp [ccells]) ?_; simp [ccells, hiv, hivv, hcl]
          refine Ch_end (by decide) ?_
          refine AS_of_AO ?_; simp; exact hrest _ rfl (by simp [H10, ccells, zI, zR]) rfl rfl rfl
      · refine ChS_op rfl rfl rfl rfl (by simp) rfl (by simp [ccells]) ?_; simp [ccells, hiv, hivv, hcl]
        refine Ch_2 10 14 (by decide) (by decide) ?_ ?_
        · refine cS1 rfl rfl rfl rfl (by simp) (by simp [ccells]) ?_; simp [ccells, hiv, hivv, hcl]
          refine Ch_1 14 (by decide) (by decide) ?_
          refine ChS_slotM 8 rfl rfl (by simp [ccells, hiv, hivv, hcl, by1, by2, by3]) rfl rfl (by simp [ccells]) ?_; simp [ccells, hiv, hivv, hcl]
          refine Ch_1 15 (by decide) (by decide) ?_
          refine cS1 rfl rfl rfl rfl (by simp) (by simp [ccells]) ?_; simp [ccells, hiv, hivv, hcl]
          refine Ch_1 17 (by decide) (by decide) ?_
          refine ChS_op rfl rfl rfl rfl (by simp) rfl (by simp [ccells]) ?_; simp [ccells, hiv, hivv, hcl]
          refine Ch_end (by decide) ?_
          refine AS_of_AO ?_; simp; exact hrest _ rfl (by simp [H10, ccells, zI, zR]) rfl rfl rfl
        · refine ChS_slotM 8 rfl rfl (by simp [ccells, hiv, hivv, hcl, by1, by2, by3]) rfl rfl (by simp [ccells]) ?_; simp [ccells, hiv, hivv, hcl]
          refine Ch_1 10 (by decide) (by decide) ?_
          refine cS1 rfl rfl rfl rfl (by simp) (by simp [ccells]) ?_; simp [ccells, hiv, hivv, hcl]
          refine Ch_1 15 (by decide) (by decide) ?_
          refine cS1 rfl rfl rfl rfl (by simp) (by simp [ccells]) ?_; simp [ccells, hiv, hivv, hcl]
          refine Ch_1 17 (by decide) (by decide) ?_
          refine ChS_op rfl rfl rfl rfl (by simp) rfl (by simp [ccells]) ?_; simp [ccells, hiv, hivv, hcl]
          refine Ch_end (by decide) ?_
          refine AS_of_AO ?_; simp; exact hrest _ rfl (by simp [H10, ccells, zI, zR]) rfl rfl rfl
    · refine ChS_slotM 8 rfl rfl (by simp [ccells, hiv, hivv, hcl, by1, by2, by3]) rfl rfl (by simp [ccells]) ?_; simp [ccells, hiv, hivv, hcl]
      refine Ch_2 9 16 (by decide) (by decide) ?_ ?_
      · refine ChS_slotM 7 rfl rfl (by simp [ccells, hiv, hivv, hcl, by1, by2, by3]) rfl rfl (by simp [ccells]) ?_; simp [ccells, hiv, hivv, hcl]
        refine Ch_2 10 16 (by decide) (by decide) ?_ ?_
        · refine cS1 rfl rfl rfl rfl (by simp) (by simp [ccells]) ?_; simp [ccells, hiv, hivv, hcl]
          refine Ch_2 15 16 (by decide) (by decide) ?_ ?_
          · refine cS1 rfl rfl rfl rfl (by simp) (by simp [ccells]) ?_; simp [ccells, hiv, hivv, hcl]
            refine Ch_1 16 (by decide) (by decide) ?_
            refine ChS_op rfl rfl rfl rfl (by simp) rfl (by simp [ccells]) ?_; simp [ccells, hiv, hivv, hcl]
            refine Ch_1 17 (by decide) (by decide) ?_
            refine ChS_op rfl rfl rfl rfl (by simp) rfl (by simp [ccells]) ?_; simp [ccells, hiv, hivv, hcl]
            refine Ch_end (by decide) ?_
            refine AS_of_AO ?_; simp; exact hrest _ rfl (by simp [H10, ccells, zI, zR]) rfl rfl rfl
          · refine ChS_op rfl rfl rfl rfl (by simp) rfl (by simp [ccells]) ?_; simp [ccells, hiv, hivv, hcl]
            refine Ch_1 15 (by decide) (by decide) ?_
            refine cS1 rfl rfl rfl rfl (by simp) (by simp [ccells]) ?_; simp [ccells, hiv, hivv, hcl]
            refine Ch_1 17 (by decide) (by decide) ?_
            refine ChS_op rfl rfl rfl rfl (by simp) rfl (by simp [ccells]) ?_; simp [ccells, hiv, hivv, hcl]
            refine Ch_end (by decide) ?_
            refine AS_of_AO ?_; simp; exact hrest _ rfl (by simp [H10, ccells, zI, zR]) rfl rfl rfl
        · refine ChS_op rfl rfl rfl rfl (by simp) rfl (by simp [ccells]) ?_; simp [ccells, hiv, hivv, hcl]
          refine Ch_1 10 (by decide) (by decide) ?_
          refine cS1 rfl rfl rfl rfl (by simp) (by simp [ccells]) ?_; simp [ccells, hiv, hivv, hcl]
          refine Ch_1 15 (by decide) (by decide) ?_
          refine cS1 rfl rfl rfl rfl (by simp) (by simp [ccells]) ?_; simp [ccells, hiv, hivv, hcl]
          refine Ch_1 17 (by decide) (by decide) ?_
          refine ChS_op rfl rfl rfl rfl (by simp) rfl (by simp [ccells]) ?_; simp [ccells, hiv, hivv, hcl]
          refine Ch_end (by decide) ?_
          refine AS_of_AO ?_; simp; exact hrest _ rfl (by simp [H10, ccells, zI, zR]) rfl rfl rfl
      · refine ChS_op rfl rfl rfl rfl (by simp) rfl (by simp [ccells]) ?_; simp [ccells, hiv, hivv, hcl]
        refine Ch_1 9 (by decide) (by decide) ?_
        refine ChS_slotM 7 rfl rfl (by simp [ccells, hiv, hivv, hcl, by1, by2, by3]) rfl rfl (by simp [ccells]) ?_; simp [ccells, hiv, hivv, hcl]
        refine Ch_1 10 (by decide) (by decide) ?_
        refine cS1 rfl rfl rfl rfl (by simp) (by simp [ccells]) ?_; simp [ccells, hiv, hivv, hcl]
        refine Ch_1 15 (by decide) (by decide) ?_
        refine cS1 rfl rfl rfl rfl (by simp) (by simp [ccells]) ?_; simp [ccells, hiv, hivv, hcl]
        refine Ch_1 17 (by decide) (by decide) ?_
        refine ChS_op rfl rfl rfl rfl (by simp) rfl (by simp [ccells]) ?_; simp [ccells, hiv, hivv, hcl]
        refine Ch_end (by decide) ?_
        refine AS_of_AO ?_; simp; exact hrest _ rfl (by simp [H10, ccells, zI, zR]) rfl rfl rfl
    · refine ChS_op rfl rfl rfl rfl (by simp) rfl (by simp [ccells]) ?_; simp [ccells, hiv, hivv, hcl]
      refine Ch_2 9 14 (by decide) (by decide) ?_ ?_
      · refine ChS_slotM 7 rfl rfl (by simp [ccells, hiv, hivv, hcl, by1, by2, by3]) rfl rfl (by simp [ccells]) ?_; simp [ccells, hiv, hivv, hcl]
        refine Ch_2 10 14 (by decide) (by decide) ?_ ?_
        · refine cS1 rfl rfl rfl rfl (by simp) (by simp [ccells]) ?_; simp [ccells, hiv, hivv, hcl]
          refine Ch_1 14 (by decide) (by decide) ?_
          refine ChS_slotM 8 rfl rfl (by simp [ccells, hiv, hivv, hcl, by1, by2, by3]) rfl rfl (by simp [ccells]) ?_; simp [ccells, hiv, hivv, hcl]
          refine Ch_1 15 (by decide) (by decide) ?_
          refine cS1 rfl rfl rfl rfl (by simp) (by simp [ccells]) ?_; simp [ccells, hiv, hivv, hcl]
          refine Ch_1 17 (by decide) (by decide) ?_
          refine ChS_op rfl rfl rfl rfl (by simp) rfl (by simp [ccells]) ?_; simp [ccells, hiv, hivv, hcl]
          refine Ch_end (by decide) ?_
          refine AS_of_AO ?_; simp; exact hrest _ rfl (by simp [H10, ccells, zI, zR]) rfl rfl rfl
        · refine ChS_slotM 8 rfl rfl (by simp [ccells, hiv, hivv, hcl, by1, by2, by3]) rfl rfl (by simp [ccells]) ?_; simp [ccells, hiv, hivv, hcl]
          refine Ch_1 10 (by decide) (by decide) ?_
          refine cS1 rfl rfl rfl rfl (by simp) (by simp [ccells]) ?_; simp [ccells, hiv, hivv, hcl]
          refine Ch_1 15 (by decide) (by decide) ?_
          refine cS1 rfl rfl rfl rfl (by simp) (by simp [ccells]) ?_; simp [ccells, hiv, hivv, hcl]
          refine Ch_1 17 (by decide) (by decide) ?_
          refine ChS_op rfl rfl rfl rfl (by simp) rfl (by simp [ccells]) ?_; simp [ccells, hiv, hivv, hcl]
          refine Ch_end (by decide) ?_
          refine AS_of_AO ?_; simp; exact hrest _ rfl (by simp [H10, ccells, zI, zR]) rfl rfl rfl
      · refine ChS_slotM 8 rfl rfl (by simp [ccells, hiv, hivv, hcl, by1, by2, by3]) rfl rfl (by simp [ccells]) ?_; simp [ccells, hiv, hivv, hcl]
        refine Ch_1 9 (by decide) (by decide) ?_
        refine ChS_slotM 7 rfl rfl (by simp [ccells, hiv, hivv, hcl, by1, by2, by3]) rfl rfl (by simp [ccells]) ?_; simp [ccells, hiv, hivv, hcl]
        refine Ch_1 10 (by decide) (by decide) ?_
        refine cS1 rfl rfl rfl rfl (by simp) (by simp [ccells]) ?_; simp [ccells, hiv, hivv, hcl]
        refine Ch_1 15 (by decide) (by decide) ?_
        refine cS1 rfl rfl rfl rfl (by simp) (by simp [ccells]) ?_; simp [ccells, hiv, hivv, hcl]
        refine Ch_1 17 (by decide) (by decide) ?_
        refine ChS_op rfl rfl rfl rfl (by simp) rfl (by simp [ccells]) ?_; simp [ccells, hiv, hivv, hcl]
        refine Ch_end (by decide) ?_
        refine AS_of_AO ?_; simp; exact hrest _ rfl (by simp [H10, ccells, zI, zR]) rfl rfl rfl
  · refine ChS_slotM 7 rfl rfl (by simp [ccells, hiv, hivv, hcl, by1, by2, by3]) rfl rfl (by simp [ccells]) ?_; simp [ccells, hiv, hivv, hcl]
    refine Ch_3 4 14 16 (by decide) (by decide) ?_ ?_ ?_
    · refine ChS_slotM 6 rfl rfl (by simp [ccells, hiv, hivv, hcl, by1, by2, by3]) rfl rfl (by simp [ccells]) ?_; simp [ccells, hiv, hivv, hcl]
      refine Ch_3 10 14 16 (by decide) (by decide) ?_ ?_ ?_
      · refine cS1 rfl rfl rfl rfl (by simp) (by simp [ccells]) ?_; simp [ccells, hiv, hivv, hcl]
        refine Ch_2 14 16 (by decide) (by decide) ?_ ?_
        · refine ChS_slotM 8 rfl rfl (by simp [ccells, hiv, hivv, hcl, by1, by2, by3]) rfl rfl (by simp [ccells]) ?_; simp [ccells, hiv, hivv, hcl]
          refine Ch_2 15 16 (by decide) (by decide) ?_ ?_
          · refine cS1 rfl rfl rfl rfl (by simp) (by simp [ccells]) ?_; simp [ccells, hiv, hivv, hcl]
            refine Ch_1 16 (by decide) (by decide) ?_
            refine ChS_op rfl rfl rfl rfl (by simp) rfl (by simp [ccells]) ?_; simp [ccells, hiv, hivv, hcl]
            refine Ch_1 17 (by decide) (by decide) ?_
            refine ChS_op rfl rfl rfl rfl (by simp) rfl (by simp [ccells]) ?_; simp [ccells, hiv, hivv, hcl]
            refine Ch_end (by decide) ?_
            refine AS_of_AO ?_; simp; exact hrest _ rfl (by simp [H10, ccells, zI, zR]) rfl rfl rfl
          · refine ChS_op rfl rfl rfl rfl (by simp) rfl (by simp [ccells]) ?_; simp [ccells, hiv, hivv, hcl]
            refine Ch_1 15 (by decide) (by decide) ?_
            refine cS1 rfl rfl rfl rfl (by simp) (by simp [ccells]) ?_; simp [ccells, hiv, hivv, hcl]
            refine Ch_1 17 (by decide) (by decide) ?_
            refine ChS_op rfl rfl rfl rfl (by simp) rfl (by simp [ccells]) ?_; simp [ccells, hiv, hivv, hcl]
            refine Ch_end (by decide) ?_
            refine AS_of_AO ?_; simp; exact hrest _ rfl (by simp [H10, ccells, zI, zR]) rfl rfl rfl
        · refine ChS_op rfl rfl rfl rfl (by simp) rfl (by simp [ccells]) ?_; simp [ccells, hiv, hivv, hcl]
          refine Ch_1 14 (by decide) (by decide) ?_
          refine ChS_slotM 8 rfl rfl (by simp [ccells, hiv, hivv, hcl, by1, by2, by3]) rfl rfl (by simp [ccells]) ?_; simp [ccells, hiv, hivv, hcl]
          refine Ch_1 15 (by decide) (by decide) ?_
          refine cS1 rfl rfl rfl rfl (by simp) (by simp [ccells]) ?_; simp [ccells, hiv, hivv, hcl]
          refine Ch_1 17 (by decide) (by decide) ?_
          refine ChS_op rfl rfl rfl rfl (by simp) rfl (by simp [ccells]) ?_; simp [ccells, hiv, hivv, hcl]
          refine Ch_end (by decide) ?_
          refine AS_of_AO ?_; simp; exact hrest _ rfl (by simp [H10, ccells, zI, zR]) rfl rfl rfl
      · refine ChS_slotM 8 rfl rfl (by simp [ccells, hiv, hivv, hcl, by1, by2, by3]) rfl rfl (by simp [ccells]) ?_; simp [ccells, hiv, hivv, hcl]
        refine Ch_2 10 16 (by decide) (by decide) ?_ ?_
        · refine cS1 rfl rfl rfl rfl (by simp) (by simp [ccells]) ?_; simp [ccells, hiv, hivv, hcl]
          refine Ch_2 15 16 (by decide) (by decide) ?_ ?_
          · refine cS1 rfl rfl rfl rfl (by simp) (by simp [ccells]) ?_; simp [ccells, hiv, hivv, hcl]
            refine Ch_1 16 (by decide) (by decide) ?_
            refine ChS_op rfl rfl rfl rfl (by simp) rfl (by simp [ccells]) ?_; simp [ccells, hiv, hivv, hcl]
            refine Ch_1 17 (by decide) (by decide) ?_
            refine ChS_op rfl rfl rfl rfl (by simp) rfl (by simp [ccells]) ?_; simp [ccells, hiv, hivv, hcl]
            refine Ch_end (by decide) ?_
            refine AS_of_AO ?_; simp; exact hrest _ rfl (by simp [H10, ccells, zI, zR]) rfl rfl rfl
          · refine ChS_op rfl rfl rfl rfl (by simp) rfl (by simp [ccells]) ?_; simp [ccells, hiv, hivv, hcl]
            refine Ch_1 15 (by decide) (by decide) ?_
            refine cS1 rfl rfl rfl rfl (by simp) (by simp [ccells]) ?_; simp [ccells, hiv, hivv, hcl]
            refine Ch_1 17 (by decide) (by decide) ?_
            refine ChS_op rfl rfl rfl rfl (by simp) rfl (by simp [ccells]) ?_; simp [ccells, hiv, hivv, hcl]
            refine Ch_end (by decide) ?_
            refine AS_of_AO ?_; simp; exact hrest _ rfl (by simp [H10, ccells, zI, zR]) rfl rfl rfl
        · refine ChS_op rfl rfl rfl rfl (by simp) rfl (by simp [ccells]) ?_; simp [ccells, hiv, hivv, hcl]
          refine Ch_1 10 (by decide) (by decide) ?_
          refine cS1 rfl rfl rfl rfl (by simp) (by simp [ccells]) ?_; simp [ccells, hiv, hivv, hcl]
          refine Ch_1 15 (by decide) (by decide) ?_
          refine cS1 rfl rfl rfl rfl (by simp) (by simp [ccells]) ?_; simp [ccells, hiv, hivv, hcl]
          refine Ch_1 17 (by decide) (by decide) ?_
          refine ChS_op rfl rfl rfl rfl (by simp) rfl (by simp [ccells]) ?_; simp [ccells, hiv, hivv, hcl]
          refine Ch_end (by decide) ?_
          refine AS_of_AO ?_; simp; exact hrest _ rfl (by simp [H10, ccells, zI, zR]) rfl rfl rfl
      · refine ChS_op rfl rfl rfl rfl (by simp) rfl (by simp [ccells]) ?_; simp [ccells, hiv, hivv, hcl]
        refine Ch_2 10 14 (by decide) (by decide) ?_ ?_
        · refine cS1 rfl rfl rfl rfl (by simp) (by simp [ccells]) ?_; simp [ccells, hiv, hivv, hcl]
          refine Ch_1 14 (by decide) (by decide) ?_
          refine ChS_slotM 8 rfl rfl (by simp [ccells, hiv, hivv, hcl, by1, by2, by3]) rfl rfl (by simp [ccells]) ?_; simp [ccells, hiv, hivv, hcl]
          refine Ch_1 15 (by decide) (by decide) ?_
          refine cS1 rfl rfl rfl rfl (by simp) (by simp [ccells]) ?_; simp [ccells, hiv, hivv, hcl]
          refine Ch_1 17 (by decide) (by decide) ?_
          refine ChS_op rfl rfl rfl rfl (by simp) rfl (by simp [ccells]) ?_; simp [ccells, hiv, hivv, hcl]
          refine Ch_end (by decide) ?_
          refine AS_of_AO ?_; simp; exact hrest _ rfl (by simp [H10, ccells, zI, zR]) rfl rfl rfl
        · refine ChS_slotM 8 rfl rfl (by simp [ccells, hiv, hivv, hcl, by1, by2, by3]) rfl rfl (by simp [ccells]) ?_; simp [ccells, hiv, hivv, hcl]
          refine Ch_1 10 (by decide) (by decide) ?_
          refine cS1 rfl rfl rfl rfl (by simp) (by simp [ccells]) ?_; simp [ccells, hiv, hivv, hcl]
          refine Ch_1 15 (by decide) (by decide) ?_
          refine cS1 rfl rfl rfl rfl (by simp) (by simp [ccells]) ?_; simp [ccells, hiv, hivv, hcl]
          refine Ch_1 17 (by decide) (by decide) ?_
          refine ChS_op rfl rfl rfl rfl (by simp) rfl (by simp [ccells]) ?_; simp [ccells, hiv, hivv, hcl]
          refine Ch_end (by decide) ?_
          refine AS_of_AO ?_; simp; exact hrest _ rfl (by simp [H10, ccells, zI, zR]) rfl rfl rfl
    · refine ChS_slotM 8 rfl rfl (by simp [ccells, hiv, hivv, hcl, by1, by2, by3]) rfl rfl (by simp [ccells]) ?_; simp [ccells, hiv, hivv, hcl]
      refine Ch_2 4 16 (by decide) (by decide) ?_ ?_
      · refine ChS_slotM 6 rfl rfl (by simp [ccells, hiv, hivv, hcl, by1, by2, by3]) rfl rfl (by simp [ccells]) ?_; simp [ccells, hiv, hivv, hcl]
        refine Ch_2 10 16 (by decide) (by decide) ?_ ?_
        · refine cS1 rfl rfl rfl rfl (by simp) (by simp [ccells]) ?_; simp [ccells, hiv, hivv, hcl]
          refine Ch_2 15 16 (by decide) (by decide) ?_ ?_
          · refine cS1 rfl rfl rfl rfl (by simp) (by simp [ccells]) ?_; simp [ccells, hiv, hivv, hcl]
            refine Ch_1 16 (by decide) (by decide) ?_
            refine ChS_op rfl rfl rfl rfl (by simp) rfl (by simp [ccells]) ?_; simp [ccells, hiv, hivv, hcl]
            refine Ch_1 17 (by decide) (by decide) ?_
            refine ChS_op rfl rfl rfl rfl (by simp) rfl (by simp [ccells]) ?_; simp [ccells, hiv, hivv, hcl]
            refine Ch_end (by decide) ?_
            refine AS_of_AO ?_; simp; exact hrest _ rfl (by simp [H10, ccells, zI, zR]) rfl rfl rfl
          · refine ChS_op rfl rfl rfl rfl (by simp) rfl (by simp [ccells]) ?_; simp [ccells, hiv, hivv, hcl]
            refine Ch_1 15 (by decide) (by decide) ?_
            refine cS1 rfl rfl rfl rfl (by simp) (by simp [ccells]) ?_; simp [ccells, hiv, hivv, hcl]
            refine Ch_1 17 (by decide) (by decide) ?_
            refine ChS_op rfl rfl rfl rfl (by simp) rfl (by simp [ccells]) ?_; simp [ccells, hiv, hivv, hcl]
            refine Ch_end (by decide) ?_
            refine AS_of_AO ?_; simp; exact hrest _ rfl (by simp [H10, ccells, zI, zR]) rfl rfl rfl
        · refine ChS_op rfl rfl rfl rfl (by simp) rfl (by simp [ccells]) ?_; simp [ccells, hiv, hivv, hcl]
          refine Ch_1 10 (by decide) (by decide) ?_
          refine cS1 rfl rfl rfl rfl (by simp) (by simp [ccells]) ?_; simp [ccells, hiv, hivv, hcl]
          refine Ch_1 15 (by decide) (by decide) ?_
          refine cS1 rfl rfl rfl rfl (by simp) (by simp [ccells]) ?_; simp [ccells, hiv, hivv, hcl]
          refine Ch_1 17 (by decide) (by decide) ?_
          refine ChS_op rfl rfl rfl rfl (by simp) rfl (by simp [ccells]) ?_; simp [ccells, hiv, hivv, hcl]
          refine Ch_end (by decide) ?_
          refine AS_of_AO ?_; simp; exact hrest _ rfl (by simp [H10, ccells, zI, zR]) rfl rfl rfl
      · refine ChS_op rfl rfl rfl rfl (by simp) rfl (by simp [ccells]) ?_; simp [ccells, hiv, hivv, hcl]
        refine Ch_1 4 (by decide) (by decide) ?_
        refine ChS_slotM 6 rfl rfl (by simp [ccells, hiv, hivv, hcl, by1, by2, by3]) rfl rfl (by simp [ccells]) ?_; simp [ccells, hiv, hivv, hcl]
        refine Ch_1 10 (by decide) (by decide) ?_
        refine cS1 rfl rfl rfl rfl (by simp) (by simp [ccells]) ?_; simp [ccells, hiv, hivv, hcl]
        refine Ch_1 15 (by decide) (by decide) ?_
        refine cS1 rfl rfl rfl rfl (by simp) (by simp [ccells]) ?_; simp [ccells, hiv, hivv, hcl]
        refine Ch_1 17 (by decide) (by decide) ?_
        refine ChS_op rfl rfl rfl rfl (by simp) rfl (by simp [ccells]) ?_; simp [ccells, hiv, hivv, hcl]
        refine Ch_end (by decide) ?_
        refine AS_of_AO ?_; simp; exact hrest _ rfl (by simp [H10, ccells, zI, zR]) rfl rfl rfl
    · refine ChS_op rfl rfl rfl rfl (by simp) rfl (by simp [ccells]) ?_; simp [ccells, hiv, hivv, hcl]
      refine Ch_2 4 14 (by decide) (by decide) ?_ ?_
      · refine ChS_slotM 6 rfl rfl (by simp [ccells, hiv, hivv, hcl, by1, by2, by3]) rfl rfl (by simp [ccells]) ?_; simp [ccells, hiv, hivv, hcl]
        refine Ch_2 10 14 (by decide) (by decide) ?_ ?_
        · refine cS1 rfl rfl rfl rfl (by simp) (by simp [ccells]) ?_; simp [ccells, hiv, hivv, hcl]
          refine Ch_1 14 (by decide) (by decide) ?_
          refine ChS_slotM 8 rfl rfl (by simp [ccells, hiv, hivv, hcl, by1, by2, by3]) rfl rfl (by simp [ccells]) ?_; simp [ccells, hiv, hivv, hcl]
          refine Ch_1 15 (by decide) (by decide) ?_
          refine cS1 rfl rfl rfl rfl (by simp) (by simp [ccells]) ?_; simp [ccells, hiv, hivv, hcl]
          refine Ch_1 17 (by decide) (by decide) ?_
          refine ChS_op rfl rfl rfl rfl (by simp) rfl (by simp [ccells]) ?_; simp [ccells, hiv, hivv, hcl]
          refine Ch_end (by decide) ?_
          refine AS_of_AO ?_; simp; exact hrest _ rfl (by simp [H10, ccells, zI, zR]) rfl rfl rfl
        · refine ChS_slotM 8 rfl rfl (by simp [ccells, hiv, hivv, hcl, by1, by2, by3]) rfl rfl (by simp [ccells]) ?_; simp [ccells, hiv, hivv, hcl]
          refine Ch_1 10 (by decide) (by decide) ?_
          refine cS1 rfl rfl rfl rfl (by simp) (by simp [ccells]) ?_; simp [ccells, hiv, hivv, hcl]
          refine Ch_1 15 (by decide) (by decide) ?_
          refine cS1 rfl rfl rfl rfl (by simp) (by simp [ccells]) ?_; simp [ccells, hiv, hivv, hcl]
          refine Ch_1 17 (by decide) (by decide) ?_
          refine ChS_op rfl rfl rfl rfl (by simp) rfl (by simp [ccells]) ?_; simp [ccells, hiv, hivv, hcl]
          refine Ch_end (by decide) ?_
          refine AS_of_AO ?_; simp; exact hrest _ rfl (by simp [H10, ccells, zI, zR]) rfl rfl rfl
      · refine ChS_slotM 8 rfl rfl (by simp [ccells, hiv, hivv, hcl, by1, by2, by3]) rfl rfl (by simp [ccells]) ?_; simp [ccells, hiv, hivv, hcl]
        refine Ch_1 4 (by decide) (by decide) ?_
        refine ChS_slotM 6 rfl rfl (by simp [ccells, hiv, hivv, hcl, by1, by2, by3]) rfl rfl (by simp [ccells]) ?_; simp [ccells, hiv, hivv, hcl]
        refine Ch_1 10 (by decide) (by decide) ?_
        refine cS1 rfl rfl rfl rfl (by simp) (by simp [ccells]) ?_; simp [ccells, hiv, hivv, hcl]
        refine Ch_1 15 (by decide) (by decide) ?_
        refine cS1 rfl rfl rfl rfl (by simp) (by simp [ccells]) ?_; simp [ccells, hiv, hivv, hcl]
        refine Ch_1 17 (by decide) (by decide) ?_
        refine ChS_op rfl rfl rfl rfl (by simp) rfl (by simp [ccells]) ?_; simp [ccells, hiv, hivv, hcl]
        refine Ch_end (by decide) ?_
        refine AS_of_AO ?_; simp; exact hrest _ rfl (by simp [H10, ccells, zI, zR]) rfl rfl rfl
  · refine ChS_slotM 8 rfl rfl (by simp [ccells, hiv, hivv, hcl, by1, by2, by3]) rfl rfl (by simp [ccells]) ?_; simp [ccells, hiv, hivv, hcl]
    refine Ch_3 4 9 16 (by decide) (by decide) ?_ ?_ ?_
    · refine ChS_slotM 6 rfl rfl (by simp [ccells, hiv, hivv, hcl, by1, by2, by3]) rfl rfl (by simp [ccells]) ?_; simp [ccells, hiv, hivv, hcl]
      refine Ch_2 9 16 (by decide) (by decide) ?_ ?_
      · refine ChS_slotM 7 rfl rfl (by simp [ccells, hiv, hivv, hcl, by1, by2, by3]) rfl rfl (by simp [ccells]) ?_; simp [ccells, hiv, hivv, hcl]
        refine Ch_2 10 16 (by decide) (by decide) ?_ ?_
        · refine cS1 rfl rfl rfl rfl (by simp) (by simp [ccells]) ?_; simp [ccells, hiv, hivv, hcl]
          refine Ch_2 15 16 (by decide) (by decide) ?_ ?_
          · refine cS1 rfl rfl rfl rfl (by simp) (by simp [ccells]) ?_; simp [ccells, hiv, hivv, hcl]
            refine Ch_1 16 (by decide) (by decide) ?_
            refine ChS_op rfl rfl rfl rfl (by simp) rfl (by simp [ccells]) ?_; simp [ccells, hiv, hivv, hcl]
            refine Ch_1 17 (by decide) (by decide) ?_
            refine ChS_op rfl rfl rfl rfl (by simp) rfl (by simp [ccells]) ?_; simp [ccells, hiv, hivv, hcl]
            refine Ch_end (by decide) ?_
            refine AS_of_AO ?_; simp; exact hrest _ rfl (by simp [H10, ccells, zI, zR]) rfl rfl rfl
          · refine ChS_op rfl rfl rfl rfl (by simp) rfl (by simp [ccells]) ?_; simp [ccells, hiv, hivv, hcl]
            refine Ch_1 15 (by decide) (by decide) ?_
            refine cS1 rfl rfl rfl rfl (by simp) (by simp [ccells]) ?_; simp [ccells, hiv, hivv, hcl]
            refine Ch_1 17 (by decide) (by decide) ?_
            refine ChS_op rfl rfl rfl rfl (by simp) rfl (by simp [ccells]) ?_; simp [ccells, hiv, hivv, hcl]
            refine Ch_end (by decide) ?_
            refine AS_of_AO ?_; simp; exact hrest _ rfl (by simp [H10, ccells, zI, zR]) rfl rfl rfl
        · refine ChS_op rfl rfl rfl rfl (by simp) rfl (by simp [ccells]) ?_; simp [ccells, hiv, hivv, hcl]
          refine Ch_1 10 (by decide) (by decide) ?_
          refine cS1 rfl rfl rfl rfl (by simp) (by simp [ccells]) ?_; simp [ccells, hiv, hivv, hcl]
          refine Ch_1 15 (by decide) (by decide) ?_
          refine cS1 rfl rfl rfl rfl (by simp) (by simp [ccells]) ?_; simp [ccells, hiv, hivv, hcl]
          refine Ch_1 17 (by decide) (by decide) ?_
          refine ChS_op rfl rfl rfl rfl (by simp) rfl (by simp [ccells]) ?_; simp [ccells, hiv, hivv, hcl]
          refine Ch_end (by decide) ?_
          refine AS_of_AO ?_; simp; exact hrest _ rfl (by simp [H10, ccells, zI, zR]) rfl rfl rfl
      · refine ChS_op rfl rfl rfl rfl (by simp) rfl (by simp [ccells]) ?_; simp [ccells, hiv, hivv, hcl]
        refine Ch_1 9 (by decide) (by decide) ?_
        refine ChS_slotM 7 rfl rfl (by simp [ccells, hiv, hivv, hcl, by1, by2, by3]) rfl rfl (by simp [ccells]) ?_; simp [ccells, hiv, hivv, hcl]
        refine Ch_1 10 (by decide) (by decide) ?_
        refine cS1 rfl rfl rfl rfl (by simp) (by simp [ccells]) ?_; simp [ccells, hiv, hivv, hcl]
        refine Ch_1 15 (by decide) (by decide) ?_
        refine cS1 rfl rfl rfl rfl (by simp) (by simp [ccells]) ?_; simp [ccells, hiv, hivv, hcl]
        refine Ch_1 17 (by decide) (by decide) ?_
        refine ChS_op rfl rfl rfl rfl (by simp) rfl (by simp [ccells]) ?_; simp [ccells, hiv, hivv, hcl]
        refine Ch_end (by decide) ?_
        refine AS_of_AO ?_; simp; exact hrest _ rfl (by simp [H10, ccells, zI, zR]) rfl rfl rfl
    · refine ChS_slotM 7 rfl rfl (by simp [ccells, hiv, hivv, hcl, by1, by2, by3]) rfl rfl (by simp [ccells]) ?_; simp [ccells, hiv, hivv, hcl]
      refine Ch_2 4 16 (by decide) (by decide) ?_ ?_
      · refine ChS_slotM 6 rfl rfl (by simp [ccells, hiv, hivv, hcl, by1, by2, by3]) rfl rfl (by simp [ccells]) ?_; simp [ccells, hiv, hivv, hcl]
        refine Ch_2 10 16 (by decide) (by decide) ?_ ?_
        · refine cS1 rfl rfl rfl rfl (by simp) (by simp [ccells]) ?_; simp [ccells, hiv, hivv, hcl]
          refine Ch_2 15 16 (by decide) (by decide) ?_ ?_
          · refine cS1 rfl rfl rfl rfl (by simp) (by simp [ccells]) ?_; simp [ccells, hiv, hivv, hcl]
            refine Ch_1 16 (by decide) (by decide) ?_
            refine ChS_op rfl rfl rfl rfl (by simp) rfl (by simp [ccells]) ?_; simp [ccells, hiv, hivv, hcl]
            refine Ch_1 17 (by decide) (by decide) ?_
            refine ChS_op rfl rfl rfl rfl (by simp) rfl (by simp [ccells]) ?_; simp [ccells, hiv, hivv, hcl]
            refine Ch_end (by decide) ?_
            refine AS_of_AO ?_; simp; exact hrest _ rfl (by simp [H10, ccells, zI, zR]) rfl rfl rfl
          · refine ChS_op rfl rfl rfl rfl (by simp) rfl (by simp [ccells]) ?_; simp [ccells, hiv, hivv, hcl]
            refine Ch_1 15 (by decide) (by decide) ?_
            refine cS1 rfl rfl rfl rfl (by simp) (by simp [ccells]) ?_; simp [ccells, hiv, hivv, hcl]
            refine Ch_1 17 (by decide) (by decide) ?_
            refine ChS_op rfl rfl rfl rfl (by simp) rfl (by simp [ccells]) ?_; simp [ccells, hiv, hivv, hcl]
            refine Ch_end (by decide) ?_
            refine AS_of_AO ?_; simp; exact hrest _ rfl (by simp [H10, ccells, zI, zR]) rfl rfl rfl
        · refine ChS_op rfl rfl rfl rfl (by simp) rfl (by simp [ccells]) ?_; simp [ccells, hiv, hivv, hcl]
          refine Ch_1 10 (by decide) (by decide) ?_
          refine cS1 rfl rfl rfl rfl (by simp) (by simp [ccells]) ?_; simp [ccells, hiv, hivv, hcl]
          refine Ch_1 15 (by decide) (by decide) ?_
          refine cS1 rfl rfl rfl rfl (by simp) (by simp [ccells]) ?_; simp [ccells, hiv, hivv, hcl]
          refine Ch_1 17 (by decide) (by decide) ?_
          refine ChS_op rfl rfl rfl rfl (by simp) rfl (by simp [ccells]) ?_; simp [ccells, hiv, hivv, hcl]
          refine Ch_end (by decide) ?_
          refine AS_of_AO ?_; simp; exact hrest _ rfl (by simp [H10, ccells, zI, zR]) rfl rfl rfl
      · refine ChS_op rfl rfl rfl rfl (by simp) rfl (by simp [ccells]) ?_; simp [ccells, hiv, hivv, hcl]
        refine Ch_1 4 (by decide) (by decide) ?_
        refine ChS_slotM 6 rfl rfl (by simp [ccells, hiv, hivv, hcl, by1, by2, by3]) rfl rfl (by simp [ccells]) ?_; simp [ccells, hiv, hivv, hcl]
        refine Ch_1 10 (by decide) (by decide) ?_
        refine cS1 rfl rfl rfl rfl (by simp) (by simp [ccells]) ?_; simp [ccells, hiv, hivv, hcl]
        refine Ch_1 15 (by decide) (by decide) ?_
        refine cS1 rfl rfl rfl rfl (by simp) (by simp [ccells]) ?_; simp [ccells, hiv, hivv, hcl]
        refine Ch_1 17 (by decide) (by decide) ?_
        refine ChS_op rfl rfl rfl rfl (by simp) rfl (by simp [ccells]) ?_; simp [ccells, hiv, hivv, hcl]
        refine Ch_end (by decide) ?_
        refine AS_of_AO ?_; simp; exact hrest _ rfl (by simp [H10, ccells, zI, zR]) rfl rfl rfl
    · refine ChS_op rfl rfl rfl rfl (by simp) rfl (by simp [ccells]) ?_; simp [ccells, hiv, hivv, hcl]
      refine Ch_2 4 9 (by decide) (by decide) ?_ ?_
      · refine ChS_slotM 6 rfl rfl (by simp [ccells, hiv, hivv, hcl, by1, by2, by3]) rfl rfl (by simp [ccells]) ?_; simp [ccells, hiv, hivv, hcl]
        refine Ch_1 9 (by decide) (by decide) ?_
        refine ChS_slotM 7 rfl rfl (by simp [ccells, hiv, hivv, hcl, by1, by2, by3]) rfl rfl (by simp [ccells]) ?_; simp [ccells, hiv, hivv, hcl]
        refine Ch_1 10 (by decide) (by decide) ?_
        refine cS1 rfl rfl rfl rfl (by simp) (by simp [ccells]) ?_; simp [ccells, hiv, hivv, hcl]
        refine Ch_1 15 (by decide) (by decide) ?_
        refine cS1 rfl rfl rfl rfl (by simp) (by simp [ccells]) ?_; simp [ccells, hiv, hivv, hcl]
        refine Ch_1 17 (by decide) (by decide) ?_
        refine ChS_op rfl rfl rfl rfl (by simp) rfl (by simp [ccells]) ?_; simp [ccells, hiv, hivv, hcl]
        refine Ch_end (by decide) ?_
        refine AS_of_AO ?_; simp; exact hrest _ rfl (by simp [H10, ccells, zI, zR]) rfl rfl rfl
      · refine ChS_slotM 7 rfl rfl (by simp [ccells, hiv, hivv, hcl, by1, by2, by3]) rfl rfl (by simp [ccells]) ?_; simp [ccells, hiv, hivv, hcl]
        refine Ch_1 4 (by decide) (by decide) ?_
        refine ChS_slotM 6 rfl rfl (by simp [ccells, hiv, hivv, hcl, by1, by2, by3]) rfl rfl (by simp [ccells]) ?_; simp [ccells, hiv, hivv, hcl]
        refine Ch_1 10 (by decide) (by decide) ?_
        refine cS1 rfl rfl rfl rfl (by simp) (by simp [ccells]) ?_; simp [ccells, hiv, hivv, hcl]
        refine Ch_1 15 (by decide) (by decide) ?_
        refine cS1 rfl rfl rfl rfl (by simp) (by simp [ccells]) ?_; simp [ccells, hiv, hivv, hcl]
        refine Ch_1 17 (by decide) (by decide) ?_
        refine ChS_op rfl rfl rfl rfl (by simp) rfl (by simp [ccells]) ?_; simp [ccells, hiv, hivv, hcl]
        refine Ch_end (by decide) ?_
        refine AS_of_AO ?_; simp; exact hrest _ rfl (by simp [H10, ccells, zI, zR]) rfl rfl rfl
  · refine ChS_op rfl rfl rfl rfl (by simp) rfl (by simp [ccells]) ?_; simp [ccells, hiv, hivv, hcl]
    refine Ch_3 4 9 14 (by decide) (by decide) ?_ ?_ ?_
    · refine ChS_slotM 6 rfl rfl (by simp [ccells, hiv, hivv, hcl, by1, by2, by3]) rfl rfl (by simp [ccells]) ?_; simp [ccells, hiv, hivv, hcl]
      refine Ch_2 9 14 (by decide) (by decide) ?_ ?_
      · refine ChS_slotM 7 rfl rfl (by simp [ccells, hiv, hivv, hcl, by1, by2, by3]) rfl rfl (by simp [ccells]) ?_; simp [ccells, hiv, hivv, hcl]
        refine Ch_2 10 14 (by decide) (by decide) ?_ ?_
        · refine cS1 rfl rfl rfl rfl (by simp) (by simp [ccells]) ?_; simp [ccells, hiv, hivv, hcl]
          refine Ch_1 14 (by decide) (by decide) ?_
          refine ChS_slotM 8 rfl rfl (by simp [ccells, hiv, hivv, hcl, by1, by2, by3]) rfl rfl (by simp [ccells]) ?_; simp [ccells, hiv, hivv, hcl]
          refine Ch_1 15 (by decide) (by decide) ?_
          refine cS1 rfl rfl rfl rfl (by simp) (by simp [ccells]) ?_; simp [ccells, hiv, hivv, hcl]
          refine Ch_1 17 (by decide) (by decide) ?_
          refine ChS_op rfl rfl rfl rfl (by simp) rfl (by simp [ccells]) ?_; simp [ccells, hiv, hivv, hcl]
          refine Ch_end (by decide) ?_
          refine AS_of_AO ?_; simp; exact hrest _ rfl (by simp [H10, ccells, zI, zR]) rfl rfl rfl
        · refine ChS_slotM 8 rfl rfl (by simp [ccells, hiv, hivv, hcl, by1, by2, by3]) rfl rfl (by simp [ccells]) ?_; simp [ccells, hiv, hivv, hcl]
          refine Ch_1 10 (by decide) (by decide) ?_
          refine cS1 rfl rfl rfl rfl (by simp) (by simp [ccells]) ?_; simp [ccells, hiv, hivv, hcl]
          refine Ch_1 15 (by decide) (by decide) ?_
          refine cS1 rfl rfl rfl rfl (by simp) (by simp [ccells]) ?_; simp [ccells, hiv, hivv, hcl]
          refine Ch_1 17 (by decide) (by decide) ?_
          refine ChS_op rfl rfl rfl rfl (by simp) rfl (by simp [ccells]) ?_; simp [ccells, hiv, hivv, hcl]
          refine Ch_end (by decide) ?_
          refine AS_of_AO ?_; simp; exact hrest _ rfl (by simp [H10, ccells, zI, zR]) rfl rfl rfl
      · refine ChS_slotM 8 rfl rfl (by simp [ccells, hiv, hivv, hcl, by1, by2, by3]) rfl rfl (by simp [ccells]) ?_; simp [ccells, hiv, hivv, hcl]
        refine Ch_1 9 (by decide) (by decide) ?_
        refine ChS_slotM 7 rfl rfl (by simp [ccells, hiv, hivv, hcl, by1, by2, by3]) rfl rfl (by simp [ccells]) ?_; simp [ccells, hiv, hivv, hcl]
        refine Ch_1 10 (by decide) (by decide) ?_
        refine cS1 rfl rfl rfl rfl (by simp) (by simp [ccells]) ?_; simp [ccells, hiv, hivv, hcl]
        refine Ch_1 15 (by decide) (by decide) ?_
        refine cS1 rfl rfl rfl rfl (by simp) (by simp [ccells]) ?_; simp [ccells, hiv, hivv, hcl]
        refine Ch_1 17 (by decide) (by decide) ?_
        refine ChS_op rfl rfl rfl rfl (by simp) rfl (by simp [ccells]) ?_; simp [ccells, hiv, hivv, hcl]
        refine Ch_end (by decide) ?_
        refine AS_of_AO ?_; simp; exact hrest _ rfl (by simp [H10, ccells, zI, zR]) rfl rfl rfl
    · refine ChS_slotM 7 rfl rfl (by simp [ccells, hiv, hivv, hcl, by1, by2, by3]) rfl rfl (by simp [ccells]) ?_; simp [ccells, hiv, hivv, hcl]
      refine Ch_2 4 14 (by decide) (by decide) ?_ ?_
      · refine ChS_slotM 6 rfl rfl (by simp [ccells, hiv, hivv, hcl, by1, by2, by3]) rfl rfl (by simp [ccells]) ?_; simp [ccells, hiv, hivv, hcl]
        refine Ch_2 10 14 (by decide) (by decide) ?_ ?_
        · refine cS1 rfl rfl rfl rfl (by simp) (by simp [ccells]) ?_; simp [ccells, hiv, hivv, hcl]
          refine Ch_1 14 (by decide) (by decide) ?_
          refine ChS_slotM 8 rfl rfl (by simp [ccells, hiv, hivv, hcl, by1, by2, by3]) rfl rfl (by simp [ccells]) ?_; simp [ccells, hiv, hivv, hcl]
          refine Ch_1 15 (by decide) (by decide) ?_
          refine cS1 rfl rfl rfl rfl (by simp) (by simp [ccells]) ?_; simp [ccells, hiv, hivv, hcl]
          refine Ch_1 17 (by decide) (by decide) ?_
          refine ChS_op rfl rfl rfl rfl (by simp) rfl (by simp [ccells]) ?_; simp [ccells, hiv, hivv, hcl]
          refine Ch_end (by decide) ?_
          refine AS_of_AO ?_; simp; exact hrest _ rfl (by simp [H10, ccells, zI, zR]) rfl rfl rfl
        · refine ChS_slotM 8 rfl rfl (by simp [ccells, hiv, hivv, hcl, by1, by2, by3]) rfl rfl (by simp [ccells]) ?_; simp [ccells, hiv, hivv, hcl]
          refine Ch_1 10 (by decide) (by decide) ?_
          refine cS1 rfl rfl rfl rfl (by simp) (by simp [ccells]) ?_; simp [ccells, hiv, hivv, hcl]
          refine Ch_1 15 (by decide) (by decide) ?_
          refine cS1 rfl rfl rfl rfl (by simp) (by simp [ccells]) ?_; simp [ccells, hiv, hivv, hcl]
          refine Ch_1 17 (by decide) (by decide) ?_
          refine ChS_op rfl rfl rfl rfl (by simp) rfl (by simp [ccells]) ?_; simp [ccells, hiv, hivv, hcl]
          refine Ch_end (by decide) ?_
          refine AS_of_AO ?_; simp; exact hrest _ rfl (by simp [H10, ccells, zI, zR]) rfl rfl rfl
      · refine ChS_slotM 8 rfl rfl (by simp [ccells, hiv, hivv, hcl, by1, by2, by3]) rfl rfl (by simp [ccells]) ?_; simp [ccells, hiv, hivv, hcl]
        refine Ch_1 4 (by decide) (by decide) ?_
        refine ChS_slotM 6 rfl rfl (by simp [ccells, hiv, hivv, hcl, by1, by2, by3]) rfl rfl (by simp [ccells]) ?_; simp [ccells, hiv, hivv, hcl]
        refine Ch_1 10 (by decide) (by decide) ?_
        refine cS1 rfl rfl rfl rfl (by simp) (by simp [ccells]) ?_; simp [ccells, hiv, hivv, hcl]
        refine Ch_1 15 (by decide) (by decide) ?_
        refine cS1 rfl rfl rfl rfl (by simp) (by simp [ccells]) ?_; simp [ccells, hiv, hivv, hcl]
        refine Ch_1 17 (by decide) (by decide) ?_
        refine ChS_op rfl rfl rfl rfl (by simp) rfl (by simp [ccells]) ?_; simp [ccells, hiv, hivv, hcl]
        refine Ch_end (by decide) ?_
        refine AS_of_AO ?_; simp; exact hrest _ rfl (by simp [H10, ccells, zI, zR]) rfl rfl rfl
    · refine ChS_slotM 8 rfl rfl (by simp [ccells, hiv, hivv, hcl, by1, by2, by3]) rfl rfl (by simp [ccells]) ?_; simp [ccells, hiv, hivv, hcl]
      refine Ch_2 4 9 (by decide) (by decide) ?_ ?_
      · refine ChS_slotM 6 rfl rfl (by simp [ccells, hiv, hivv, hcl, by1, by2, by3]) rfl rfl (by simp [ccells]) ?_; simp [ccells, hiv, hivv, hcl]
        refine Ch_1 9 (by decide) (by decide) ?_
        refine ChS_slotM 7 rfl rfl (by simp [ccells, hiv, hivv, hcl, by1, by2, by3]) rfl rfl (by simp [ccells]) ?_; simp [ccells, hiv, hivv, hcl]
        refine Ch_1 10 (by decide) (by decide) ?_
        refine cS1 rfl rfl rfl rfl (by simp) (by simp [ccells]) ?_; simp [ccells, hiv, hivv, hcl]
        refine Ch_1 15 (by decide) (by decide) ?_
        refine cS1 rfl rfl rfl rfl (by simp) (by simp [ccells]) ?_; simp [ccells, hiv, hivv, hcl]
        refine Ch_1 17 (by decide) (by decide) ?_
        refine ChS_op rfl rfl rfl rfl (by simp) rfl (by simp [ccells]) ?_; simp [ccells, hiv, hivv, hcl]
        refine Ch_end (by decide) ?_
        refine AS_of_AO ?_; simp; exact hrest _ rfl (by simp [H10, ccells, zI, zR]) rfl rfl rfl
      · refine ChS_slotM 7 rfl rfl (by simp [ccells, hiv, hivv, hcl, by1, by2, by3]) rfl rfl (by simp [ccells]) ?_; simp [ccells, hiv, hivv, hcl]
        refine Ch_1 4 (by decide) (by decide) ?_
        refine ChS_slotM 6 rfl rfl (by simp [ccells, hiv, hivv, hcl, by1, by2, by3]) rfl rfl (by simp [ccells]) ?_; simp [ccells, hiv, hivv, hcl]
        refine Ch_1 10 (by decide) (by decide) ?_
        refine cS1 rfl rfl rfl rfl (by simp) (by simp [ccells]) ?_; simp [ccells, hiv, hivv, hcl]
        refine Ch_1 15 (by decide) (by decide) ?_
        refine cS1 rfl rfl rfl rfl (by simp) (by simp [ccells]) ?_; simp [ccells, hiv, hivv, hcl]
        refine Ch_1 17 (by decide) (by decide) ?_
        refine ChS_op rfl rfl rfl rfl (by simp) rfl (by simp [ccells]) ?_; simp [ccells, hiv, hivv, hcl]
        refine Ch_end (by decide) ?_
        refine AS_of_AO ?_; simp; exact hrest _ rfl (by simp [H10, ccells, zI, zR]) rfl rfl rfl
end Go.Proofs.YtbgooadmonnjaaaGreatDoor
end
