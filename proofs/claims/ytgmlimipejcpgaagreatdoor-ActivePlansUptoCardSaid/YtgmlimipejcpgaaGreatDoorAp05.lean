/-
  YtgmlimipejcpgaaGreatDoorAp05: steps of the proof of a law of the program: what these texts prove holds under the hypotheses that their theorems name, and no others.
-/
import Derived.Test.YtgmlimipejcpgaaGreatDoorAp04
section
set_option linter.unusedVariables false
set_option linter.unusedSimpArgs false
namespace Go.Proofs.YtgmlimipejcpgaaGreatDoor
open Go Go.AM Fx
def refsO (N i : Nat) : List (List V) := (List.range i).map fun j => [V.ref (2 * j + 4) 0 0 N]
def tailB (a : AutoD) (gs : List (List PartD)) (N i : Nat) : List B := (a.locs.take i).flatMap fun l => [B.var l.cells, .row 4 0 0 true (bvs (row0 N l gs))]
def ofH (n : NetD) (a : AutoD) (gs : List (List PartD)) (i : Nat) : List B :=
  [.var n.cells, .var a.cells, .row 144 i 0 (decide (i = 0)) (refsO n.clocks.length i)] ++ tailB a gs n.clocks.length i
section
variable {n : NetD} {a : AutoD} {gs : List (List PartD)} {N i : Nat}
theorem refsO_succ : refsO N (i + 1) = refsO N i ++ [[V.ref (2 * i + 4) 0 0 N]] := by unfold refsO; rw [List.range_succ, List.map_append]; rfl
theorem refsO_len : (refsO N i).length = i := by simp [refsO]
theorem tailB_succ (hi : i < a.locs.length) : tailB a gs N (i + 1) = tailB a gs N i ++ [B.var a.locs[i].cells, .row 4 0 0 true (bvs (row0 N a.locs[i] gs))] := by
  unfold tailB
  rw [List.take_add_one, List.getElem?_eq_getElem hi, List.flatMap_append]
  simp
theorem tailB_len : ∀ {i : Nat}, i ≤ a.locs.length → (tailB a gs N i).length = 2 * i
  | 0, _ => rfl
  | i + 1, h => by rw [tailB_succ h, List.length_append, tailB_len (by omega)]; simp; omega
theorem tailB_get : ∀ {i j : Nat} (hi : i ≤ a.locs.length) (hj : j < i), (tailB a gs N i)[1 + 2 * j]? = some (.row 4 0 0 true (bvs (row0 N (a.locs[j]'(by omega)) gs)))
  | i + 1, j, hi, hj => by
    rw [tailB_succ hi]
    have hl := tailB_len (a := a) (gs := gs) (N := N) (i := i) (by omega)
    by_cases e : j = i
    · subst e
      rw [List.getElem?_append_right (by omega), hl, show 1 + 2 * j - 2 * j = 1 by omega]; rfl
    · rw [List.getElem?_append_left (by omega)]; exact tailB_get (by omega) (by omega)
theorem tailB_lt : ∀ {i k : Nat} (hi : i ≤ a.locs.length), ∀ y ∈ tailB a gs N i, B.lt k y
  | 0, k, hi, y, hy => by cases hy
  | i + 1, k, hi, y, hy => by
    rw [tailB_succ hi] at hy
    rcases List.mem_append.1 hy with h | h
    · exact tailB_lt (by omega) y h
    · simp only [List.mem_cons, List.not_mem_nil, or_false] at h
      rcases h with rfl | rfl
      · simp [LocD.cells, vl]
      · exact rowF_lt
theorem ofH_len (hi : i ≤ a.locs.length) : (ofH n a gs i).length = 2 * i + 3 := by unfold ofH; rw [List.length_append, tailB_len hi]; simp; omega
theorem ofH_hl (hi : i ≤ a.locs.length) : HL (ofH n a gs i) := by
  intro y hy
  rw [ofH_len hi]
  unfold ofH at hy
  rcases List.mem_append.1 hy with h | h
  · simp only [List.mem_cons, List.not_mem_nil, or_false] at h
    rcases h with rfl | rfl | rfl
    · simp [NetD.cells, vl]
    · simp [AutoD.cells, vl]
    · refine rowR_lt fun x hx => ?_
      obtain ⟨j, hj, rfl⟩ := List.mem_map.1 hx
      have := List.mem_range.1 hj
      simp; omega
  · exact tailB_lt hi y h
/-- A row behind a heap: clocks are marked there. -/
theorem c_useH {H x : List B} {y0 : B} {nb N : Nat} {c : List Bool} (hH : H.length = nb) (hl : ∀ c : List Bool, HL (H ++ y0 :: .row 4 0 0 true (bvs c) :: x)) (hc : c.length = N) (l : List GuardD) (hll : l.length ≤ 1048576) (hN : N ≤ 1048576) (hg : ∀ x ∈ l, okG N x) :
    GCall Tryz.prog GV 162 [.ref (nb + 1) 0 0 N, vl GuardD.cells l] (H ++ y0 :: .row 4 0 0 true (bvs c) :: x) (fun v h' => v = .tup [] ∧ h' = H ++ y0 :: .row 4 0 0 true (bvs (useL l c)) :: x) := by
  subst hc
  refine (c_use (hl c) (by rw [ga1 hH]; rfl) l hll hN hg).mono fun v h' hq => ⟨hq.1, ?_⟩
  rw [hq.2, sa1 hH]; rfl
theorem bvs_rep {N : Nat} : List.replicate N [V.bool false] = bvs (List.replicate N false) := by simp [bvs]
/-- Marks behind the loop over the places. -/
theorem ofH_mr : MR 144 4 bvs (ofH n a gs a.locs.length) 2 a.locs.length (decide (a.locs.length = 0)) ((List.range a.locs.length).map fun j => (2 * j + 4, 0)) n.clocks.length (a.locs.map fun l => row0 n.clocks.length l gs) (ofH n a gs a.locs.length) := by
  refine ⟨by decide, rfl, ofH_hl (Nat.le_refl _), ?_, by simp, fun i x hx => ?_, fun i j x y hx hy e => ?_, fun _ _ => rfl⟩
  · unfold ofH mrefs refsO; rw [List.map_map]; rfl
  · have hi : i < a.locs.length := by have := (List.getElem?_eq_some_iff.1 hx).1; simpa using this
    simp [hi] at hx; subst hx
    refine ⟨row0 n.clocks.length a.locs[i] gs, by simp [hi], row0_len, ?_⟩
    have := tailB_get (a := a) (gs := gs) (N := n.clocks.length) (Nat.le_refl _) hi
    unfold ofH
    rw [List.getElem?_append_right (by simp)]
    simp only [List.length_cons, List.length_nil]
    rw [show 2 * i + 4 - (0 + 1 + 1 + 1) = 1 + 2 * i by omega]; exact this
  · have hi : i < a.locs.length := by have := (List.getElem?_eq_some_iff.1 hx).1; simpa using this
    have hj : j < a.locs.length := by have := (List.getElem?_eq_some_iff.1 hy).1; simpa using this
    simp [hi] at hx; simp [hj] at hy; subst hx; subst hy
    simp at e; omega
end
end Go.Proofs.YtgmlimipejcpgaaGreatDoor
end
section
set_option linter.unusedSimpArgs false
set_option linter.unusedVariables false
namespace Go.Proofs.YtgmlimipejcpgaaGreatDoor
open Go Go.AM Fx
structure SS where
  k : Nat
  more : Bool
  m : Marks
  hc : List B
set_option maxRecDepth 20000 in
set_option maxHeartbeats 16000000 in
theorem c_spread {h : List B} {mr gm N : Nat} {fl : Bool} {ids : List (Nat × Nat)} {m0 : Marks} (p0 : MR 144 4 bvs h mr gm fl ids N m0 h) (a : AutoD) (ha : a.ok) (hE : okE a) (gs : List (List PartD)) (hs : MS a gs N m0) (hN : N ≤ 1048576) :
    GCall Tryz.prog GV 163 [.ref mr gm 0 ids.length, .agg a.cells] h (fun v h' => ∃ more m', v = .bool more ∧ MPass a gs N m0 a.edges.length 0 more m' ∧ MR 144 4 bvs h mr gm fl ids N m' h') := by
  have hal := ha.2.1
  have hae := ha.2.2
  have hids : ids.length = a.locs.length := by rw [← p0.ml, hs.len]
  have hmr : mr < h.length := (List.getElem?_eq_some_iff.1 p0.mr).1
  have hml : (mrefs ids N).length = ids.length := by simp [mrefs]
  have hl3 : ∀ {m : Marks} {hc : List B} {e : EdgeD}, MR 144 4 bvs h mr gm fl ids N m hc → ∀ c, HL (hc ++ [B.var a.cells, B.var e.cells, B.map (imap c)]) := fun hm c => hm.hl.app (by simp [AutoD.cells, EdgeD.cells, vl])
  refine gB1 Tryz.func163 rfl (by decide) Tryz.ntmps163 (by simp) Tryz.results163 ?_
  repeat' (first
 |refine aK fun K hK=>?_|refine Step.by1 ?_|refine sE (by decide) ?_|refine cz rfl ?_|refine Fork.by2 (fun h=>?_) fun h=>?_
 |(refine aR ?_;simp [vl, AutoD.cells])
 |(refine Split.by2 (fun h=>?_) (fun h=>?_)<;>(simp [h, vl, AutoD.cells]))
 |(apply hK;clear hK K)|refine AWh ‹_› ?_)
  refine aL [0, 14, 15] (fun s : SS => [(5, .bool s.more), (16, .int .i64 s.k)]) (fun s => s.hc ++ [B.var a.cells]) (fun s => s.k ≤ a.edges.length ∧ MPass a gs N m0 s.k 0 s.more s.m ∧ MR 144 4 bvs h mr gm fl ids N s.m s.hc) (fun s => a.edges.length - s.k) ⟨0, false, m0, h⟩ ⟨Nat.zero_le _, .init hs, p0⟩
    (Weak.sym (x := []) (by simp [AutoD.cells, vl]) (p0.hl.app (by simp [AutoD.cells, vl])) (by simp [vl, AutoD.cells]; omega)) (fun s hs => by simp [hs.2.2.len]) ?_
  rintro ⟨k, more, m, hc⟩ ⟨hk, hp, hm⟩
  simp only at hk hp hm
  have hlen := hm.len
  have g0 := fun x : List B => ga0 (x := x) hlen
  have g1 := fun (x : List B) (k : Nat) => ga1 (x := x) (k := k) hlen
  have s1 := fun (x : List B) (k : Nat) (y : B) => sa1 (x := x) (k := k) (y := y) hlen
  have gr : ∀ x : List B, (hc ++ x)[mr]? = some (.row 144 gm 0 fl (mrefs ids N)) := fun x => by rw [get_app (by omega)]; exact hm.mr
  by_cases hkt : k < a.edges.length
  · obtain ⟨e, he⟩ : ∃ e, a.edges[k] = e := ⟨_, rfl⟩
    have he' : a.edges[k]? = some e := by rw [List.getElem?_eq_getElem hkt, he]
    have hem := List.mem_of_getElem? he'
    obtain ⟨⟨f1, f2⟩, t1, t2⟩ := hE e hem
    obtain ⟨p, hpp⟩ := Int.eq_ofNat_of_zero_le f1
    obtain ⟨q, hqq⟩ := Int.eq_ofNat_of_zero_le t1
    have hes := (hae.2 e hem).2.2.2.2.2.2.1
    have hkt' : (k : Int) < a.edges.length := by omega
    have w1 : IntKind.i64.wrap ((k : Int) + 1) = k + 1 := wI (by omega) (by omega)
    obtain ⟨sm, hsm⟩ : ∃ sm, setsM e.sets [] = sm := ⟨_, rfl⟩
    have hsn : (sm.map (·.1)).Nodup := by rw [← hsm]; exact setsM_nodup (by simp)
    have hsg : ∀ c, (iget sm c).getD (.bool false) = .bool (setsB c e.sets) := fun c => by rw [← hsm]; exact setsM_at
    repeat' (first
 |refine aK fun K hK=>?_|refine Step.by1 ?_|refine sE (by decide) ?_|refine cz rfl ?_|refine Fork.by2 (fun h=>?_) fun h=>?_
 |(refine aR ?_;simp [vl, AutoD.cells, EdgeD.cells, hkt, hkt', he, hlen, g0, g1])
 |(refine Split.by2 (fun h=>?_) (fun h=>?_)<;>(simp [h, vl, AutoD.cells, EdgeD.cells, hkt, hkt', he, hlen, g0, g1]))
 |(refine AS_op1 rfl S_makeMap ?_; simp [hlen])
 |(apply hK;clear hK K)|refine AWh ‹_› ?_)
    refine AW_range (r := sm) e.sets 24 [0, 5, 7, 8, 14, 15, 16, 22, 23] (fun _ : List (Int × V) => []) (fun c => hc ++ [B.var a.cells, B.var e.cells, B.map (imap c)]) (fun i c => (c.map (·.1)).Nodup) setsM [] hsm (by simp)
      (Weak.sym (x := []) (by simp [AutoD.cells, EdgeD.cells, vl, imap]) (hl3 hm []) (by simp [vl, AutoD.cells, EdgeD.cells, hlen]; omega)) (fun _ c _ => by simp) ?_ ?_
    · intro i c x _ hlt hx hJ hF
      rw [setsM_cons] at hF
      have hlt' : (i : Int) < e.sets.length := by omega
      have w2 : IntKind.i64.wrap ((i : Int) + 1) = i + 1 := wI (by omega) (by omega)
      repeat' (first
 |refine aK fun K hK=>?_|refine Step.by1 ?_|refine sE (by decide) ?_|refine cz rfl ?_|refine Fork.by2 (fun h=>?_) fun h=>?_
 |(refine aR ?_;simp [vl, EdgeD.cells, SetD.cells, hlt, hlt', hx, w2, hlen, g0, g1, s1])
 |(refine Split.by2 (fun h=>?_) (fun h=>?_)<;>(simp [h, vl, EdgeD.cells, SetD.cells, hlt, hlt', hx, w2, hlen, g0, g1, s1]))
 |(refine AS_op1 rfl (S_mapUpdateI (l := c) Tryz.underlying225 Tryz.underlying3 rfl (by simp [g1, hlen]) rfl hJ rfl) ?_; simp [hlen, g0, g1, s1])
 |(apply hK;clear hK K)|refine AWh ‹_› ?_)
      refine ⟨_, hF, iput_nodup hJ, Weak.sym (x := [B.var x.cells]) (by simp [vl, EdgeD.cells, SetD.cells]) (hl3 hm _) (by simp [vl, AutoD.cells, EdgeD.cells, hlen]; omega)⟩
    · intro c hJ hF
      rw [setsM_nil] at hF
      subst c
      have hpl : p < ids.length := by omega
      have hql : q < ids.length := by omega
      have hpl' : (p : Int) < ids.length := by omega
      have hql' : (q : Int) < ids.length := by omega
      obtain ⟨xf, hxf, hmp⟩ := hm.at hpl
      obtain ⟨xt, hxt, hmq⟩ := hm.at hql
      have hxl : xt.1 < h.length := by obtain ⟨_, _, _, h3⟩ := hm.rows q xt hxt; rw [← hlen]; exact (List.getElem?_eq_some_iff.1 h3).1
      repeat' (first
 |refine aK fun K hK=>?_|refine Step.by1 ?_|refine sE (by decide) ?_|refine cz rfl ?_|refine Fork.by2 (fun h=>?_) fun h=>?_
 |(refine aR ?_;simp [vl, AutoD.cells, EdgeD.cells, hpp, hqq, hlen, g0, g1, gr, hml, hql, hql', hmq])
 |(refine Split.by2 (fun h=>?_) (fun h=>?_)<;>(simp [h, vl, AutoD.cells, EdgeD.cells, hpp, hqq, hlen, g0, g1, gr, hml, hql, hql', hmq]))
 |(apply hK;clear hK K)|refine AWh ‹_› ?_)
      refine aL [0, 7, 8, 14, 15, 16, 36, 37] (fun s : SS => [(5, .bool s.more), (38, .int .i64 s.k)]) (fun s => s.hc ++ [B.var a.cells, B.var e.cells, B.map (imap sm)]) (fun s => s.k ≤ N ∧ MPass a gs N m0 k s.k s.more s.m ∧ MR 144 4 bvs h mr gm fl ids N s.m s.hc) (fun s => N - s.k) ⟨0, more, m, hc⟩ ⟨Nat.zero_le _, hp, hm⟩
        (Weak.sym (x := []) (by simp [AutoD.cells, EdgeD.cells, vl, hpp, hqq]) (hl3 hm _) (by simp [vl, AutoD.cells, EdgeD.cells, hlen]; omega)) (fun s hs => by simp [hs.2.2.len, hlen]) ?_
      clear hp hm hlen g0 g1 s1 gr
      rintro ⟨j, more, m, hc⟩ ⟨hj, hp, hm⟩
      simp only at hj hp hm
      have hlen := hm.len
      have g0 := fun x : List B => ga0 (x := x) hlen
      have g1 := fun (x : List B) (k : Nat) => ga1 (x := x) (k := k) hlen
      have gr : ∀ x : List B, (hc ++ x)[mr]? = some (.row 144 gm 0 fl (mrefs ids N)) := fun x => by rw [get_app (by omega)]; exact hm.mr
      by_cases hjt : j < N
      · obtain ⟨rt, hrt, hrtl, ht⟩ := hm.rows q xt hxt
        obtain ⟨rf, hrf, hrfl, hf⟩ := hm.rows p xf hxf
        have htl := (List.getElem?_eq_some_iff.1 ht).1
        have hfl := (List.getElem?_eq_some_iff.1 hf).1
        have gt : ∀ x : List B, (hc ++ x)[xt.1]? = some (.row 4 xt.2 0 true (bvs rt)) := fun x => by rw [get_app htl]; exact ht
        have gf : ∀ x : List B, (hc ++ x)[xf.1]? = some (.row 4 xf.2 0 true (bvs rf)) := fun x => by rw [get_app hfl]; exact hf
        have sf : ∀ (x : List B) (y : B), (hc ++ x).set xf.1 y = hc.set xf.1 y ++ x := fun x y => set_app hfl
        have hjt' : (j : Int) < N := by omega
        have w2 : IntKind.i64.wrap ((j : Int) + 1) = j + 1 := wI (by omega) (by omega)
        obtain ⟨bf, hbf⟩ : ∃ bf, rf[j]? = some bf := ⟨_, List.getElem?_eq_getElem (by omega)⟩
        obtain ⟨bt, hbt⟩ : ∃ bt, rt[j]? = some bt := ⟨_, List.getElem?_eq_getElem (by omega)⟩
        have hcl : (bvs rt).length = N := by simp [bvs, hrtl]
        have hcl2 : (bvs rf).length = N := by simp [bvs, hrfl]
        have hct : (bvs rt)[j]'(by omega) = [V.bool bt] := by rw [List.getElem_eq_iff]; simp [bvs, hbt]
        have hcf : (bvs rf)[j]'(by omega) = [V.bool bf] := by rw [List.getElem_eq_iff]; simp [bvs, hbf]
        have hbs : (bvs rf).set j [V.bool true] = bvs (rf.set j true) := by simp [bvs, List.map_set]
        have hget := hsg ((j : Int) + 1)
        have mt : mget m e.to.toNat j = some bt := mget_of (r := rt) (by rw [show e.to.toNat = q by omega]; exact hrt) hbt
        have mf : mget m e.frm.toNat j = some bf := mget_of (r := rf) (by rw [show e.frm.toNat = p by omega]; exact hrf) hbf
        have hk1 := hp.keep he'
        have hk2 := hp.step he' (r := rf) (by rw [show e.frm.toNat = p by omega]; exact hrf) hjt
        rw [show e.frm.toNat = p by omega, mset_row hrf] at hk2
        rw [mt, mf] at hk1
        rw [mt] at hk2
        rw [show e.frm.toNat = p by omega] at mf
        rw [mf] at hk2
        generalize setsB ((j : Int) + 1) e.sets = sb at *
        by_cases hall : bt = true ∧ bf = false ∧ sb = false
        · obtain ⟨rfl, rfl, rfl⟩ := hall
          have hm' := hm.upd hxf (r := rf.set j true) (by simp [hrfl])
          have hlen' : (hc.set xf.1 (B.row 4 xf.2 0 true (bvs (rf.set j true)))).length = h.length := hm'.len
          repeat' (first
 |refine aK fun K hK=>?_|refine Step.by1 ?_|refine sE (by decide) ?_|refine cz rfl ?_|refine Fork.by2 (fun h=>?_) fun h=>?_
 |(refine aR ?_;simp [vl, AutoD.cells, EdgeD.cells, hpp, hqq, hlen, g0, g1, gr, gt, gf, sf, hml, hpl, hpl', hmp, hjt, hjt', w2, hcl, hcl2, hct, hcf, hbs])
 |(refine Split.by2 (fun h=>?_) (fun h=>?_)<;>(simp [h, vl, AutoD.cells, EdgeD.cells, hpp, hqq, hlen, g0, g1, gr, gt, gf, sf, hml, hpl, hpl', hmp, hjt, hjt', w2, hcl, hcl2, hct, hcf, hbs]))
 |(refine AS_op1 rfl (S_lookupI (l := sm) Tryz.underlying225 Tryz.underlying3 zb4 rfl (by simp [g1, hlen]) rfl hsn) ?_; simp [hget, vl, AutoD.cells, EdgeD.cells, hpp, hqq, hlen, g0, g1, gr, gt, gf, sf, hml, hpl, hpl', hmp, hjt, hjt', w2, hcl, hcl2, hct, hcf, hbs])
 |(apply hK;clear hK K)|refine AWh ‹_› ?_)
          refine ⟨⟨j + 1, true, m.set p (rf.set j true), hc.set xf.1 (.row 4 xf.2 0 true (bvs (rf.set j true)))⟩, ⟨by show j + 1 ≤ _; omega, hk2 rfl rfl rfl, hm'⟩, by show _ - (j + 1) < _ - j; omega, Weak.sym (x := []) (by simp [vl, AutoD.cells, EdgeD.cells]) (hm'.hl.app (by simp [AutoD.cells, EdgeD.cells, vl])) (by simp [vl, AutoD.cells, EdgeD.cells, hlen']; omega)⟩
        · have hkk := hk1 (fun h1 h2 => by
            cases bf
            · exact absurd ⟨by cases h1; rfl, rfl, h2⟩ hall
            · rfl)
          cases bt <;> cases bf <;> cases sb <;> simp only [not_true_eq_false, and_self, and_false, false_and, and_true, true_and, Bool.false_eq_true, reduceCtorEq] at hall
          all_goals
            repeat' (first
 |refine aK fun K hK=>?_|refine Step.by1 ?_|refine sE (by decide) ?_|refine cz rfl ?_|refine Fork.by2 (fun h=>?_) fun h=>?_
 |(refine aR ?_;simp [vl, AutoD.cells, EdgeD.cells, hpp, hqq, hlen, g0, g1, gr, gt, gf, hml, hpl, hpl', hmp, hjt, hjt', w2, hcl, hcl2, hct, hcf])
 |(refine Split.by2 (fun h=>?_) (fun h=>?_)<;>(simp [h, vl, AutoD.cells, EdgeD.cells, hpp, hqq, hlen, g0, g1, gr, gt, gf, hml, hpl, hpl', hmp, hjt, hjt', w2, hcl, hcl2, hct, hcf]))
 |(refine AS_op1 rfl (S_lookupI (l := sm) Tryz.underlying225 Tryz.underlying3 zb4 rfl (by simp [g1, hlen]) rfl hsn) ?_; simp [hget, vl, AutoD.cells, EdgeD.cells, hpp, hqq, hlen, g0, g1, gr, gt, gf, hml, hpl, hpl', hmp, hjt, hjt', w2, hcl, hcl2, hct, hcf])
 |(apply hK;clear hK K)|refine AWh ‹_› ?_)
            refine ⟨⟨j + 1, more, m, hc⟩, ⟨by show j + 1 ≤ _; omega, hkk, hm⟩, by show _ - (j + 1) < _ - j; omega, Weak.sym (x := []) (by simp [vl, AutoD.cells, EdgeD.cells]) (hm.hl.app (by simp [AutoD.cells, EdgeD.cells, vl])) (by simp [vl, AutoD.cells, EdgeD.cells, hlen]; omega)⟩
      · obtain rfl : j = N := by omega
        repeat' (first
 |refine aK fun K hK=>?_|refine Step.by1 ?_|refine sE (by decide) ?_|refine cz rfl ?_|refine Fork.by2 (fun h=>?_) fun h=>?_
 |(refine aR ?_;simp [vl, AutoD.cells, EdgeD.cells, w1])
 |(refine Split.by2 (fun h=>?_) (fun h=>?_)<;>(simp [h, vl, AutoD.cells, EdgeD.cells, w1]))
 |(apply hK;clear hK K)|refine AWh ‹_› ?_)
        refine ⟨⟨k + 1, more, m, hc⟩, ⟨by show k + 1 ≤ _; omega, hp.next, hm⟩, by show _ - (k + 1) < _ - k; omega, Weak.sym (x := [B.var e.cells, B.map (imap sm)]) (by simp [vl, AutoD.cells, EdgeD.cells]) (hm.hl.app (by simp [AutoD.cells, vl])) (by simp [vl, AutoD.cells, EdgeD.cells, hlen]; omega)⟩
  · obtain rfl : k = a.edges.length := by omega
    repeat' (first
 |refine aK fun K hK=>?_|refine Step.by1 ?_|refine sE (by decide) ?_|refine cz rfl ?_|refine Fork.by2 (fun h=>?_) fun h=>?_
 |(refine aR ?_;simp [vl, AutoD.cells])
 |(refine Split.by2 (fun h=>?_) (fun h=>?_)<;>(simp [h, vl, AutoD.cells]))
 |(apply hK;clear hK K)|refine AWh ‹_› ?_)
    exact retg1 ⟨more, m, rfl, hp, hm⟩ rfl (Leaves.symx (by omega) hm.hl)
noncomputable def markV (a : AutoD) (gs : List (List PartD)) (N : Nat) : List (List V) := (List.range a.locs.length).map fun i => [V.vec (bvs (actR a gs N i)) N]
theorem MR.base {h hc : List B} {mr gm N : Nat} {fl : Bool} {ids : List (Nat × Nat)} {m : Marks} (p : MR 144 4 bvs h mr gm fl ids N m hc) : MR 144 4 bvs hc mr gm fl ids N m hc := ⟨p.ne, rfl, p.hl, p.mr, p.ml, p.rows, p.inj, fun _ _ => rfl⟩
theorem MR.over {h hc h' : List B} {mr gm N : Nat} {fl : Bool} {ids : List (Nat × Nat)} {m m' : Marks} (p : MR 144 4 bvs h mr gm fl ids N m hc) (q : MR 144 4 bvs hc mr gm fl ids N m' h') : MR 144 4 bvs h mr gm fl ids N m' h' :=
  ⟨q.ne, q.len.trans p.len, q.hl, q.mr, q.ml, q.rows, q.inj, fun b hb => (q.rest b hb).trans (p.rest b hb)⟩
structure OE where
  k : Nat
  m : Marks
  hc : List B
set_option maxRecDepth 20000 in
set_option maxHeartbeats 16000000 in
theorem c_ofA (n : NetD) (hn : n.ok) (a : AutoD) (ham : a ∈ n.autos) (gs : List (List PartD)) (hgl : gs.length ≤ 1048576) (hgs : ∀ g ∈ gs, okGoal g) (he : lookE n gs = 0) :
    PC 99 [.agg n.cells, .agg a.cells, gsV gs] (.vec (markV a gs n.clocks.length) a.locs.length) := by
  obtain ⟨h0, hgg⟩ := look_ok he
  have hw := netE_whole h0
  have hE := edges_ok hw a ham
  have ha := hn.2.2.2.2 a ham
  have hal := ha.2.1
  have hae := ha.2.2
  have hN := hn.1.1
  have hgA : ∀ x ∈ guardsA a, okG n.clocks.length x := fun x hx => whole_guards hw x (List.mem_flatMap.2 ⟨a, ham, hx⟩)
  have hgI : ∀ l ∈ a.locs, ∀ x ∈ l.inv, okG n.clocks.length x := fun l hl x hx => hgA x (List.mem_append.2 (.inl (List.mem_flatMap.2 ⟨l, hl, hx⟩)))
  have hgE : ∀ e ∈ a.edges, ∀ x ∈ e.guards, okG n.clocks.length x := fun e he x hx => hgA x (List.mem_append.2 (.inr (List.mem_flatMap.2 ⟨e, he, hx⟩)))
  have hgG : ∀ g ∈ gs, ∀ p ∈ g, ∀ x ∈ p.guards, okG n.clocks.length x := fun g hg => goal_guards (hgg g hg)
  refine pB Tryz.func99 rfl (by decide) Tryz.ntmps99 (by simp) Tryz.results99 ?_
  repeat' (first
 |refine aK fun K hK=>?_|refine Step.by1 ?_|refine sE (by decide) ?_|refine cz rfl ?_|refine Fork.by2 (fun h=>?_) fun h=>?_
 |(refine aR ?_;simp [gsV, vl, NetD.cells, AutoD.cells])
 |(refine Split.by2 (fun h=>?_) (fun h=>?_)<;>(simp [h, gsV, vl, NetD.cells, AutoD.cells]))
 |(apply hK;clear hK K)|refine AWh ‹_› ?_)
  refine AW_nilrow 7 144 rfl (by simp) ?_
  refine AW_loopGL [2, 3, 4, 18, 19] (fun i : Nat => [(7, .ref 2 i 0 i), (20, .int .i64 i)]) (fun i => ofH n a gs i) (fun i => i ≤ a.locs.length) (fun i => a.locs.length - i) 0 (Nat.zero_le _)
    (Weak.sym (x := []) (by simp [ofH, refsO, tailB, NetD.cells, AutoD.cells, vl]) (ofH_hl (Nat.zero_le _)) (by simp [vl, AutoD.cells, gsV, ofH])) (fun i hi => by rw [ofH_len hi]; simp) ?_
  intro i hi
  have hH := ofH_len (n := n) (a := a) (gs := gs) hi
  have hHl := ofH_hl (n := n) (a := a) (gs := gs) hi
  by_cases hlt : i < a.locs.length
  · have hnl := ofH_hl (n := n) (a := a) (gs := gs) (i := i + 1) hlt
    have hT := tailB_len (a := a) (gs := gs) (N := n.clocks.length) hi
    have hts := tailB_succ (gs := gs) (N := n.clocks.length) hlt
    have hrl := refsO_len (N := n.clocks.length) (i := i)
    have hrs := refsO_succ (N := n.clocks.length) (i := i)
    obtain ⟨l, hl⟩ : ∃ l, a.locs[i] = l := ⟨_, rfl⟩
    have hlm : l ∈ a.locs := hl ▸ List.getElem_mem hlt
    have hli := (hal.2 l hlm).2.2
    have hlt' : (i : Int) < a.locs.length := by omega
    have w1 : IntKind.i64.wrap ((i : Int) + 1) = i + 1 := wI (by omega) (by omega)
    have hNb : (n.clocks.length : Int) ≤ 281474976710656 := by omega
    have hby : (i + 1) * 24 ≤ 140737488355328 := by omega
    have hLl : ∀ (x : List B) (c : List Bool), (∀ y ∈ x, y.lt 0) → HL (ofH n a gs i ++ .var l.cells :: .row 4 0 0 true (bvs c) :: x) := fun x c hx => hHl.app fun y hy => by
      simp only [List.mem_cons] at hy
      rcases hy with rfl | rfl | hy
      · simp [LocD.cells, vl]
      · exact rowF_lt
      · exact B.lt_mono (Nat.zero_le _) (hx y hy)
    obtain ⟨rr, hrr⟩ : ∃ rr, row0 n.clocks.length l gs = rr := ⟨_, rfl⟩
    rw [hl, hrr] at hts
    unfold row0 at hrr
    simp only [ofH, List.cons_append, List.nil_append] at hLl hH ⊢
    generalize tailB a gs n.clocks.length i = T at *
    generalize refsO n.clocks.length i = rs at *
    generalize hnb : 2 * i = nb at *
    have g0 := fun x : List B => ga0 (x := x) hT
    have g1 := fun (x : List B) (k : Nat) => ga1 (x := x) (k := k) hT
    have s1 := fun (x : List B) (k : Nat) (y : B) => sa1 (x := x) (k := k) (y := y) hT
    have s0 := fun (x : List B) (y : B) => sa0 (x := x) (y := y) hT
    have hwk : ∀ (x : List B) (c : List Bool), (∀ y ∈ x, y.lt 0) → HL (B.var n.cells :: .var a.cells :: .row 144 i 0 (decide (i = 0)) rs :: (T ++ .var l.cells :: .row 4 0 0 true (bvs c) :: x)) := hLl
    repeat' (first
 |refine aK fun K hK=>?_|refine Step.by1 ?_|refine sE (by decide) ?_|refine cz rfl ?_|refine Fork.by2 (fun h=>?_) fun h=>?_
 |(refine aR ?_;simp [gsV, vl, NetD.cells, LocD.cells, hlt, hlt', hl, hT, hNb, g0, g1, s1, bvs_rep])
 |(refine Split.by2 (fun h=>?_) (fun h=>?_)<;>(simp [h, gsV, vl, NetD.cells, LocD.cells, hlt, hlt', hl, hT, hNb, g0, g1, s1, bvs_rep]))
 |(refine aG (f := 162) rfl rfl (c_useH (H := .var n.cells :: .var a.cells :: .row 144 i 0 (decide (i = 0)) rs :: T) (x := []) hH (fun c => hLl [] c (by simp)) (by simp) l.inv hli.1 hN (hgI l hlm)) rfl (fun v h' hq => ?_); obtain ⟨rfl, rfl⟩ := hq; simp)
 |(apply hK;clear hK K)|refine AWh ‹_› ?_)
    refine AW_range (r := rr) gs 34 [2, 3, 4, 7, 10, 18, 19, 20, 32, 33] (fun _ : List Bool => []) (fun c => B.var n.cells :: .var a.cells :: .row 144 i 0 (decide (i = 0)) rs :: (T ++ [B.var l.cells, B.row 4 0 0 true (bvs c)])) (fun _ c => c.length = n.clocks.length) useGs (useL l.inv (List.replicate n.clocks.length false)) hrr (by rw [useL_len]; simp)
      (Weak.sym (x := []) (by simp [NetD.cells, LocD.cells, vl]) (hwk [] _ (by simp)) (by simp [vl, gsV, hT])) (fun _ c _ => by simp) ?_ ?_
    · intro k c g hgk hk hge hJ hF
      rw [useGs_cons] at hF
      obtain ⟨c2, hc2⟩ : ∃ c2, usePs g c = c2 := ⟨_, rfl⟩
      rw [hc2] at hF
      have hgm : g ∈ gs := List.mem_of_getElem? hgk
      have hgo := hgs g hgm
      have hgG2 := hgG g hgm
      have hk' : (k : Int) < gs.length := by omega
      have w2 : IntKind.i64.wrap ((k : Int) + 1) = k + 1 := wI (by omega) (by omega)
      clear hgk hgm
      repeat' (first
 |refine aK fun K hK=>?_|refine Step.by1 ?_|refine sE (by decide) ?_|refine cz rfl ?_|refine Fork.by2 (fun h=>?_) fun h=>?_
 |(refine aR ?_;simp [gsV, vl, hk, hk', hge])
 |(refine Split.by2 (fun h=>?_) (fun h=>?_)<;>(simp [h, gsV, vl, hk, hk', hge]))
 |(apply hK;clear hK K)|refine AWh ‹_› ?_)
      refine AW_range (r := c2) g 40 [2, 3, 4, 7, 10, 18, 19, 20, 32, 33, 34, 38, 39] (fun _ : List Bool => []) (fun c => B.var n.cells :: .var a.cells :: .row 144 i 0 (decide (i = 0)) rs :: (T ++ [B.var l.cells, B.row 4 0 0 true (bvs c)])) (fun _ c => c.length = n.clocks.length) usePs c hc2 hJ
        (Weak.sym (x := []) (by simp [NetD.cells, LocD.cells, vl]) (hwk [] _ (by simp)) (by simp [vl, gsV, hT])) (fun _ c _ => by simp) ?_ ?_
      · intro j c p hpj hj hpe hJ hF2
        rw [usePs_cons] at hF2
        have hpm : p ∈ g := List.mem_of_getElem? hpj
        have hpg := (hgo.2 p hpm).2.1
        have hgG3 := hgG2 p hpm
        have hj' : (j : Int) < g.length := by omega
        have w3 : IntKind.i64.wrap ((j : Int) + 1) = j + 1 := wI (by have := hgo.1; omega) (by have := hgo.1; omega)
        clear hpj hpm
        repeat' (first
 |refine aK fun K hK=>?_|refine Step.by1 ?_|refine sE (by decide) ?_|refine cz rfl ?_|refine Fork.by2 (fun h=>?_) fun h=>?_
 |(refine aR ?_;simp [gsV, vl, PartD.cells, hj, hj', hpe, w3, hT, g0, g1, s1])
 |(refine Split.by2 (fun h=>?_) (fun h=>?_)<;>(simp [h, gsV, vl, PartD.cells, hj, hj', hpe, w3, hT, g0, g1, s1]))
 |(refine aG (f := 162) rfl rfl (c_useH (H := .var n.cells :: .var a.cells :: .row 144 i 0 (decide (i = 0)) rs :: T) (x := [B.var p.cells]) hH (fun c => hLl [B.var p.cells] c (by simp [PartD.cells, vl])) hJ p.guards hpg.1 hN hgG3) rfl (fun v h' hq => ?_); obtain ⟨rfl, rfl⟩ := hq; simp)
 |(apply hK;clear hK K)|refine AWh ‹_› ?_)
        refine ⟨_, hF2, by rw [useL_len]; exact hJ, Weak.sym (x := [B.var p.cells]) (by simp [PartD.cells, vl]) (hwk [] _ (by simp)) (by simp [vl, gsV, hT])⟩
      · intro c hJ hF2
        rw [usePs_nil] at hF2
        subst c
        repeat' (first
 |refine aK fun K hK=>?_|refine Step.by1 ?_|refine sE (by decide) ?_|refine cz rfl ?_|refine Fork.by2 (fun h=>?_) fun h=>?_
 |(refine aR ?_;simp [gsV, vl, w2])
 |(refine Split.by2 (fun h=>?_) (fun h=>?_)<;>(simp [h, gsV, vl, w2]))
 |(apply hK;clear hK K)|refine AWh ‹_› ?_)
        refine ⟨c2, hF, hJ, Weak.sym (x := []) (by simp) (hwk [] _ (by simp)) (by simp [vl, gsV, hT])⟩
    · intro c hJ hF
      rw [useGs_nil] at hF
      subst c
      repeat' (first
 |refine aK fun K hK=>?_|refine Step.by1 ?_|refine sE (by decide) ?_|refine cz rfl ?_|refine Fork.by2 (fun h=>?_) fun h=>?_
 |(refine aR ?_;simp [gsV, vl, NetD.cells, LocD.cells, hT, g0, g1, s1, hrl, hby, w1])
 |(refine Split.by2 (fun h=>?_) (fun h=>?_)<;>(simp [h, gsV, vl, NetD.cells, LocD.cells, hT, g0, g1, s1, hrl, hby, w1]))
 |(apply hK;clear hK K)|refine AWh ‹_› ?_)
      subst hnb
      exact ⟨i + 1, by omega, by omega, Weak.sym (x := [B.row 144 0 0 false [[V.ref (2 * i + 1 + 1 + 1 + 1) 0 0 n.clocks.length]]]) (by simp [hts, hrs, NetD.cells, LocD.cells, vl]) hnl (by simp [vl, gsV])⟩
  · obtain rfl : i = a.locs.length := by omega
    repeat' (first
 |refine aK fun K hK=>?_|refine Step.by1 ?_|refine sE (by decide) ?_|refine cz rfl ?_|refine Fork.by2 (fun h=>?_) fun h=>?_
 |(refine aR ?_;simp [gsV, vl, NetD.cells, AutoD.cells, ofH])
 |(refine Split.by2 (fun h=>?_) (fun h=>?_)<;>(simp [h, gsV, vl, NetD.cells, AutoD.cells, ofH]))
 |(apply hK;clear hK K)|refine AWh ‹_› ?_)
    have hm0 := ofH_mr (n := n) (a := a) (gs := gs)
    have hM0 : MU a gs n.clocks.length 0 (a.locs.map fun l => row0 n.clocks.length l gs) := .init hgI hgG
    have hb1 : (ofH n a gs a.locs.length)[1]? = some (.var a.cells) := by simp [ofH]
    have hu0 : ofH n a gs a.locs.length = B.var n.cells :: .var a.cells :: .row 144 a.locs.length 0 (decide (a.locs.length = 0)) (refsO n.clocks.length a.locs.length) :: tailB a gs n.clocks.length a.locs.length := rfl
    obtain ⟨ids, hids⟩ : ∃ ids, ((List.range a.locs.length).map fun j => (2 * j + 4, 0)) = ids := ⟨_, rfl⟩
    have hil : ids.length = a.locs.length := by rw [← hids]; simp
    have hi1 : ∀ x ∈ ids, x.1 ≠ 1 := by rw [← hids]; intro x hx; obtain ⟨j, _, rfl⟩ := List.mem_map.1 hx; simp
    have hfl : decide (a.locs.length = 0) = true → ids = [] := fun h => List.eq_nil_of_length_eq_zero (by rw [hil]; simpa using h)
    rw [hids] at hm0
    obtain ⟨fl, hf⟩ : ∃ fl, decide (a.locs.length = 0) = fl := ⟨_, rfl⟩
    rw [hf] at hm0 hfl
    generalize ofH n a gs a.locs.length = H0 at *
    have hml : (mrefs ids n.clocks.length).length = a.locs.length := by simp [mrefs, hil]
    refine aL [4, 7, 56, 57] (fun s : OE => [(58, .int .i64 s.k)]) (fun s => s.hc) (fun s => s.k ≤ a.edges.length ∧ MU a gs n.clocks.length s.k s.m ∧ MR 144 4 bvs H0 2 a.locs.length fl ids n.clocks.length s.m s.hc) (fun s => a.edges.length - s.k) ⟨0, _, H0⟩ ⟨Nat.zero_le _, hM0, hm0⟩
      (Weak.sym (x := []) (by simp [hu0, NetD.cells, AutoD.cells, vl]) hm0.hl (by simp [vl, AutoD.cells, hH])) (fun s hs => by rw [hs.2.2.len, hH]; simp [tailB_len]) ?_
    rintro ⟨k, m, hc⟩ ⟨hk, hp, hm⟩
    simp only at hk hp hm
    have hlen := hm.len
    by_cases hkt : k < a.edges.length
    · obtain ⟨e, he⟩ : ∃ e, a.edges[k] = e := ⟨_, rfl⟩
      have he' : a.edges[k]? = some e := by rw [List.getElem?_eq_getElem hkt, he]
      have hem := List.mem_of_getElem? he'
      obtain ⟨⟨f1, f2⟩, t1, t2⟩ := hE e hem
      obtain ⟨p, hpp⟩ := Int.eq_ofNat_of_zero_le f1
      have hpt : e.frm.toNat = p := by omega
      have hkt' : (k : Int) < a.edges.length := by omega
      have w1 : IntKind.i64.wrap ((k : Int) + 1) = k + 1 := wI (by omega) (by omega)
      have hpl : p < a.locs.length := by omega
      have hpl' : (p : Int) < a.locs.length := by omega
      obtain ⟨x, hx, hmp⟩ := hm.at (i := p) (by omega)
      obtain ⟨r, hr, hrl, hrow⟩ := hm.rows p x hx
      have hxl := (List.getElem?_eq_some_iff.1 hrow).1
      have hst := hp.step he' (r := r) f1 (by rw [hpt]; exact hr) (hgE e hem)
      have hup := hm.upd hx (r := useL e.guards r) (by rw [useL_len]; exact hrl)
      have hu := c_use (h := hc ++ [B.var e.cells]) (b := x.1) (g := x.2) (m := r) (hm.hl.app (by simp [EdgeD.cells, vl])) (by rw [get_app hxl]; exact hrow) e.guards (hae.2 e hem).2.2.1.1 (by omega) (by rw [hrl]; exact hgE e hem)
      rw [hrl, set_app hxl] at hu
      simp only [EdgeD.cells, vl, hpp] at hu
      rw [hpt] at hst
      have gr : ∀ y : List B, (hc ++ y)[2]? = some (.row 144 a.locs.length 0 fl (mrefs ids n.clocks.length)) := fun y => by rw [get_app (by omega)]; exact hm.mr
      have g0 := fun x : List B => ga0 (x := x) hlen
      repeat' (first
 |refine aK fun K hK=>?_|refine Step.by1 ?_|refine sE (by decide) ?_|refine cz rfl ?_|refine Fork.by2 (fun h=>?_) fun h=>?_
 |((first|refine aR ?_|refine aX (id:=21) 7 mixed (by decide) ?_);simp [vl, EdgeD.cells, hkt, hkt', he, hpp, hpl, hpl', hml, hmp, gr, g0, hlen, w1])
 |(refine Split.by2 (fun h=>?_) (fun h=>?_)<;>(simp [h, vl, EdgeD.cells, hkt, hkt', he, hpp, hpl, hpl', hml, hmp, gr, g0, hlen, w1]))
 |(refine aG (f := 162) rfl rfl hu rfl (fun v h' hq => ?_); obtain ⟨rfl, rfl⟩ := hq; simp)
 |(apply hK;clear hK K)|refine AWh ‹_› ?_)
      exact ⟨⟨k + 1, _, _⟩, ⟨by show k + 1 ≤ _; omega, hst, hup⟩, by show _ - (k + 1) < _ - k; omega, Weak.sym (x := [B.var e.cells]) (by simp [EdgeD.cells, vl, hpp]) hup.hl (by simp [vl, AutoD.cells, hlen, hH])⟩
    · obtain rfl : k = a.edges.length := by omega
      repeat' (first
 |refine aK fun K hK=>?_|refine Step.by1 ?_|refine sE (by decide) ?_|refine cz rfl ?_|refine Fork.by2 (fun h=>?_) fun h=>?_
 |(refine aR ?_;simp [vl])
 |(refine Split.by2 (fun h=>?_) (fun h=>?_)<;>(simp [h, vl]))
 |(apply hK;clear hK K)|refine AWh ‹_› ?_)
      refine aL [4, 7] (fun s : OE => []) (fun s => s.hc) (fun s => MS a gs n.clocks.length s.m ∧ MR 144 4 bvs H0 2 a.locs.length fl ids n.clocks.length s.m s.hc) (fun s => fM s.m) ⟨0, m, hc⟩ ⟨hp.ms, hm⟩
        (Weak.sym (x := []) (by simp) hm.hl (by simp [hlen, hH])) (fun s hs => by rw [hs.2.len, hlen]) ?_
      clear hp hm hlen
      rintro ⟨_, m, hc⟩ ⟨hs, hm⟩
      simp only at hs hm
      have hsp := c_spread hm.base a ha hE gs hs hN
      have h1 : hc[1]? = some (.var a.cells) := by rw [hm.rest 1 hi1]; exact hb1
      rw [hil] at hsp
      simp only [AutoD.cells, vl] at hsp h1
      repeat' (first
 |refine aK fun K hK=>?_|refine Step.by1 ?_|refine sE (by decide) ?_|refine cz rfl ?_|refine Fork.by2 (fun h=>?_) fun h=>?_
 |(refine aR ?_;simp [h1])
 |(refine Split.by2 (fun h=>?_) (fun h=>?_)<;>(simp [h, h1]))
 |(refine aG (f := 163) rfl rfl hsp rfl (fun v h' hq => ?_); obtain ⟨mo, m2, rfl, hp2, hm2⟩ := hq; cases mo <;> simp)
 |(apply hK;clear hK K)|refine AWh ‹_› ?_)
      · have e2 := (hp2.eq rfl).1
        have hd := hp2.done
        subst m2
        have hcv := hm2.conv (vs := markV a gs n.clocks.length) hfl (by simp [markV, hil]) fun i r hr => by
          have hi : i < a.locs.length := by rw [← hs.len]; exact (List.getElem?_eq_some_iff.1 hr).1
          rw [hs.rows hE hd hr]; simp [markV, hi]
        rw [hil] at hcv
        exact r1q hcv
      · have hm3 := hm.over hm2
        exact ⟨⟨0, m2, h'⟩, ⟨hp2.s, hm3⟩, hp2.lt rfl, Weak.sym (x := []) (by simp) hm3.hl (by simp [hm3.len, hH])⟩
end Go.Proofs.YtgmlimipejcpgaaGreatDoor
end
