/-
  YtgmlimipejcpgaaGreatDoorLj19: steps of the proof of a law of the program: what these texts prove holds under the hypotheses that their theorems name, and no others.
-/
import Derived.Test.YtgmlimipejcpgaaGreatDoorLj18
import Derived.Test.YtgmlimipejcpgaaGreatDoorLj16
import Derived.Test.YtgmlimipejcpgaaGreatDoorLj15
import Derived.Test.YtgmlimipejcpgaaGreatDoorLj10
import Derived.Test.YtgmlimipejcpgaaGreatDoorLj13
section
set_option linter.unusedSimpArgs false
set_option linter.unusedVariables false
namespace Go.Proofs.YtgmlimipejcpgaaGreatDoor
open Go Go.AM Fx
theorem take_map_len {α β : Type} (f : α → β) (l : List α) : (l.map f).take l.length = l.map f := List.take_of_length_le (by simp)
set_option maxRecDepth 8000 in
set_option maxHeartbeats 8000000 in
theorem r_names (n : NetD) (hn : n.ok) : PC 197 [.agg n.cells] (vl strV (allL n)) := by
  obtain ⟨⟨h1, _⟩, ⟨h2, _⟩, ⟨h3, _⟩, h4, h5⟩ := hn
  have hN := r_Names n h2
  have hnl : (namesL n).length ≤ 1048576 := by simp [namesL, h2]
  have hgoal : PC 197 [.agg n.cells] (.own 9 ((allL n).map fun s => [V.str s])) := by
    simp only [vl, NetD.cells] at hN
    generalize hns : namesL n = ns at *
    have t1 := take_map_len (fun s => [V.str s]) n.clocks
    have t2 := take_map_len (fun s => [V.str s]) ns
    have t3 := take_map_len (fun s => [V.str s]) n.chans
    have b1 : n.clocks.length * 16 ≤ 140737488355328 := by omega
    have b2 : (n.clocks.length + ns.length) * 16 ≤ 140737488355328 := by omega
    have b3 : (n.clocks.length + ns.length + n.chans.length) * 16 ≤ 140737488355328 := by omega
    refine pB Tryz.func197 rfl (by decide) Tryz.ntmps197 (by simp) Tryz.results197 ?_
    repeat' (first
 |refine aK fun K hK=>?_|refine Step.by1 ?_|refine sE (by decide) ?_|refine cz rfl ?_|refine Fork.by2 (fun h=>?_) fun h=>?_
 |((first|refine aR ?_|refine aC (f:=222) rfl rfl (hN) rfl rfl rfl ?_);simp [vl, NetD.cells, t1, t2, t3, b1, b2, b3])
 |(refine Split.by2 (fun h=>?_) (fun h=>?_)<;>(simp [h, vl, NetD.cells, t1, t2, t3, b1, b2, b3]))
 |(apply hK;clear hK K)|refine AWh ‹_› ?_)
    refine AW_range n.autos 4 [1] (fun c : Nat × List ByteArray => [(3, .ref 1 c.1 0 c.2.length)]) (fun c => [.var n.cells, .row 9 c.1 0 true (c.2.map fun s => [V.str s])]) (fun i c => c.2.length ≤ 3145728 + i) (catF fun x : AutoD => [x.name]) (3, n.clocks ++ (ns ++ n.chans)) (r := allL n)
      (by simp [catF, allL, hns]; try exact (List.map_eq_flatMap ..).symm) (by simp; omega) (by apply Weak.mk' <;> simp [vl, NetD.cells, Nat.add_assoc]) (fun _ _ _ => rfl) ?_ ?_
    · rintro i ⟨g, out⟩ x _ hlt hx hJ hF
      simp only at hJ
      rw [catF_cons (g + 1)] at hF
      have hby : (out.length + 1) * 16 ≤ 140737488355328 := by omega
      have hlt' : (i : Int) < n.autos.length := by omega
      repeat' (first
 |refine aK fun K hK=>?_|refine Step.by1 ?_|refine sE (by decide) ?_|refine cz rfl ?_|refine Fork.by2 (fun h=>?_) fun h=>?_
 |(refine aR ?_;simp [vl, NetD.cells, AutoD.cells, strV, hlt, hlt', hx, hby, wI];try (simp (disch:=omega) only [wI];try simp [vl, NetD.cells, AutoD.cells, strV, hlt, hlt', hx, hby, wI]))
 |(refine Split.by2 (fun h=>?_) (fun h=>?_)<;>(simp [h, vl, NetD.cells, AutoD.cells, strV, hlt, hlt', hx, hby, wI];try (simp (disch:=omega) only [wI];try simp [vl, NetD.cells, AutoD.cells, strV, hlt, hlt', hx, hby, wI])))
 |(apply hK;clear hK K)|refine AWh ‹_› ?_)
      exact ⟨g + 1, out ++ [x.name], hF, by simp; omega, by apply Weak.mk' <;> simp [vl, NetD.cells, strV]⟩
    · rintro ⟨g, out⟩ hJ hF
      rw [catF_nil] at hF
      simp only at hF
      subst hF
      repeat' (first
 |refine aK fun K hK=>?_|refine Step.by1 ?_|refine sE (by decide) ?_|refine cz rfl ?_|refine Fork.by2 (fun h=>?_) fun h=>?_
 |(refine aR ?_;simp [vl, NetD.cells, strV])
 |(refine Split.by2 (fun h=>?_) (fun h=>?_)<;>(simp [h, vl, NetD.cells, strV]))
 |(apply hK;clear hK K)|refine AWh ‹_› ?_)
      exact r1q (.inr (.inl (conv1_own (xs := (allL n).map fun s => [V.str s]) rfl (by simp))))
  have := hgoal.freeze
  have e : ((allL n).map fun s => [V.str s]).length = (allL n).length := by simp
  rw [e] at this
  exact this
theorem allL_len {n : NetD} (hn : n.ok) : (allL n).length ≤ 4194304 := by
  obtain ⟨⟨h1, _⟩, ⟨h2, _⟩, ⟨h3, _⟩, h4, h5⟩ := hn
  simp [allL, namesL]; omega
theorem allL_size {n : NetD} (hn : n.ok) : ∀ s ∈ allL n, s.size ≤ 1048576 := by
  obtain ⟨⟨_, h1⟩, ⟨_, h2⟩, ⟨_, h3⟩, _, h5⟩ := hn
  intro s hs
  simp only [allL, namesL, List.mem_append, List.mem_map] at hs
  rcases hs with hs | ⟨v, hv, rfl⟩ | hs | ⟨a, ha, rfl⟩
  · exact h1 s hs
  · exact (h2 v hv).1
  · exact h3 s hs
  · exact (h5 a ha).1
set_option maxRecDepth 8000 in
set_option maxHeartbeats 8000000 in
theorem r_wrongNames (n : NetD) (hn : n.ok) : PC 138 [.agg n.cells] (.bool (namesB n)) := by
  have hN := r_names n hn
  have hM := r_named (allL n) (by have := allL_len hn; omega) (allL_size hn)
  obtain ⟨_, _, _, h4, h5⟩ := hn
  obtain ⟨r, hr⟩ : ∃ r, namesB n = r := ⟨_, rfl⟩
  rw [hr]
  unfold namesB at hr
  generalize allL n = al at *
  generalize givenB al = gb at *
  simp only [vl, NetD.cells] at hN hM
  refine pB Tryz.func138 rfl (by decide) Tryz.ntmps138 (by simp) Tryz.results138 ?_
  cases gb
  · repeat' (first
 |refine aK fun K hK=>?_|refine Step.by1 ?_|refine sE (by decide) ?_|refine cz rfl ?_|refine Fork.by2 (fun h=>?_) fun h=>?_
 |((first|refine aR ?_|refine aC (f:=197) rfl rfl (hN) rfl rfl rfl ?_|refine aC (f:=196) rfl rfl (hM) rfl rfl rfl ?_);simp [vl, NetD.cells])
 |(refine Split.by2 (fun h=>?_) (fun h=>?_)<;>(simp [h, vl, NetD.cells]))
 |(apply hK;clear hK K)|refine AWh ‹_› ?_)
    exact r1q (cE (by rw [← hr]; rfl) rfl)
  · repeat' (first
 |refine aK fun K hK=>?_|refine Step.by1 ?_|refine sE (by decide) ?_|refine cz rfl ?_|refine Fork.by2 (fun h=>?_) fun h=>?_
 |((first|refine aR ?_|refine aC (f:=197) rfl rfl (hN) rfl rfl rfl ?_|refine aC (f:=196) rfl rfl (hM) rfl rfl rfl ?_);simp [vl, NetD.cells])
 |(refine Split.by2 (fun h=>?_) (fun h=>?_)<;>(simp [h, vl, NetD.cells]))
 |(apply hK;clear hK K)|refine AWh ‹_› ?_)
    rw [Bool.not_true, Bool.false_or] at hr
    refine aS1 (r := r) n.autos 3 [1] (anyL fun a => !givenB (locNamesL a)) hr (by apply Weak.mk' <;> simp [vl, NetD.cells]) ?_ ?_
    · intro i a _ hlt ha hF
      rw [anC] at hF
      have hoa := h5 a (ha ▸ List.getElem_mem hlt)
      have hal : a.locs.length ≤ 1048576 := hoa.2.1.1
      have hlen : (locNamesL a).length = a.locs.length := by simp [locNamesL]
      have hG := r_named (locNamesL a) (by omega) (fun s hs => by
        simp only [locNamesL, List.mem_map] at hs
        obtain ⟨x, hx, rfl⟩ := hs
        exact (hoa.2.1.2 x hx).1)
      have hlt' : (i : Int) < n.autos.length := by omega
      obtain ⟨ln, hln⟩ : ∃ ln, locNamesL a = ln := ⟨_, rfl⟩
      rw [hln] at hF hlen hG
      have hcat : catF (fun x : LocD => [x.name]) a.locs (0, []) = ln := by rw [← hln]; simp [catF, locNamesL]; try exact (List.map_eq_flatMap ..).symm
      generalize givenB ln = gb at *
      have hnr : IntKind.i64.wrap ((i : Int) + 1) = i + 1 := wI (by omega) (by omega)
      simp only [vl, strV] at hG
      repeat' (first
 |refine AW_nilrow 4 9 rfl (by simp) ?_
 |refine aK fun K hK=>?_|refine Step.by1 ?_|refine sE (by decide) ?_|refine cz rfl ?_|refine Fork.by2 (fun h=>?_) fun h=>?_
 |(refine aR ?_;simp [vl, NetD.cells, hlt, hlt', ha])
 |(refine Split.by2 (fun h=>?_) (fun h=>?_)<;>(simp [h, vl, NetD.cells, hlt, hlt', ha]))
 |(apply hK;clear hK K)|refine AWh ‹_› ?_)
      refine AW_range a.locs 5 [1, 3] (fun c : Nat × List ByteArray => [(4, .ref 1 c.1 0 c.2.length)]) (fun c => [.var n.cells, .row 9 c.1 0 true (c.2.map fun s => [V.str s])]) (fun k c => c.2.length = k) (catF fun x : LocD => [x.name]) (0, []) (r := ln)
        hcat (by simp) (by apply Weak.mk' <;> simp [vl, NetD.cells]) (fun _ _ _ => rfl) ?_ ?_
      · rintro k ⟨g, out⟩ x _ hkt hx hJ hK
        simp only at hJ
        rw [catF_cons (g + 1)] at hK
        have hby : (out.length + 1) * 16 ≤ 140737488355328 := by omega
        have hkt' : (k : Int) < a.locs.length := by omega
        have w1 : IntKind.i64.wrap ((k : Int) + 1) = k + 1 := wI (by omega) (by omega)
        repeat' (first
 |refine aK fun K hK=>?_|refine Step.by1 ?_|refine sE (by decide) ?_|refine cz rfl ?_|refine Fork.by2 (fun h=>?_) fun h=>?_
 |(refine aR ?_;simp [vl, NetD.cells, AutoD.cells, LocD.cells, strV, hlt, hlt', ha, hkt, hkt', hx, hby, w1])
 |(refine Split.by2 (fun h=>?_) (fun h=>?_)<;>(simp [h, vl, NetD.cells, AutoD.cells, LocD.cells, strV, hlt, hlt', ha, hkt, hkt', hx, hby, w1]))
 |(apply hK;clear hK K)|refine AWh ‹_› ?_)
        exact ⟨g + 1, out ++ [x.name], hK, by simp; omega, by apply Weak.mk' <;> simp [vl, NetD.cells, strV]⟩
      · rintro ⟨g, out⟩ hJ hK
        rw [catF_nil] at hK
        simp only at hK
        subst hK
        simp only at hJ
        cases gb
        · repeat' (first
 |refine aK fun K hK=>?_|refine Step.by1 ?_|refine sE (by decide) ?_|refine cz rfl ?_|refine Fork.by2 (fun h=>?_) fun h=>?_
 |(refine aR ?_;simp [vl, NetD.cells, AutoD.cells, strV, hlt, hlt', ha])
 |(refine Split.by2 (fun h=>?_) (fun h=>?_)<;>(simp [h, vl, NetD.cells, AutoD.cells, strV, hlt, hlt', ha]))
 |(refine AS_view 41 rfl rfl (by simp) ?_; simp; refine aC (f := 196) rfl rfl hG rfl rfl rfl ?_; simp)
 |(apply hK;clear hK K)|refine AWh ‹_› ?_)
          exact r1q (cE (by rw [← hF]; rfl) rfl)
        · repeat' (first
 |refine aK fun K hK=>?_|refine Step.by1 ?_|refine sE (by decide) ?_|refine cz rfl ?_|refine Fork.by2 (fun h=>?_) fun h=>?_
 |(refine aR ?_;simp [vl, NetD.cells, AutoD.cells, strV, hlt, hlt', ha, hnr])
 |(refine Split.by2 (fun h=>?_) (fun h=>?_)<;>(simp [h, vl, NetD.cells, AutoD.cells, strV, hlt, hlt', ha, hnr]))
 |(refine AS_view 41 rfl rfl (by simp) ?_; simp; refine aC (f := 196) rfl rfl hG rfl rfl rfl ?_; simp)
 |(apply hK;clear hK K)|refine AWh ‹_› ?_)
          refine ⟨by rw [← hF]; rfl, ?_⟩; apply Weak.mk' <;> simp [vl, NetD.cells]
    · intro hF
      repeat' (first
 |refine aK fun K hK=>?_|refine Step.by1 ?_|refine sE (by decide) ?_|refine cz rfl ?_|refine Fork.by2 (fun h=>?_) fun h=>?_
 |(refine aR ?_;simp [vl, NetD.cells])
 |(refine Split.by2 (fun h=>?_) (fun h=>?_)<;>(simp [h, vl, NetD.cells]))
 |(apply hK;clear hK K)|refine AWh ‹_› ?_)
      exact r1q (cE (by rw [← hF]; rfl) rfl)
theorem kidsBad_succ' {l : List NodeD} {tk : Bool} {q a : Nat} : kidsBad l tk (q + 1) a = ((ktruth (l.getD a default).op != tk) || kidsBad l tk q (endAt l a).toNat) := rfl
theorem nodeBad_iff (k : Int) (x : NodeD) : nodeBad k x = true ↔ (x.op < 1 ∨ 14 < x.op ∨ (x.op = 1 ∧ (x.n < 0 ∨ 1048576 < x.n)) ∨ (x.op = 2 ∧ (x.n < 0 ∨ k ≤ x.n)) ∨ (x.op ≠ 1 ∧ x.op ≠ 2 ∧ x.n ≠ 0)) := by
  unfold nodeBad known
  simp only [Bool.or_eq_true, Bool.not_eq_true', decide_eq_false_iff_not, decide_eq_true_eq]
  by_cases h1 : x.op = 1
  · rw [if_pos h1]; omega
  · rw [if_neg h1]
    by_cases h2 : x.op = 2
    · rw [if_pos h2]; split <;> omega
    · rw [if_neg h2]; omega
set_option maxRecDepth 40000 in
set_option maxHeartbeats 8000000 in
theorem r_Right (l : List NodeD) (k : Int) (hl : l.length ≤ 1048576) : PC 202 [vl NodeD.cells l, .int .i64 k] (.int .i64 (rightE l k)) := by
  have hend := r_End l hl 0 (by omega)
  have hb121 := fun i hi h => rightE_bad (l := l) (k := k) (i := i) hi h
  have hg0 := rightE_good (l := l) (k := k)
  have hend' := fun j (hj : j ≤ 1099511627776) => r_End l hl j hj
  by_cases hs : l.length = 0 ∨ 64 < l.length ∨ endAt l 0 ≠ l.length
  · have hr : rightE l k = 121 := by unfold rightE; rw [if_pos hs]
    rw [hr]
    simp only [vl] at hend
    generalize endAt l 0 = e0 at *
    refine pB Tryz.func202 rfl (by decide) Tryz.ntmps202 (by simp) Tryz.results202 ?_
    repeat' (first
 |refine aK fun K hK=>?_|refine Step.by1 ?_|refine sE (by decide) ?_|refine cz rfl ?_|refine Fork.by2 (fun h=>?_) fun h=>?_
 |((first|refine aR ?_|refine aC (f:=223) rfl rfl (hend) rfl rfl rfl ?_);simp [vl])
 |(refine Split.by2 (fun h=>?_) (fun h=>?_)<;>(simp [h, vl]))
 |(apply hK;clear hK K)|refine AWh ‹_› ?_)
    all_goals first
      | exact r1q (cE rfl rfl)
      | (exfalso; omega)
      | (exfalso; rcases hs with h' | h' | h'; exact absurd (List.eq_nil_of_length_eq_zero h') (by assumption); omega; omega)
  · have hg := hg0 hs
    obtain ⟨s1, s2, s3⟩ : ¬ (l.length : Int) = 0 ∧ ¬ (64 : Int) < l.length ∧ endAt l 0 = l.length := by
      refine ⟨by omega, by omega, ?_⟩
      by_cases h : endAt l 0 = l.length
      · exact h
      · exact absurd (.inr (.inr h)) hs
    have w := whole_of (by omega) s3
    rw [s3] at hend
    simp only [vl] at hend hend'
    obtain ⟨r, hr⟩ : ∃ r, rightE l k = r := ⟨_, rfl⟩
    rw [hr] at hb121 hg ⊢
    have s4 : ¬ l.length = 0 := by omega
    have s5 : ¬ 64 < l.length := by omega
    refine pB Tryz.func202 rfl (by decide) Tryz.ntmps202 (by simp) Tryz.results202 ?_
    repeat' (first
 |refine aK fun K hK=>?_|refine Step.by1 ?_|refine sE (by decide) ?_|refine cz rfl ?_|refine Fork.by2 (fun h=>?_) fun h=>?_
 |((first|refine aR ?_|refine aC (f:=223) rfl rfl (hend) rfl rfl rfl ?_);simp [vl, s1, s2, s4, s5])
 |(refine Split.by2 (fun h=>?_) (fun h=>?_)<;>(simp [h, vl, s1, s2, s4, s5]))
 |(apply hK;clear hK K)|refine AWh ‹_› ?_)
    refine aL [0, 1] (fun i : Nat => [(5, .int .i64 i)]) (fun _ => []) (fun i => i ≤ l.length ∧ ∀ j, j < i → rightAt l k j = false) (fun i => l.length - i) 0 ⟨Nat.zero_le _, fun j hj => by omega⟩ (by apply Weak.mk' <;> simp [vl]) (fun _ _ => rfl) ?_
    rintro i ⟨hi, hpre⟩
    by_cases hlt : i < l.length
    · have hbad := hb121 i hlt
      have hN := w.pos i hlt
      have hN1 := numN_succ hlt
      obtain ⟨x, hx⟩ : ∃ x, l[i] = x := ⟨_, rfl⟩
      have hgd : l.getD i default = x := by simp [List.getD, hlt, hx]
      have hra : rightAt l k i = (nodeBad k x || kidsBad l (ktakes x.op) (kparts x.op).toNat (i + 1)) := by unfold rightAt; rw [hgd]
      have hkp := kparts_le x.op
      have hnb := nodeBad_iff k x
      rw [hx] at hN1
      have hlt' : (i : Int) < l.length := by omega
      by_cases hB : nodeBad k x = true
      · have hr1 := hbad (by rw [hra, hB]; rfl)
        have hB' := hnb.1 hB
        repeat' (first
 |refine aK fun K hK=>?_|refine Step.by1 ?_|refine sE (by decide) ?_|refine cz rfl ?_|refine Fork.by2 (fun h=>?_) fun h=>?_
 |(refine aR ?_;simp [vl, NodeD.cells, hlt, hlt', hx, wI];try (simp (disch:=omega) only [wI];try simp [vl, NodeD.cells, hlt, hlt', hx, wI]))
 |(refine Split.by2 (fun h=>?_) (fun h=>?_)<;>(simp [h, vl, NodeD.cells, hlt, hlt', hx, wI];try (simp (disch:=omega) only [wI];try simp [vl, NodeD.cells, hlt, hlt', hx, wI])))
 |(apply hK;clear hK K)|refine AWh ‹_› ?_)
        all_goals first
          | exact r1q (cE (by simp [hr1]) rfl)
          | (exfalso; omega)
      · have hB' := mt hnb.2 hB
        have hnf : nodeBad k x = false := by simpa using hB
        rw [hnf, Bool.false_or] at hra
        have hpt := r_parts x.op
        have hnm := r_numbers x.op
        have htn := ktakes_knum (o := x.op)
        obtain ⟨p, hp⟩ := Int.eq_ofNat_of_zero_le hkp.1
        rw [hp] at hN1 hra hpt htn
        simp only [Int.toNat_natCast] at hra
        obtain ⟨tk, htk⟩ : ∃ tk, ktakes x.op = tk := ⟨_, rfl⟩
        rw [htk] at hra htn
        repeat' (first
 |refine AW_mid (id := 10) ⟨102, [(0, vl NodeD.cells l), (1, .int .i64 k), (5, .int .i64 i), (6, .int .u8 x.op)], []⟩ (Hold.mk ?_) (Hold.mk ?_)
 |refine aK fun K hK=>?_|refine Step.by1 ?_|refine sE (by decide) ?_|refine cz rfl ?_|refine Fork.by2 (fun h=>?_) fun h=>?_
 |(refine aR ?_;simp [vl, NodeD.cells, hlt, hlt', hx, wI];try (simp (disch:=omega) only [wI];try simp [vl, NodeD.cells, hlt, hlt', hx, wI]))
 |(refine Split.by2 (fun h=>?_) (fun h=>?_)<;>(simp [h, vl, NodeD.cells, hlt, hlt', hx, wI];try (simp (disch:=omega) only [wI];try simp [vl, NodeD.cells, hlt, hlt', hx, wI])))
 |(apply hK;clear hK K)|refine AWh ‹_› ?_)
        all_goals (try (exfalso; omega))
        · refine Hold.out ?_
          repeat' (first
 |refine aK fun K hK=>?_|refine Step.by1 ?_|refine sE (by decide) ?_|refine cz rfl ?_|refine Fork.by2 (fun h=>?_) fun h=>?_
 |(refine aR ?_;simp [vl])
 |(refine Split.by2 (fun h=>?_) (fun h=>?_)<;>(simp [h, vl]))
 |refine SMeet_ret ?_
 |refine SMeet_exit ?_
 |(apply hK;clear hK K)|refine AWh ‹_› ?_)
          all_goals first
            | (exfalso; omega)
            | (refine SMeet_normal ?_ rfl; apply Weak.mk' <;> simp [vl] <;> omega)
        · refine Hold.out ?_
          have w1 : IntKind.i64.wrap ((i : Int) + 1) = i + 1 := wI (by omega) (by omega)
          repeat' (first
 |refine aK fun K hK=>?_|refine Step.by1 ?_|refine sE (by decide) ?_|refine cz rfl ?_|refine Fork.by2 (fun h=>?_) fun h=>?_
 |(refine aR ?_;simp [vl, w1])
 |(refine Split.by2 (fun h=>?_) (fun h=>?_)<;>(simp [h, vl, w1]))
 |(apply hK;clear hK K)|refine AWh ‹_› ?_)
          refine aL [0, 1, 5, 6] (fun s : Nat × Nat => [(9, .int .i64 (s.1 : Int)), (8, .int .i64 (s.2 : Int))]) (fun _ => []) (fun s => s.1 ≤ p ∧ s.2 ≤ l.length ∧ ((p : Int) - s.1) ≤ numN l s.2 ∧ kidsBad l tk (p - s.1) s.2 = kidsBad l tk p (i + 1)) (fun s => p - s.1) (0, i + 1) ⟨Nat.zero_le _, (by simp only; omega), (by simp only; omega), rfl⟩ (by apply Weak.mk' <;> simp [vl]) (fun _ _ => rfl) ?_
          rintro ⟨q, a⟩ ⟨j1, j2, j3, j4⟩
          simp only at j1 j2 j3 j4
          by_cases hq : q < p
          · have hq' : (q : Int) < p := by omega
            have hal : a < l.length := by
              rcases Nat.lt_or_ge a l.length with h' | h'
              · exact h'
              · have h2 := w.zero
                rw [show a = l.length by omega] at j3
                omega
            obtain ⟨e, he1, he2, he3, he4⟩ := whole_end w hal
            have hce := hend' a (by omega)
            rw [he1] at hce
            obtain ⟨y, hy⟩ : ∃ y, l[a] = y := ⟨_, rfl⟩
            have hcy := r_truth y.op
            rw [show p - q = (p - (q + 1)) + 1 by omega] at j4
            rw [kidsBad_succ'] at j4
            rw [show l.getD a default = y by simp [List.getD, hal, hy], he1, Int.toNat_natCast] at j4
            have hal' : (a : Int) < l.length := by omega
            have htk2 : tk = !knum x.op := htn (by omega)
            generalize knum x.op = kn at *
            generalize ktruth y.op = ty at *
            by_cases hty : ty = tk
            · have hbt : (ty == kn) = false := by rw [hty, htk2]; cases kn <;> rfl
              rw [show (ty != tk) = false by simp [hty], Bool.false_or] at j4
              repeat' (first
 |refine aK fun K hK=>?_|refine Step.by1 ?_|refine sE (by decide) ?_|refine cz rfl ?_|refine Fork.by2 (fun h=>?_) fun h=>?_
 |((first|refine aR ?_|refine aX (id:=16) 9 mixed (by decide) ?_|refine aP1 (f:=225) rfl rfl (hcy) rfl rfl rfl ?_|refine aP1 (f:=226) rfl rfl (hnm) rfl rfl rfl ?_|refine aC (f:=225) rfl rfl (hcy) rfl rfl rfl ?_|refine aC (f:=226) rfl rfl (hnm) rfl rfl rfl ?_|refine aC (f:=224) rfl rfl (hpt) rfl rfl rfl ?_|refine aC (f:=223) rfl rfl (hce) rfl rfl rfl ?_);simp [vl, NodeD.cells, hq, hq', hal, hal', hy, hbt, wI];try (simp (disch:=omega) only [wI];try simp [vl, NodeD.cells, hq, hq', hal, hal', hy, hbt, wI]))
 |(refine Split.by2 (fun h=>?_) (fun h=>?_)<;>(simp [h, vl, NodeD.cells, hq, hq', hal, hal', hy, hbt, wI];try (simp (disch:=omega) only [wI];try simp [vl, NodeD.cells, hq, hq', hal, hal', hy, hbt, wI])))
 |(apply hK;clear hK K)|refine AWh ‹_› ?_)
              refine ⟨q + 1, e, ⟨by omega, he3, by push_cast; omega, j4⟩, by omega, ?_⟩
              apply Weak.mk' <;> simp [vl]
            · have hbt : (ty == kn) = true := by rw [htk2] at hty; cases kn <;> cases ty <;> simp_all
              rw [show (ty != tk) = true by simp [hty], Bool.true_or] at j4
              rw [← j4] at hra
              have hr1 := hbad hra
              repeat' (first
 |refine aK fun K hK=>?_|refine Step.by1 ?_|refine sE (by decide) ?_|refine cz rfl ?_|refine Fork.by2 (fun h=>?_) fun h=>?_
 |((first|refine aR ?_|refine aX (id:=16) 9 mixed (by decide) ?_|refine aP1 (f:=225) rfl rfl (hcy) rfl rfl rfl ?_|refine aP1 (f:=226) rfl rfl (hnm) rfl rfl rfl ?_|refine aC (f:=225) rfl rfl (hcy) rfl rfl rfl ?_|refine aC (f:=226) rfl rfl (hnm) rfl rfl rfl ?_|refine aC (f:=224) rfl rfl (hpt) rfl rfl rfl ?_);simp [vl, NodeD.cells, hq, hq', hal, hal', hy, hbt, wI];try (simp (disch:=omega) only [wI];try simp [vl, NodeD.cells, hq, hq', hal, hal', hy, hbt, wI]))
 |(refine Split.by2 (fun h=>?_) (fun h=>?_)<;>(simp [h, vl, NodeD.cells, hq, hq', hal, hal', hy, hbt, wI];try (simp (disch:=omega) only [wI];try simp [vl, NodeD.cells, hq, hq', hal, hal', hy, hbt, wI])))
 |(apply hK;clear hK K)|refine AWh ‹_› ?_)
              exact r1q (cE (by simp [hr1]) rfl)
          · have hqe : q = p := by omega
            subst hqe
            rw [Nat.sub_self] at j4
            rw [← j4] at hra
            have hra' : rightAt l k i = false := hra
            repeat' (first
 |refine aK fun K hK=>?_|refine Step.by1 ?_|refine sE (by decide) ?_|refine cz rfl ?_|refine Fork.by2 (fun h=>?_) fun h=>?_
 |((first|refine aR ?_|refine aC (f:=224) rfl rfl (hpt) rfl rfl rfl ?_);simp [vl, NodeD.cells, wI];try (simp (disch:=omega) only [wI];try simp [vl, NodeD.cells, wI]))
 |(refine Split.by2 (fun h=>?_) (fun h=>?_)<;>(simp [h, vl, NodeD.cells, wI];try (simp (disch:=omega) only [wI];try simp [vl, NodeD.cells, wI])))
 |(apply hK;clear hK K)|refine AWh ‹_› ?_)
            refine ⟨i + 1, ⟨by omega, fun j hj => ?_⟩, by omega, ?_⟩
            · rcases Nat.lt_or_ge j i with h' | h'
              · exact hpre j h'
              · rw [show j = i by omega]; exact hra'
            · apply Weak.mk' <;> simp [vl]
    · have hie : i = l.length := by omega
      subst hie
      have hr0 := hg hpre
      repeat' (first
 |refine aK fun K hK=>?_|refine Step.by1 ?_|refine sE (by decide) ?_|refine cz rfl ?_|refine Fork.by2 (fun h=>?_) fun h=>?_
 |(refine aR ?_;simp [vl, hlt])
 |(refine Split.by2 (fun h=>?_) (fun h=>?_)<;>(simp [h, vl, hlt]))
 |(apply hK;clear hK K)|refine AWh ‹_› ?_)
      exact r1q (cE (by simp [hr0]) rfl)
set_option maxRecDepth 8000 in
set_option maxHeartbeats 8000000 in
theorem r_long (n : NetD) (hn : n.ok) : PC 137 [.agg n.cells] (.bool (sizeNet n)) := by
  obtain ⟨⟨h1, _⟩, ⟨h2, _⟩, ⟨h3, _⟩, h4, h5⟩ := hn
  refine pB Tryz.func137 rfl (by decide) Tryz.ntmps137 (by simp) Tryz.results137 ?_
  by_cases h0 : 8 < n.clocks.length ∨ 16 < n.vars.length ∨ 16 < n.chans.length ∨ 8 < n.autos.length
  · have hs : sizeNet n = true := by simp [sizeNet, h0]
    repeat' (first
 |refine aK fun K hK=>?_|refine Step.by1 ?_|refine sE (by decide) ?_|refine cz rfl ?_|refine Fork.by2 (fun h=>?_) fun h=>?_
 |(refine aR ?_;simp [vl, NetD.cells])
 |(refine Split.by2 (fun h=>?_) (fun h=>?_)<;>(simp [h, vl, NetD.cells]))
 |(apply hK;clear hK K)|refine AWh ‹_› ?_)
    all_goals first
      | exact r1q (cE (by simp [hs]) rfl)
      | (exfalso; omega)
  · have hs : sizeNet n = anyL sizeAuto n.autos := by simp [sizeNet, h0]
    have k1 : ¬ (8 : Int) < n.clocks.length := by omega
    have k2 : ¬ (16 : Int) < n.vars.length := by omega
    have k3 : ¬ (16 : Int) < n.chans.length := by omega
    have k4 : ¬ (8 : Int) < n.autos.length := by omega
    rw [hs]
    repeat' (first
 |refine aK fun K hK=>?_|refine Step.by1 ?_|refine sE (by decide) ?_|refine cz rfl ?_|refine Fork.by2 (fun h=>?_) fun h=>?_
 |(refine aR ?_;simp [vl, NetD.cells, k1, k2, k3, k4])
 |(refine Split.by2 (fun h=>?_) (fun h=>?_)<;>(simp [h, vl, NetD.cells, k1, k2, k3, k4]))
 |(apply hK;clear hK K)|refine AWh ‹_› ?_)
    refine aS1 (n.autos) 3 [1] (anyL sizeAuto) rfl (by apply Weak.mk' <;> simp [vl]) ?_ ?_
    · intro i a _ hlt ha hF
      have hoa := h5 a (ha ▸ List.getElem_mem hlt)
      obtain ⟨_, ⟨hl1, hl2⟩, he1, he2⟩ := hoa
      rw [anC] at hF
      by_cases hA : 64 < a.locs.length ∨ 256 < a.edges.length
      · have hA' : sizeAuto a = true := by simp [sizeAuto, hA]
        rw [hA', Bool.true_or] at hF
        repeat' (first
 |refine aK fun K hK=>?_|refine Step.by1 ?_|refine sE (by decide) ?_|refine cz rfl ?_|refine Fork.by2 (fun h=>?_) fun h=>?_
 |(refine aR ?_;simp [vl, AutoD.cells, hlt, ha, wI];try (simp (disch:=omega) only [wI];try simp [vl, AutoD.cells, hlt, ha, wI]))
 |(refine Split.by2 (fun h=>?_) (fun h=>?_)<;>(simp [h, vl, AutoD.cells, hlt, ha, wI];try (simp (disch:=omega) only [wI];try simp [vl, AutoD.cells, hlt, ha, wI])))
 |(apply hK;clear hK K)|refine AWh ‹_› ?_)
        all_goals first
          | exact r1q (cE (by rw [← hF]; rfl) rfl)
          | (exfalso; omega)
      · have hA' : sizeAuto a = (anyL sizeLoc a.locs || anyL sizeEdge a.edges) := by simp [sizeAuto, hA]
        have j1 : ¬ (64 : Int) < a.locs.length := by omega
        have j2 : ¬ (256 : Int) < a.edges.length := by omega
        rw [hA'] at hF
        repeat' (first
 |refine aK fun K hK=>?_|refine Step.by1 ?_|refine sE (by decide) ?_|refine cz rfl ?_|refine Fork.by2 (fun h=>?_) fun h=>?_
 |(refine aR ?_;simp [vl, AutoD.cells, hlt, ha, j1, j2, wI];try (simp (disch:=omega) only [wI];try simp [vl, AutoD.cells, hlt, ha, j1, j2, wI]))
 |(refine Split.by2 (fun h=>?_) (fun h=>?_)<;>(simp [h, vl, AutoD.cells, hlt, ha, j1, j2, wI];try (simp (disch:=omega) only [wI];try simp [vl, AutoD.cells, hlt, ha, j1, j2, wI])))
 |(apply hK;clear hK K)|refine AWh ‹_› ?_)
        refine aS1 (a.locs) 5 [1, 3, 4] (anyL sizeLoc) rfl (by apply Weak.mk' <;> simp [vl]) ?_ ?_
        · intro k x _ hkt hx hG
          rw [anC] at hG
          repeat' (first
 |refine aK fun K hK=>?_|refine Step.by1 ?_|refine sE (by decide) ?_|refine cz rfl ?_|refine Fork.by2 (fun h=>?_) fun h=>?_
 |(refine aR ?_;simp [vl, LocD.cells, hkt, hx, wI];try (simp (disch:=omega) only [wI];try simp [vl, LocD.cells, hkt, hx, wI]))
 |(refine Split.by2 (fun h=>?_) (fun h=>?_)<;>(simp [h, vl, LocD.cells, hkt, hx, wI];try (simp (disch:=omega) only [wI];try simp [vl, LocD.cells, hkt, hx, wI])))
 |(apply hK;clear hK K)|refine AWh ‹_› ?_)
          all_goals first
            | exact r1q (cE (by rw [← hF, ← hG]; simp [sizeLoc]; omega) rfl)
            | (refine ⟨by rw [← hG]; simp [sizeLoc]; omega, ?_⟩; apply Weak.mk' <;> simp [vl])
        · intro hG
          rw [← hG, anyL_nil, Bool.false_or] at hF
          repeat' (first
 |refine aK fun K hK=>?_|refine Step.by1 ?_|refine sE (by decide) ?_|refine cz rfl ?_|refine Fork.by2 (fun h=>?_) fun h=>?_
 |(refine aR ?_;simp [vl, wI];try (simp (disch:=omega) only [wI];try simp [vl, wI]))
 |(refine Split.by2 (fun h=>?_) (fun h=>?_)<;>(simp [h, vl, wI];try (simp (disch:=omega) only [wI];try simp [vl, wI])))
 |(apply hK;clear hK K)|refine AWh ‹_› ?_)
          refine aS1 (a.edges) 6 [1, 3, 4] (anyL sizeEdge) rfl (by apply Weak.mk' <;> simp [vl]) ?_ ?_
          · intro m y _ hmt hy hM
            have hoy := he2 y (hy ▸ List.getElem_mem hmt)
            have ok7 := hoy.2.2.2.2.2.2.1
            rw [anC] at hM
            by_cases hY : 16 < y.guards.length ∨ 16 < y.sets.length ∨ 64 < y.test.length
            · have hY' : sizeEdge y = true := by simp [sizeEdge, hY]
              rw [hY', Bool.true_or] at hM
              rw [← hM] at hF
              repeat' (first
 |refine aK fun K hK=>?_|refine Step.by1 ?_|refine sE (by decide) ?_|refine cz rfl ?_|refine Fork.by2 (fun h=>?_) fun h=>?_
 |(refine aR ?_;simp [vl, EdgeD.cells, hmt, hy, wI];try (simp (disch:=omega) only [wI];try simp [vl, EdgeD.cells, hmt, hy, wI]))
 |(refine Split.by2 (fun h=>?_) (fun h=>?_)<;>(simp [h, vl, EdgeD.cells, hmt, hy, wI];try (simp (disch:=omega) only [wI];try simp [vl, EdgeD.cells, hmt, hy, wI])))
 |(apply hK;clear hK K)|refine AWh ‹_› ?_)
              all_goals first
                | exact r1q (cE (by rw [← hF]; simp) rfl)
                | (exfalso; omega)
            · have hY' : sizeEdge y = anyL sizeSet y.sets := by simp [sizeEdge, hY]
              have i1 : ¬ (16 : Int) < y.guards.length := by omega
              have i2 : ¬ (16 : Int) < y.sets.length := by omega
              have i3 : ¬ (64 : Int) < y.test.length := by omega
              rw [hY'] at hM
              repeat' (first
 |refine aK fun K hK=>?_|refine Step.by1 ?_|refine sE (by decide) ?_|refine cz rfl ?_|refine Fork.by2 (fun h=>?_) fun h=>?_
 |(refine aR ?_;simp [vl, EdgeD.cells, hmt, hy, i1, i2, i3, wI];try (simp (disch:=omega) only [wI];try simp [vl, EdgeD.cells, hmt, hy, i1, i2, i3, wI]))
 |(refine Split.by2 (fun h=>?_) (fun h=>?_)<;>(simp [h, vl, EdgeD.cells, hmt, hy, i1, i2, i3, wI];try (simp (disch:=omega) only [wI];try simp [vl, EdgeD.cells, hmt, hy, i1, i2, i3, wI])))
 |(apply hK;clear hK K)|refine AWh ‹_› ?_)
              refine aS1 (y.sets) 8 [1, 3, 4, 6, 7] (anyL sizeSet) rfl (by apply Weak.mk' <;> simp [vl]) ?_ ?_
              · intro q z _ hqt hz hQ
                rw [anC] at hQ
                repeat' (first
 |refine aK fun K hK=>?_|refine Step.by1 ?_|refine sE (by decide) ?_|refine cz rfl ?_|refine Fork.by2 (fun h=>?_) fun h=>?_
 |(refine aR ?_;simp [vl, SetD.cells, hqt, hz, wI];try (simp (disch:=omega) only [wI];try simp [vl, SetD.cells, hqt, hz, wI]))
 |(refine Split.by2 (fun h=>?_) (fun h=>?_)<;>(simp [h, vl, SetD.cells, hqt, hz, wI];try (simp (disch:=omega) only [wI];try simp [vl, SetD.cells, hqt, hz, wI])))
 |(apply hK;clear hK K)|refine AWh ‹_› ?_)
                all_goals first
                  | exact r1q (cE (by rw [← hF, ← hM, ← hQ]; simp [sizeSet]; omega) rfl)
                  | (refine ⟨by rw [← hQ]; simp [sizeSet]; omega, ?_⟩; apply Weak.mk' <;> simp [vl])
              · intro hQ
                rw [← hQ, anyL_nil, Bool.false_or] at hM
                repeat' (first
 |refine aK fun K hK=>?_|refine Step.by1 ?_|refine sE (by decide) ?_|refine cz rfl ?_|refine Fork.by2 (fun h=>?_) fun h=>?_
 |(refine aR ?_;simp [vl, wI];try (simp (disch:=omega) only [wI];try simp [vl, wI]))
 |(refine Split.by2 (fun h=>?_) (fun h=>?_)<;>(simp [h, vl, wI];try (simp (disch:=omega) only [wI];try simp [vl, wI])))
 |(apply hK;clear hK K)|refine AWh ‹_› ?_)
                all_goals first
                  | (refine ⟨hM, ?_⟩; apply Weak.mk' <;> simp [vl])
          · intro hM
            rw [← hM, anyL_nil, Bool.false_or] at hF
            repeat' (first
 |refine aK fun K hK=>?_|refine Step.by1 ?_|refine sE (by decide) ?_|refine cz rfl ?_|refine Fork.by2 (fun h=>?_) fun h=>?_
 |(refine aR ?_;simp [vl, wI];try (simp (disch:=omega) only [wI];try simp [vl, wI]))
 |(refine Split.by2 (fun h=>?_) (fun h=>?_)<;>(simp [h, vl, wI];try (simp (disch:=omega) only [wI];try simp [vl, wI])))
 |(apply hK;clear hK K)|refine AWh ‹_› ?_)
            all_goals first
              | (refine ⟨hF, ?_⟩; apply Weak.mk' <;> simp [vl])
    · intro hF
      repeat' (first
 |refine aK fun K hK=>?_|refine Step.by1 ?_|refine sE (by decide) ?_|refine cz rfl ?_|refine Fork.by2 (fun h=>?_) fun h=>?_
 |(refine aR ?_;simp [vl])
 |(refine Split.by2 (fun h=>?_) (fun h=>?_)<;>(simp [h, vl]))
 |(apply hK;clear hK K)|refine AWh ‹_› ?_)
      exact r1q (cE (by rw [← hF]; rfl) rfl)
theorem r_IsTruthB (l : List NodeD) : PC 203 [vl NodeD.cells l] (.bool (isTruthB l)) := by
  have := r_IsTruth l
  cases l <;> exact this
set_option maxHeartbeats 4000000 in
theorem r_testless (n : NetD) (l : List NodeD) (hl : l.length ≤ 1048576) : PC 154 [.agg n.cells, vl NodeD.cells l] (.bool (truthBad n l)) := by
  have hR := r_Right l n.vars.length hl
  have hT := r_IsTruthB l
  obtain ⟨r, hr⟩ : ∃ r, truthBad n l = r := ⟨_, rfl⟩
  rw [hr]
  unfold truthBad at hr
  simp only [vl] at hR hT
  generalize rightE l n.vars.length = q at *
  generalize isTruthB l = tb at *
  refine pB Tryz.func154 rfl (by decide) Tryz.ntmps154 (by simp) Tryz.results154 ?_
  repeat' (first
 |refine aK fun K hK=>?_|refine Step.by1 ?_|refine sE (by decide) ?_|refine cz rfl ?_|refine Fork.by2 (fun h=>?_) fun h=>?_
 |((first|refine aR ?_|refine aC (f:=202) rfl rfl (hR) rfl rfl rfl ?_|refine aC (f:=203) rfl rfl (hT) rfl rfl rfl ?_);simp [vl, NetD.cells])
 |(refine Split.by2 (fun h=>?_) (fun h=>?_)<;>(simp [h, vl, NetD.cells]))
 |(apply hK;clear hK K)|refine AWh ‹_› ?_)
  all_goals (try clear hR hT)
  all_goals first
    | exact r1q (cE (by rw [← hr]; simp [*]; done) rfl)
    | exact r1q (cE (by rw [← hr]; simp [*]; omega) rfl)
theorem clkS_eq (n : NetD) (s : SetD) : clkS n s = decide (s.clock < 0 ∨ (n.clocks.length : Int) < s.clock) := by
  rw [Bool.eq_iff_iff]
  simp only [clkS, isClk, Bool.and_eq_true, Bool.not_eq_true', decide_eq_true_eq, decide_eq_false_iff_not]
  omega
set_option maxRecDepth 20000 in
set_option maxHeartbeats 16000000 in
theorem r_edge (n : NetD) (a : AutoD) (e : EdgeD) (way : Int) (he : e.ok) : PC 198 [.agg n.cells, .agg a.cells, .agg e.cells, .int .i64 way] (.bool (edgeW n a way e)) := by
  obtain ⟨_, _, _, ⟨ht1, ht2⟩, _, _, hs1, hs2⟩ := he
  obtain ⟨r, hr⟩ : ∃ r, edgeW n a way e = r := ⟨_, rfl⟩
  rw [hr]
  unfold edgeW at hr
  by_cases h123 : way = 123
  · subst h123
    rw [if_pos rfl] at hr
    have hE : edgeB n a e = decide (e.frm < 0 ∨ (a.locs.length : Int) ≤ e.frm ∨ e.to < 0 ∨ (a.locs.length : Int) ≤ e.to ∨ e.chan < 0 ∨ (n.chans.length : Int) < e.chan ∨ (e.chan = 0 ∧ e.send = true)) := by
      rw [Bool.eq_iff_iff]
      simp only [edgeB, isLoc, Bool.or_eq_true, Bool.and_eq_true, Bool.not_eq_true', decide_eq_true_eq, decide_eq_false_iff_not]
      constructor
      · rintro (h | h | h | h)
        · omega
        · omega
        · omega
        · exact .inr (.inr (.inr (.inr (.inr (.inr ⟨h.2, h.1⟩)))))
      · rintro (h | h | h | h | h | h | h)
        · left; omega
        · left; omega
        · right; left; omega
        · right; left; omega
        · right; right; left; omega
        · right; right; left; omega
        · right; right; right; exact ⟨h.2, h.1⟩
    rw [hE] at hr
    refine pB Tryz.func198 rfl (by decide) Tryz.ntmps198 (by simp) Tryz.results198 ?_
    have hnn : ¬ (n.chans.length : Int) < 0 := by omega
    repeat' (first
 |refine aK fun K hK=>?_|refine Step.by1 ?_|refine sE (by decide) ?_|refine cz rfl ?_|refine Fork.by2 (fun h=>?_) fun h=>?_
 |(refine aR ?_;simp [vl, NetD.cells, AutoD.cells, EdgeD.cells])
 |(refine Split.by2 (fun h=>?_) (fun h=>?_)<;>(simp [h, vl, NetD.cells, AutoD.cells, EdgeD.cells]))
 |(apply hK;clear hK K)|refine AWh ‹_› ?_)
    all_goals first
      | exact r1q (cE (by rw [← hr]; simp [hnn, *]; done) rfl)
      | exact r1q (cE (by rw [← hr]; simp [*]; done) rfl)
      | exact r1q (cE (by rw [← hr]; simp [*]; omega) rfl)
  · rw [if_neg h123] at hr
    have hc := r_testless n e.test ht1
    simp only [NetD.cells, vl] at hc
    generalize truthBad n e.test = tb at *
    refine pB Tryz.func198 rfl (by decide) Tryz.ntmps198 (by simp) Tryz.results198 ?_
    by_cases htb : way = 121 ∧ tb = true
    · obtain ⟨rfl, rfl⟩ := htb
      repeat' (first
 |refine aK fun K hK=>?_|refine Step.by1 ?_|refine sE (by decide) ?_|refine cz rfl ?_|refine Fork.by2 (fun h=>?_) fun h=>?_
 |((first|refine aR ?_|refine aC (f:=154) rfl rfl (hc) rfl rfl rfl ?_);simp [vl, NetD.cells, AutoD.cells, EdgeD.cells])
 |(refine Split.by2 (fun h=>?_) (fun h=>?_)<;>(simp [h, vl, NetD.cells, AutoD.cells, EdgeD.cells]))
 |(apply hK;clear hK K)|refine AWh ‹_› ?_)
      exact r1q (cE (by rw [← hr]; rfl) rfl)
    · have hr' : anyL (setW n way) e.sets = r := by
        rw [← hr]
        by_cases h1 : way = 121
        · have : tb = false := by cases tb; rfl; exact absurd ⟨h1, rfl⟩ htb
          simp [this]
        · simp [h1]
      clear hr
      by_cases h121 : way = 121
      · subst h121
        have htf : tb = false := by cases tb; rfl; exact absurd ⟨rfl, rfl⟩ htb
        rw [htf] at hc
        repeat' (first
 |refine aK fun K hK=>?_|refine Step.by1 ?_|refine sE (by decide) ?_|refine cz rfl ?_|refine Fork.by2 (fun h=>?_) fun h=>?_
 |((first|refine aR ?_|refine aC (f:=154) rfl rfl (hc) rfl rfl rfl ?_);simp [vl, NetD.cells, AutoD.cells, EdgeD.cells])
 |(refine Split.by2 (fun h=>?_) (fun h=>?_)<;>(simp [h, vl, NetD.cells, AutoD.cells, EdgeD.cells]))
 |(apply hK;clear hK K)|refine AWh ‹_› ?_)
        refine aS1 (r := r) e.sets 9 [3, 4, 6] (anyL (setW n 121)) hr' (by apply Weak.mk' <;> simp [vl, NetD.cells, EdgeD.cells]) ?_ ?_
        · intro i x _ hlt hx hF
          rw [anC] at hF
          have hxo := hs2 x (hx ▸ List.getElem_mem hlt)
          have hR := r_Right x.expr n.vars.length hxo.2.2.2.1
          have hT := r_IsTruthB x.expr
          have hw : setW n 121 x = (decide (x.clock = 0) && (decide (x.var < 0 ∨ (n.vars.length : Int) ≤ x.var) || (decide (rightE x.expr n.vars.length ≠ 0) || isTruthB x.expr))) := by simp [setW, testS]
          have hlt' : (i : Int) < e.sets.length := by omega
          have w1 : IntKind.i64.wrap ((i : Int) + 1) = i + 1 := wI (by omega) (by omega)
          simp only [vl] at hR hT
          generalize rightE x.expr n.vars.length = q at *
          generalize isTruthB x.expr = tb2 at *
          repeat' (first
 |refine aK fun K hK=>?_|refine Step.by1 ?_|refine sE (by decide) ?_|refine cz rfl ?_|refine Fork.by2 (fun h=>?_) fun h=>?_
 |((first|refine aR ?_|refine aC (f:=202) rfl rfl (hR) rfl rfl rfl ?_|refine aC (f:=203) rfl rfl (hT) rfl rfl rfl ?_);simp [vl, SetD.cells, NetD.cells, EdgeD.cells, hlt, hlt', hx, w1])
 |(refine Split.by2 (fun h=>?_) (fun h=>?_)<;>(simp [h, vl, SetD.cells, NetD.cells, EdgeD.cells, hlt, hlt', hx, w1]))
 |(apply hK;clear hK K)|refine AWh ‹_› ?_)
          all_goals (try clear hR hT hc)
          all_goals first
            | exact r1q (cE (by rw [← hF, hw]; simp [*]; done) rfl)
            | exact r1q (cE (by rw [← hF, hw]; simp [*]; omega) rfl)
            | (refine ⟨by rw [← hF, hw]; simp [*]; done, ?_⟩; apply Weak.mk' <;> simp [vl, NetD.cells, EdgeD.cells])
            | (refine ⟨by rw [← hF, hw]; simp [*]; omega, ?_⟩; apply Weak.mk' <;> simp [vl, NetD.cells, EdgeD.cells])
        · intro hF
          repeat' (first
 |refine aK fun K hK=>?_|refine Step.by1 ?_|refine sE (by decide) ?_|refine cz rfl ?_|refine Fork.by2 (fun h=>?_) fun h=>?_
 |(refine aR ?_;simp [vl, NetD.cells, EdgeD.cells])
 |(refine Split.by2 (fun h=>?_) (fun h=>?_)<;>(simp [h, vl, NetD.cells, EdgeD.cells]))
 |(apply hK;clear hK K)|refine AWh ‹_› ?_)
          exact r1q (cE (by rw [← hF]; rfl) rfl)
      · repeat' (first
 |refine aK fun K hK=>?_|refine Step.by1 ?_|refine sE (by decide) ?_|refine cz rfl ?_|refine Fork.by2 (fun h=>?_) fun h=>?_
 |(refine aR ?_;simp [vl, NetD.cells, AutoD.cells, EdgeD.cells, h121, h123])
 |(refine Split.by2 (fun h=>?_) (fun h=>?_)<;>(simp [h, vl, NetD.cells, AutoD.cells, EdgeD.cells, h121, h123]))
 |(apply hK;clear hK K)|refine AWh ‹_› ?_)
        refine aS1 (r := r) e.sets 9 [3, 4, 6] (anyL (setW n way)) hr' (by apply Weak.mk' <;> simp [vl, NetD.cells, EdgeD.cells]) ?_ ?_
        · intro i x _ hlt hx hF
          rw [anC] at hF
          have hlt' : (i : Int) < e.sets.length := by omega
          have w1 : IntKind.i64.wrap ((i : Int) + 1) = i + 1 := wI (by omega) (by omega)
          by_cases h12 : way = 12
          · subst h12
            have hw : setW n 12 x = decide (x.clock < 0 ∨ (n.clocks.length : Int) < x.clock) := by simp [setW, clkS_eq]
            repeat' (first
 |refine aK fun K hK=>?_|refine Step.by1 ?_|refine sE (by decide) ?_|refine cz rfl ?_|refine Fork.by2 (fun h=>?_) fun h=>?_
 |(refine aR ?_;simp [vl, SetD.cells, NetD.cells, EdgeD.cells, hlt, hlt', hx, w1])
 |(refine Split.by2 (fun h=>?_) (fun h=>?_)<;>(simp [h, vl, SetD.cells, NetD.cells, EdgeD.cells, hlt, hlt', hx, w1]))
 |(apply hK;clear hK K)|refine AWh ‹_› ?_)
            all_goals first
              | exact r1q (cE (by rw [← hF, hw]; simp [*]; done) rfl)
              | exact r1q (cE (by rw [← hF, hw]; simp [*]; omega) rfl)
              | (refine ⟨by rw [← hF, hw]; simp [*]; done, ?_⟩; apply Weak.mk' <;> simp [vl, NetD.cells, EdgeD.cells])
              | (refine ⟨by rw [← hF, hw]; simp [*]; omega, ?_⟩; apply Weak.mk' <;> simp [vl, NetD.cells, EdgeD.cells])
          · by_cases h7 : way = 7
            · subst h7
              have hw : setW n 7 x = decide (x.clock = 0 ∧ x.n ≠ 0 ∨ x.clock ≠ 0 ∧ (x.var ≠ 0 ∨ 0 < x.expr.length)) := by simp [setW, formS]
              repeat' (first
 |refine aK fun K hK=>?_|refine Step.by1 ?_|refine sE (by decide) ?_|refine cz rfl ?_|refine Fork.by2 (fun h=>?_) fun h=>?_
 |(refine aR ?_;simp [vl, SetD.cells, NetD.cells, EdgeD.cells, hlt, hlt', hx, w1])
 |(refine Split.by2 (fun h=>?_) (fun h=>?_)<;>(simp [h, vl, SetD.cells, NetD.cells, EdgeD.cells, hlt, hlt', hx, w1]))
 |(apply hK;clear hK K)|refine AWh ‹_› ?_)
              all_goals first
                | exact r1q (cE (by rw [← hF, hw]; simp [*]; done) rfl)
                | exact r1q (cE (by rw [← hF, hw]; simp [*]; omega) rfl)
                | (refine ⟨by rw [← hF, hw]; simp [*]; done, ?_⟩; apply Weak.mk' <;> simp [vl, NetD.cells, EdgeD.cells])
                | (refine ⟨by rw [← hF, hw]; simp [*]; omega, ?_⟩; apply Weak.mk' <;> simp [vl, NetD.cells, EdgeD.cells])
            · have hw : setW n way x = false := by simp [setW, h12, h7, h121]
              rw [hw, Bool.false_or] at hF
              repeat' (first
 |refine aK fun K hK=>?_|refine Step.by1 ?_|refine sE (by decide) ?_|refine cz rfl ?_|refine Fork.by2 (fun h=>?_) fun h=>?_
 |(refine aR ?_;simp [vl, SetD.cells, NetD.cells, EdgeD.cells, hlt, hlt', hx, w1, h12, h7, h121])
 |(refine Split.by2 (fun h=>?_) (fun h=>?_)<;>(simp [h, vl, SetD.cells, NetD.cells, EdgeD.cells, hlt, hlt', hx, w1, h12, h7, h121]))
 |(apply hK;clear hK K)|refine AWh ‹_› ?_)
              refine ⟨hF, ?_⟩; apply Weak.mk' <;> simp [vl, NetD.cells, EdgeD.cells]
        · intro hF
          repeat' (first
 |refine aK fun K hK=>?_|refine Step.by1 ?_|refine sE (by decide) ?_|refine cz rfl ?_|refine Fork.by2 (fun h=>?_) fun h=>?_
 |(refine aR ?_;simp [vl, NetD.cells, EdgeD.cells])
 |(refine Split.by2 (fun h=>?_) (fun h=>?_)<;>(simp [h, vl, NetD.cells, EdgeD.cells]))
 |(apply hK;clear hK K)|refine AWh ‹_› ?_)
          exact r1q (cE (by rw [← hF]; rfl) rfl)
end Go.Proofs.YtgmlimipejcpgaaGreatDoor
end
