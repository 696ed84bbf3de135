/-
  YtgmlimipejcpgaaGreatDoorLj17: steps of the proof of a law of the program: what these texts prove holds under the hypotheses that their theorems name, and no others.
-/
import Derived.Test.YtgmlimipejcpgaaGreatDoorLj14
import Derived.Test.YtgmlimipejcpgaaGreatDoorLj16
import Derived.Test.YtgmlimipejcpgaaGreatDoorLj13
section
set_option linter.unusedSimpArgs false
set_option linter.unusedVariables false
namespace Go.Proofs.YtgmlimipejcpgaaGreatDoor
open Go Go.AM Fx
set_option maxRecDepth 8000 in
theorem c_growS (n : Nat) (hn : n ≤ 1073741824) : PC 233 [.nils, .int .i64 n] (.own 9 []) := by
  have z0 : ¬ (n : Int) < 0 := by omega
  have w1 : IntKind.i64.wrap (n : Int) = n := wI (by omega) (by omega)
  have wz : IntKind.i64.wrap 0 = 0 := by decide
  refine pB Tryz.func233 rfl (by decide) Tryz.ntmps233 (by simp) Tryz.results233 ?_
  by_cases h0 : n = 0
  · subst h0
    repeat' (first
 |refine AW_nilrow 4 9 rfl (by simp) ?_
 |refine aK fun K hK=>?_|refine Step.by1 ?_|refine sE (by decide) ?_|refine cz rfl ?_|refine Fork.by2 (fun h=>?_) fun h=>?_
 |(refine aR ?_;simp [z0, w1, wz])
 |(refine Split.by2 (fun h=>?_) (fun h=>?_)<;>(simp [h, z0, w1, wz]))
 |(refine AS_op1 rfl (S_capNil rfl Tryz.underlying22 rfl) ?_; simp [z0, w1, wz])
 |(apply hK;clear hK K)|refine AWh ‹_› ?_)
    exact r1q (.inr (.inl (conv1_own (b := 1) (xs := []) rfl rfl)))
  · have hp : (0 : Int) < n := by omega
    have hn0 : 0 < n := by omega
    have hb16 : n * bytesOf Tryz.prog 9 ≤ 140737488355328 := by simp; omega
    repeat' (first
 |refine aK fun K hK=>?_|refine Step.by1 ?_|refine sE (by decide) ?_|refine cz rfl ?_|refine Fork.by2 (fun h=>?_) fun h=>?_
 |(refine aR ?_;simp [z0, w1, wz, hp, hn0])
 |(refine Split.by2 (fun h=>?_) (fun h=>?_)<;>(simp [h, z0, w1, wz, hp, hn0]))
 |(refine AS_op rfl rfl (S_capNil rfl Tryz.underlying22 rfl) ?_; refine AS_op rfl rfl (S_sliceNil Tryz.underlying22 (by simp) rfl rfl) ?_; refine AS_op rfl rfl S_move ?_; refine AS_op1 rfl (S_appendCount (n := n) (zs := zeroD Tryz.prog 9) rfl Tryz.underlying22 Tryz.underlying3 (show zeroOf Tryz.prog 9 = some (zeroD Tryz.prog 9) from getD_some (by simp)) (by simp) (by simp) rfl rfl hn0 hb16 (by simp)) ?_; simp [z0, w1, wz, hp, hn0])
 |(refine AS_op1 rfl (S_capNil rfl Tryz.underlying22 rfl) ?_; simp [z0, w1, wz, hp, hn0])
 |(apply hK;clear hK K)|refine AWh ‹_› ?_)
    exact r1q (.inr (.inl (conv1_own (b := 0) (xs := []) rfl rfl)))
theorem catF_len {α β : Type} {f : α → List β} {x : α} {l : List α} {acc : Nat × List β} {r : List β} (h : catF f (x :: l) acc = r) : acc.2.length + (f x).length ≤ r.length := by
  rw [← h]; simp [catF]
theorem take_str (l : List ByteArray) : (l.map fun s => [V.str s]).take l.length = l.map fun s => [V.str s] := List.take_of_length_le (by simp)
def lenF (l : List (List ByteArray)) (c : Nat) : Nat := c + l.flatten.length
theorem lenF_nil {c : Nat} : lenF [] c = c := rfl
theorem lenF_cons {x : List ByteArray} {l : List (List ByteArray)} {c : Nat} : lenF (x :: l) c = lenF l (c + x.length) := by simp [lenF]; omega
theorem lenF_le {l : List (List ByteArray)} {c : Nat} : c ≤ lenF l c := by simp [lenF]
set_option maxRecDepth 8000 in
set_option maxHeartbeats 4000000 in
theorem c_concatS (ls : List (List ByteArray)) (hl : ls.length ≤ 1048576) (ht : ls.flatten.length ≤ 1073741824) : PC 217 [.vec (ls.map fun l => [vl (fun s => [V.str s]) l]) ls.length] (.own 9 (ls.flatten.map fun s => [V.str s])) := by
  have hG := c_growS ls.flatten.length ht
  have hfl0 : ls.flatMap (fun l => l) = ls.flatten := by rw [List.flatMap_id']
  obtain ⟨fl, hfl⟩ : ∃ fl, ls.flatten = fl := ⟨_, rfl⟩
  rw [hfl] at hG ht hfl0 ⊢
  obtain ⟨tot, htot⟩ : ∃ tot, fl.length = tot := ⟨_, rfl⟩
  rw [htot] at hG ht
  refine pB Tryz.func217 rfl (by decide) Tryz.ntmps217 (by simp) Tryz.results217 ?_
  repeat' (first
 |refine aK fun K hK=>?_|refine Step.by1 ?_|refine sE (by decide) ?_|refine cz rfl ?_|refine Fork.by2 (fun h=>?_) fun h=>?_
 |(refine aR ?_;simp [vl])
 |(refine Split.by2 (fun h=>?_) (fun h=>?_)<;>(simp [h, vl]))
 |(apply hK;clear hK K)|refine AWh ‹_› ?_)
  refine AW_range (r := tot) ls 11 [0, 9, 10] (fun c : Nat => [(3, .int .i64 (c : Int))]) (fun _ => []) (fun _ _ => True) lenF 0
    (by unfold lenF; rw [hfl, htot]; omega) trivial (by apply Weak.mk' <;> simp [vl]) (fun _ _ _ => rfl) ?_ ?_
  · intro i c x _ hlt hx _ hF
    rw [lenF_cons] at hF
    have hle : c + x.length ≤ tot := hF ▸ lenF_le
    have hlt' : (i : Int) < ls.length := by omega
    have hc0 : ¬ (c : Int) + x.length < 0 := by omega
    have w1 : IntKind.i64.wrap ((i : Int) + 1) = i + 1 := wI (by omega) (by omega)
    have w2 : IntKind.i64.wrap ((c : Int) + x.length) = c + x.length := wI (by omega) (by omega)
    repeat' (first
 |refine aK fun K hK=>?_|refine Step.by1 ?_|refine sE (by decide) ?_|refine cz rfl ?_|refine Fork.by2 (fun h=>?_) fun h=>?_
 |(refine aR ?_;simp [vl, strV, hlt, hlt', hx, w1, w2, hc0])
 |(refine Split.by2 (fun h=>?_) (fun h=>?_)<;>(simp [h, vl, strV, hlt, hlt', hx, w1, w2, hc0]))
 |(apply hK;clear hK K)|refine AWh ‹_› ?_)
    exact ⟨c + x.length, hF, by apply Weak.mk' <;> simp [vl]⟩
  · intro c _ hF
    rw [lenF_nil] at hF
    subst hF
    repeat' (first
 |refine aK fun K hK=>?_|refine Step.by1 ?_|refine sE (by decide) ?_|refine cz rfl ?_|refine Fork.by2 (fun h=>?_) fun h=>?_
 |((first|refine aR ?_|refine AS_callO (f:=233) rfl rfl (hG) rfl rfl ?_);simp [vl, strV])
 |(refine Split.by2 (fun h=>?_) (fun h=>?_)<;>(simp [h, vl, strV]))
 |(apply hK;clear hK K)|refine AWh ‹_› ?_)
    refine AW_range (r := fl) ls 27 [25, 26] (fun c : Nat × List ByteArray => [(6, .ref 0 c.1 0 c.2.length)]) (fun c => [.row 9 c.1 0 true (c.2.map fun s => [V.str s])]) (fun _ _ => True) (catF fun l : List ByteArray => l) (0, [])
      (by unfold catF; rw [hfl0]; rfl) trivial (by apply Weak.mk' <;> simp [vl]) (fun _ _ _ => rfl) ?_ ?_
    · rintro i ⟨g, out⟩ x _ hlt hx _ hF
      have hle := catF_len hF
      rw [catF_cons (g + 1)] at hF
      simp only at hF hle
      have hby : (out.length + x.length) * 16 ≤ 140737488355328 := by omega
      have hlt' : (i : Int) < ls.length := by omega
      have htk := take_str x
      have w1 : IntKind.i64.wrap ((i : Int) + 1) = i + 1 := wI (by omega) (by omega)
      repeat' (first
 |refine aK fun K hK=>?_|refine Step.by1 ?_|refine sE (by decide) ?_|refine cz rfl ?_|refine Fork.by2 (fun h=>?_) fun h=>?_
 |(refine aR ?_;simp [vl, strV, hlt, hlt', hx, w1, htk, hby])
 |(refine Split.by2 (fun h=>?_) (fun h=>?_)<;>(simp [h, vl, strV, hlt, hlt', hx, w1, htk, hby]))
 |(apply hK;clear hK K)|refine AWh ‹_› ?_)
      exact ⟨g + 1, out ++ x, hF, by apply Weak.mk' <;> simp [vl]⟩
    · rintro ⟨g, out⟩ _ hF
      rw [catF_nil] at hF
      simp only at hF
      subst hF
      repeat' (first
 |refine aK fun K hK=>?_|refine Step.by1 ?_|refine sE (by decide) ?_|refine cz rfl ?_|refine Fork.by2 (fun h=>?_) fun h=>?_
 |(refine aR ?_;simp [vl])
 |(refine Split.by2 (fun h=>?_) (fun h=>?_)<;>(simp [h, vl]))
 |(apply hK;clear hK K)|refine AWh ‹_› ?_)
      exact r1q (.inr (.inl (conv1_own rfl (by simp))))
set_option maxRecDepth 8000 in
set_option maxHeartbeats 4000000 in
theorem c_all (n : NetD) (hn : n.ok) : PC 188 [.agg n.cells] (vl strV (allL n)) := by
  obtain ⟨⟨h1, _⟩, ⟨h2, _⟩, ⟨h3, _⟩, h4, h5⟩ := hn
  have hN := c_Names n h2
  have hnl : (namesL n).length ≤ 1048576 := by simp [namesL, h2]
  have hC := c_concatS [n.clocks, namesL n, n.chans] (by simp) (by simp; omega)
  have hgoal : PC 188 [.agg n.cells] (.own 9 ((allL n).map fun s => [V.str s])) := by
    generalize hns : namesL n = ns at *
    have hfl : [n.clocks, ns, n.chans].flatten = n.clocks ++ (ns ++ n.chans) := by simp
    rw [hfl] at hC
    simp only [vl, NetD.cells] at hN
    simp only [vl, List.map_cons, List.map_nil, List.length_cons, List.length_nil, List.map_append] at hC
    refine pB Tryz.func188 rfl (by decide) Tryz.ntmps188 (by simp) Tryz.results188 ?_
    repeat' (first
 |refine aK fun K hK=>?_|refine Step.by1 ?_|refine sE (by decide) ?_|refine cz rfl ?_|refine Fork.by2 (fun h=>?_) fun h=>?_
 |((first|refine aR ?_|refine aX (id:=1) 6 mixed (by decide) ?_|refine aP1 (f:=218) rfl rfl (hN) rfl rfl rfl ?_);simp [vl, NetD.cells])
 |(refine Split.by2 (fun h=>?_) (fun h=>?_)<;>(simp [h, vl, NetD.cells]))
 |(refine AS_view 12 rfl rfl (by simp) ?_; simp; refine AS_callO (f := 217) rfl rfl hC rfl rfl ?_; simp [vl, NetD.cells])
 |(apply hK;clear hK K)|refine AWh ‹_› ?_)
    refine AW_range n.autos 17 [15, 16] (fun c : Nat × List ByteArray => [(3, .ref 2 c.1 0 c.2.length)]) (fun c => [.var n.cells, .dead, .row 9 c.1 0 true (c.2.map fun s => [V.str s])]) (fun i c => c.2.length ≤ 3145728 + i) (catF fun x : AutoD => [x.name]) (0, n.clocks ++ (ns ++ n.chans)) (r := allL n)
      (by simp [catF, allL, hns]; try exact (List.map_eq_flatMap ..).symm) (by simp; omega) (by apply Weak.mk' <;> simp [vl, NetD.cells]) (fun _ _ _ => rfl) ?_ ?_
    · rintro i ⟨g, out⟩ x _ hlt hx hJ hF
      simp only at hJ
      rw [catF_cons (g + 1)] at hF
      have hby : (out.length + 1) * 16 ≤ 140737488355328 := by omega
      have hlt' : (i : Int) < n.autos.length := by omega
      have w1 : IntKind.i64.wrap ((i : Int) + 1) = i + 1 := wI (by omega) (by omega)
      repeat' (first
 |refine aK fun K hK=>?_|refine Step.by1 ?_|refine sE (by decide) ?_|refine cz rfl ?_|refine Fork.by2 (fun h=>?_) fun h=>?_
 |(refine aR ?_;simp [vl, NetD.cells, AutoD.cells, hlt, hlt', hx, hby, w1])
 |(refine Split.by2 (fun h=>?_) (fun h=>?_)<;>(simp [h, vl, NetD.cells, AutoD.cells, hlt, hlt', hx, hby, w1]))
 |(apply hK;clear hK K)|refine AWh ‹_› ?_)
      exact ⟨g + 1, out ++ [x.name], hF, by simp; omega, by apply Weak.mk' <;> simp [vl, NetD.cells]⟩
    · rintro ⟨g, out⟩ hJ hF
      rw [catF_nil] at hF
      simp only at hF
      subst hF
      repeat' (first
 |refine aK fun K hK=>?_|refine Step.by1 ?_|refine sE (by decide) ?_|refine cz rfl ?_|refine Fork.by2 (fun h=>?_) fun h=>?_
 |(refine aR ?_;simp [vl, NetD.cells])
 |(refine Split.by2 (fun h=>?_) (fun h=>?_)<;>(simp [h, vl, NetD.cells]))
 |(apply hK;clear hK K)|refine AWh ‹_› ?_)
      exact r1q (.inr (.inl (conv1_own rfl (by simp))))
  have := hgoal.freeze
  have e : ((allL n).map fun s => [V.str s]).length = (allL n).length := by simp
  rw [e] at this
  exact this
set_option maxRecDepth 8000 in
set_option maxHeartbeats 4000000 in
theorem c_names (n : NetD) (hn : n.ok) : PC 130 [.agg n.cells] (.int .i64 (namesE n)) := by
  have hA := c_all n hn
  have hl : (allL n).length ≤ 1099511627776 := by obtain ⟨⟨h1, _⟩, ⟨h2, _⟩, ⟨h3, _⟩, h4, h5⟩ := hn; simp [allL, namesL]; omega
  have hs : ∀ s ∈ allL n, s.size ≤ 1048576 := by
    obtain ⟨⟨_, h1⟩, ⟨_, h2⟩, ⟨_, h3⟩, _, h5⟩ := hn
    intro s hs
    simp only [allL, namesL, List.mem_append, List.mem_map] at hs
    rcases hs with hs | ⟨v, hv, rfl⟩ | hs | ⟨a, ha, rfl⟩
    · exact h1 s hs
    · exact (h2 v hv).1
    · exact h3 s hs
    · exact (h5 a ha).1
  have hG := c_given (allL n) hl hs
  obtain ⟨_, _, _, h4, h5⟩ := hn
  obtain ⟨r, hr⟩ : ∃ r, namesE n = r := ⟨_, rfl⟩
  rw [hr]
  unfold namesE namesB at hr
  generalize allL n = al at *
  generalize givenB al = gb at *
  simp only [vl, NetD.cells] at hA hG
  refine pB Tryz.func130 rfl (by decide) Tryz.ntmps130 (by simp) Tryz.results130 ?_
  cases gb
  · repeat' (first
 |refine aK fun K hK=>?_|refine Step.by1 ?_|refine sE (by decide) ?_|refine cz rfl ?_|refine Fork.by2 (fun h=>?_) fun h=>?_
 |((first|refine aR ?_|refine aC (f:=188) rfl rfl (hA) rfl rfl rfl ?_|refine aC (f:=187) rfl rfl (hG) rfl rfl rfl ?_);simp [vl, NetD.cells])
 |(refine Split.by2 (fun h=>?_) (fun h=>?_)<;>(simp [h, vl, NetD.cells]))
 |(apply hK;clear hK K)|refine AWh ‹_› ?_)
    exact r1q (cE (by rw [← hr]; rfl) rfl)
  · rw [Bool.not_true, Bool.false_or] at hr
    obtain ⟨E, hE⟩ : ∃ E : List AutoD → Int, E = fun l => if anyL (fun a => !givenB (locNamesL a)) l = true then 112 else 0 := ⟨_, rfl⟩
    have hEc : ∀ a l, E (a :: l) = if givenB (locNamesL a) = true then E l else 112 := fun a l => by subst hE; cases h : givenB (locNamesL a) <;> simp [anC, h]
    have hEn : E n.autos = r := by subst hE; exact hr
    have hE0 : E [] = 0 := by subst hE; rfl
    clear hr hE
    repeat' (first
 |refine aK fun K hK=>?_|refine Step.by1 ?_|refine sE (by decide) ?_|refine cz rfl ?_|refine Fork.by2 (fun h=>?_) fun h=>?_
 |((first|refine aR ?_|refine aC (f:=188) rfl rfl (hA) rfl rfl rfl ?_|refine aC (f:=187) rfl rfl (hG) rfl rfl rfl ?_);simp [vl, NetD.cells])
 |(refine Split.by2 (fun h=>?_) (fun h=>?_)<;>(simp [h, vl, NetD.cells]))
 |(apply hK;clear hK K)|refine AWh ‹_› ?_)
    refine aS1 (r := r) n.autos 12 [10, 11] E hEn (by apply Weak.mk' <;> simp [vl, NetD.cells]) ?_ ?_
    · intro i a _ hlt ha hF
      rw [hEc] at hF
      have hoa := h5 a (ha ▸ List.getElem_mem hlt)
      have hal : a.locs.length ≤ 1048576 := hoa.2.1.1
      have hlen : (locNamesL a).length = a.locs.length := by simp [locNamesL]
      have hL := c_locNames a hal
      have hG2 := c_given (locNamesL a) (by omega) (fun s hs => by
        simp only [locNamesL, List.mem_map] at hs
        obtain ⟨x, hx, rfl⟩ := hs
        exact (hoa.2.1.2 x hx).1)
      have hlt' : (i : Int) < n.autos.length := by omega
      have w1 : IntKind.i64.wrap ((i : Int) + 1) = i + 1 := wI (by omega) (by omega)
      generalize locNamesL a = ln at *
      generalize givenB ln = gb at *
      simp only [vl, strV, AutoD.cells] at hL hG2
      cases gb
      · repeat' (first
 |refine aK fun K hK=>?_|refine Step.by1 ?_|refine sE (by decide) ?_|refine cz rfl ?_|refine Fork.by2 (fun h=>?_) fun h=>?_
 |((first|refine aR ?_|refine aC (f:=189) rfl rfl (hL) rfl rfl rfl ?_|refine aC (f:=187) rfl rfl (hG2) rfl rfl rfl ?_);simp [vl, NetD.cells, AutoD.cells, hlt, hlt', ha, w1])
 |(refine Split.by2 (fun h=>?_) (fun h=>?_)<;>(simp [h, vl, NetD.cells, AutoD.cells, hlt, hlt', ha, w1]))
 |(apply hK;clear hK K)|refine AWh ‹_› ?_)
        exact r1q (cE (by rw [← hF]; rfl) rfl)
      · repeat' (first
 |refine aK fun K hK=>?_|refine Step.by1 ?_|refine sE (by decide) ?_|refine cz rfl ?_|refine Fork.by2 (fun h=>?_) fun h=>?_
 |((first|refine aR ?_|refine aC (f:=189) rfl rfl (hL) rfl rfl rfl ?_|refine aC (f:=187) rfl rfl (hG2) rfl rfl rfl ?_);simp [vl, NetD.cells, AutoD.cells, hlt, hlt', ha, w1])
 |(refine Split.by2 (fun h=>?_) (fun h=>?_)<;>(simp [h, vl, NetD.cells, AutoD.cells, hlt, hlt', ha, w1]))
 |(apply hK;clear hK K)|refine AWh ‹_› ?_)
        refine ⟨by rw [← hF]; rfl, ?_⟩; apply Weak.mk' <;> simp [vl, NetD.cells]
    · intro hF
      repeat' (first
 |refine aK fun K hK=>?_|refine Step.by1 ?_|refine sE (by decide) ?_|refine cz rfl ?_|refine Fork.by2 (fun h=>?_) fun h=>?_
 |(refine aR ?_;simp [vl, NetD.cells])
 |(refine Split.by2 (fun h=>?_) (fun h=>?_)<;>(simp [h, vl, NetD.cells]))
 |(apply hK;clear hK K)|refine AWh ‹_› ?_)
      exact r1q (cE (by rw [← hF, hE0]; rfl) rfl)
theorem small_sizes {n : NetD} (h : sizesE n = 0) : Small n := by
  unfold sizesE at h
  split at h
  · cases h
  · rename_i h'; exact small_of (by simpa using h')
theorem anyL_len (n : NetD) (hn : n.ok) : ∀ a ∈ n.autos, a.locs.length ≤ 1099511627776 := fun a ha => by have := (hn.2.2.2.2 a ha).2.1.1; omega
set_option maxRecDepth 20000 in
set_option maxHeartbeats 16000000 in
theorem c_Whole (n : NetD) (hn : n.ok) : PC 58 [.agg n.cells] (.int .i64 (wholeE n)) := by
  have l1 := hn.2.2.2.1
  have l2 := hn.2.1.1
  have h0 := c_someE n (by omega)
  have h1 := c_sizes n hn
  have h2 := c_names n hn
  have h3 := c_varE n (by omega)
  have h4 := c_locs n (by omega) (anyL_len n hn)
  have h5 := c_edges n hn
  have h6 : sizesE n = 0 → PC 134 [.agg n.cells] (.int .i64 (clocksE n)) := fun h => c_clocks n (small_sizes h)
  have h7 : sizesE n = 0 → PC 135 [.agg n.cells] (.int .i64 (formsE n)) := fun h => c_forms n (small_sizes h)
  have h8 : sizesE n = 0 → PC 136 [.agg n.cells] (.int .i64 (testsE n)) := fun h => c_tests n hn (small_sizes h)
  obtain ⟨r, hr⟩ : ∃ r, wholeE n = r := ⟨_, rfl⟩
  rw [hr]
  unfold wholeE at hr
  generalize someE n = e0 at *
  generalize sizesE n = e1 at *
  generalize namesE n = e2 at *
  generalize varE n.vars = e3 at *
  generalize locsE n.autos = e4 at *
  generalize edgesE n n.autos = e5 at *
  generalize clocksE n = e6 at *
  generalize formsE n = e7 at *
  generalize testsE n = e8 at *
  simp only [vl, NetD.cells] at h0 h1 h2 h3 h4 h5 h6 h7 h8
  refine pB Tryz.func58 rfl (by decide) Tryz.ntmps58 (by simp) Tryz.results58 ?_
  repeat' (first
 |refine aK fun K hK=>?_|refine Step.by1 ?_|refine sE (by decide) ?_|refine cz rfl ?_|refine Fork.by2 (fun h=>?_) fun h=>?_
 |(refine aR ?_;simp [vl, NetD.cells])
 |(refine Split.by2 (fun h=>?_) (fun h=>?_)<;>(simp [h, vl, NetD.cells]))
 |(apply hK;clear hK K)|refine AWh ‹_› ?_)
  refine aL [1, 8, 9] (fun i : Nat => [(10, .int .i64 i)]) (fun _ => [.var n.cells, .row 37 0 0 true [[.fn (.func 128) [] []], [.fn (.func 129) [] []], [.fn (.func 130) [] []], [.fn (.func 131) [] []], [.fn (.func 132) [] []], [.fn (.func 133) [] []], [.fn (.func 134) [] []], [.fn (.func 135) [] []], [.fn (.func 136) [] []]]])
    (fun i => i ≤ 9 ∧ firstE ([e0, e1, e2, e3, e4, e5, e6, e7, e8].drop i) = r ∧ (2 ≤ i → e1 = 0)) (fun i => 9 - i) 0 ⟨Nat.zero_le _, hr, fun h => by omega⟩ (by apply Weak.mk' <;> simp [vl, NetD.cells]) (fun _ _ => rfl) ?_
  rintro i ⟨hi, hF, hz⟩
  have w1 : IntKind.i64.wrap ((i : Int) + 1) = i + 1 := wI (by omega) (by omega)
  rcases i with _ | _ | _ | _ | _ | _ | _ | _ | _ | _ | i
  · rw [show [e0, e1, e2, e3, e4, e5, e6, e7, e8].drop 0 = e0 :: [e0, e1, e2, e3, e4, e5, e6, e7, e8].drop 1 from rfl, fC] at hF
    have hc := h0
    by_cases he : e0 = 0
    · rw [if_neg (by simp [he])] at hF
      rw [he] at hc
      repeat' (first
 |refine aK fun K hK=>?_|refine Step.by1 ?_|refine sE (by decide) ?_|refine cz rfl ?_|refine Fork.by2 (fun h=>?_) fun h=>?_
 |((first|refine aR ?_|refine aC (f:=128) rfl rfl (hc) rfl rfl rfl ?_);simp [vl, NetD.cells, wI];try (simp (disch:=omega) only [wI];try simp [vl, NetD.cells, wI]))
 |(refine Split.by2 (fun h=>?_) (fun h=>?_)<;>(simp [h, vl, NetD.cells, wI];try (simp (disch:=omega) only [wI];try simp [vl, NetD.cells, wI])))
 |(apply hK;clear hK K)|refine AWh ‹_› ?_)
      refine ⟨1, ⟨by omega, hF, fun h => by omega⟩, by omega, ?_⟩; apply Weak.mk' <;> simp [vl, NetD.cells]
    · rw [if_pos he] at hF
      subst hF
      repeat' (first
 |refine aK fun K hK=>?_|refine Step.by1 ?_|refine sE (by decide) ?_|refine cz rfl ?_|refine Fork.by2 (fun h=>?_) fun h=>?_
 |((first|refine aR ?_|refine aC (f:=128) rfl rfl (hc) rfl rfl rfl ?_);simp [vl, NetD.cells, wI, he];try (simp (disch:=omega) only [wI];try simp [vl, NetD.cells, wI, he]))
 |(refine Split.by2 (fun h=>?_) (fun h=>?_)<;>(simp [h, vl, NetD.cells, wI, he];try (simp (disch:=omega) only [wI];try simp [vl, NetD.cells, wI, he])))
 |(apply hK;clear hK K)|refine AWh ‹_› ?_)
      exact r1q (cE rfl rfl)
  · rw [show [e0, e1, e2, e3, e4, e5, e6, e7, e8].drop 1 = e1 :: [e0, e1, e2, e3, e4, e5, e6, e7, e8].drop 2 from rfl, fC] at hF
    have hc := h1
    by_cases he : e1 = 0
    · rw [if_neg (by simp [he])] at hF
      rw [he] at hc
      repeat' (first
 |refine aK fun K hK=>?_|refine Step.by1 ?_|refine sE (by decide) ?_|refine cz rfl ?_|refine Fork.by2 (fun h=>?_) fun h=>?_
 |((first|refine aR ?_|refine aC (f:=129) rfl rfl (hc) rfl rfl rfl ?_);simp [vl, NetD.cells, wI];try (simp (disch:=omega) only [wI];try simp [vl, NetD.cells, wI]))
 |(refine Split.by2 (fun h=>?_) (fun h=>?_)<;>(simp [h, vl, NetD.cells, wI];try (simp (disch:=omega) only [wI];try simp [vl, NetD.cells, wI])))
 |(apply hK;clear hK K)|refine AWh ‹_› ?_)
      refine ⟨2, ⟨by omega, hF, fun h => he⟩, by omega, ?_⟩; apply Weak.mk' <;> simp [vl, NetD.cells]
    · rw [if_pos he] at hF
      subst hF
      repeat' (first
 |refine aK fun K hK=>?_|refine Step.by1 ?_|refine sE (by decide) ?_|refine cz rfl ?_|refine Fork.by2 (fun h=>?_) fun h=>?_
 |((first|refine aR ?_|refine aC (f:=129) rfl rfl (hc) rfl rfl rfl ?_);simp [vl, NetD.cells, wI, he];try (simp (disch:=omega) only [wI];try simp [vl, NetD.cells, wI, he]))
 |(refine Split.by2 (fun h=>?_) (fun h=>?_)<;>(simp [h, vl, NetD.cells, wI, he];try (simp (disch:=omega) only [wI];try simp [vl, NetD.cells, wI, he])))
 |(apply hK;clear hK K)|refine AWh ‹_› ?_)
      exact r1q (cE rfl rfl)
  · rw [show [e0, e1, e2, e3, e4, e5, e6, e7, e8].drop 2 = e2 :: [e0, e1, e2, e3, e4, e5, e6, e7, e8].drop 3 from rfl, fC] at hF
    have hc := h2
    by_cases he : e2 = 0
    · rw [if_neg (by simp [he])] at hF
      rw [he] at hc
      repeat' (first
 |refine aK fun K hK=>?_|refine Step.by1 ?_|refine sE (by decide) ?_|refine cz rfl ?_|refine Fork.by2 (fun h=>?_) fun h=>?_
 |((first|refine aR ?_|refine aC (f:=130) rfl rfl (hc) rfl rfl rfl ?_);simp [vl, NetD.cells, wI];try (simp (disch:=omega) only [wI];try simp [vl, NetD.cells, wI]))
 |(refine Split.by2 (fun h=>?_) (fun h=>?_)<;>(simp [h, vl, NetD.cells, wI];try (simp (disch:=omega) only [wI];try simp [vl, NetD.cells, wI])))
 |(apply hK;clear hK K)|refine AWh ‹_› ?_)
      refine ⟨3, ⟨by omega, hF, fun h => hz (by omega)⟩, by omega, ?_⟩; apply Weak.mk' <;> simp [vl, NetD.cells]
    · rw [if_pos he] at hF
      subst hF
      repeat' (first
 |refine aK fun K hK=>?_|refine Step.by1 ?_|refine sE (by decide) ?_|refine cz rfl ?_|refine Fork.by2 (fun h=>?_) fun h=>?_
 |((first|refine aR ?_|refine aC (f:=130) rfl rfl (hc) rfl rfl rfl ?_);simp [vl, NetD.cells, wI, he];try (simp (disch:=omega) only [wI];try simp [vl, NetD.cells, wI, he]))
 |(refine Split.by2 (fun h=>?_) (fun h=>?_)<;>(simp [h, vl, NetD.cells, wI, he];try (simp (disch:=omega) only [wI];try simp [vl, NetD.cells, wI, he])))
 |(apply hK;clear hK K)|refine AWh ‹_› ?_)
      exact r1q (cE rfl rfl)
  · rw [show [e0, e1, e2, e3, e4, e5, e6, e7, e8].drop 3 = e3 :: [e0, e1, e2, e3, e4, e5, e6, e7, e8].drop 4 from rfl, fC] at hF
    have hc := h3
    by_cases he : e3 = 0
    · rw [if_neg (by simp [he])] at hF
      rw [he] at hc
      repeat' (first
 |refine aK fun K hK=>?_|refine Step.by1 ?_|refine sE (by decide) ?_|refine cz rfl ?_|refine Fork.by2 (fun h=>?_) fun h=>?_
 |((first|refine aR ?_|refine aC (f:=131) rfl rfl (hc) rfl rfl rfl ?_);simp [vl, NetD.cells, wI];try (simp (disch:=omega) only [wI];try simp [vl, NetD.cells, wI]))
 |(refine Split.by2 (fun h=>?_) (fun h=>?_)<;>(simp [h, vl, NetD.cells, wI];try (simp (disch:=omega) only [wI];try simp [vl, NetD.cells, wI])))
 |(apply hK;clear hK K)|refine AWh ‹_› ?_)
      refine ⟨4, ⟨by omega, hF, fun h => hz (by omega)⟩, by omega, ?_⟩; apply Weak.mk' <;> simp [vl, NetD.cells]
    · rw [if_pos he] at hF
      subst hF
      repeat' (first
 |refine aK fun K hK=>?_|refine Step.by1 ?_|refine sE (by decide) ?_|refine cz rfl ?_|refine Fork.by2 (fun h=>?_) fun h=>?_
 |((first|refine aR ?_|refine aC (f:=131) rfl rfl (hc) rfl rfl rfl ?_);simp [vl, NetD.cells, wI, he];try (simp (disch:=omega) only [wI];try simp [vl, NetD.cells, wI, he]))
 |(refine Split.by2 (fun h=>?_) (fun h=>?_)<;>(simp [h, vl, NetD.cells, wI, he];try (simp (disch:=omega) only [wI];try simp [vl, NetD.cells, wI, he])))
 |(apply hK;clear hK K)|refine AWh ‹_› ?_)
      exact r1q (cE rfl rfl)
  · rw [show [e0, e1, e2, e3, e4, e5, e6, e7, e8].drop 4 = e4 :: [e0, e1, e2, e3, e4, e5, e6, e7, e8].drop 5 from rfl, fC] at hF
    have hc := h4
    by_cases he : e4 = 0
    · rw [if_neg (by simp [he])] at hF
      rw [he] at hc
      repeat' (first
 |refine aK fun K hK=>?_|refine Step.by1 ?_|refine sE (by decide) ?_|refine cz rfl ?_|refine Fork.by2 (fun h=>?_) fun h=>?_
 |((first|refine aR ?_|refine aC (f:=132) rfl rfl (hc) rfl rfl rfl ?_);simp [vl, NetD.cells, wI];try (simp (disch:=omega) only [wI];try simp [vl, NetD.cells, wI]))
 |(refine Split.by2 (fun h=>?_) (fun h=>?_)<;>(simp [h, vl, NetD.cells, wI];try (simp (disch:=omega) only [wI];try simp [vl, NetD.cells, wI])))
 |(apply hK;clear hK K)|refine AWh ‹_› ?_)
      refine ⟨5, ⟨by omega, hF, fun h => hz (by omega)⟩, by omega, ?_⟩; apply Weak.mk' <;> simp [vl, NetD.cells]
    · rw [if_pos he] at hF
      subst hF
      repeat' (first
 |refine aK fun K hK=>?_|refine Step.by1 ?_|refine sE (by decide) ?_|refine cz rfl ?_|refine Fork.by2 (fun h=>?_) fun h=>?_
 |((first|refine aR ?_|refine aC (f:=132) rfl rfl (hc) rfl rfl rfl ?_);simp [vl, NetD.cells, wI, he];try (simp (disch:=omega) only [wI];try simp [vl, NetD.cells, wI, he]))
 |(refine Split.by2 (fun h=>?_) (fun h=>?_)<;>(simp [h, vl, NetD.cells, wI, he];try (simp (disch:=omega) only [wI];try simp [vl, NetD.cells, wI, he])))
 |(apply hK;clear hK K)|refine AWh ‹_› ?_)
      exact r1q (cE rfl rfl)
  · rw [show [e0, e1, e2, e3, e4, e5, e6, e7, e8].drop 5 = e5 :: [e0, e1, e2, e3, e4, e5, e6, e7, e8].drop 6 from rfl, fC] at hF
    have hc := h5
    by_cases he : e5 = 0
    · rw [if_neg (by simp [he])] at hF
      rw [he] at hc
      repeat' (first
 |refine aK fun K hK=>?_|refine Step.by1 ?_|refine sE (by decide) ?_|refine cz rfl ?_|refine Fork.by2 (fun h=>?_) fun h=>?_
 |((first|refine aR ?_|refine aC (f:=133) rfl rfl (hc) rfl rfl rfl ?_);simp [vl, NetD.cells, wI];try (simp (disch:=omega) only [wI];try simp [vl, NetD.cells, wI]))
 |(refine Split.by2 (fun h=>?_) (fun h=>?_)<;>(simp [h, vl, NetD.cells, wI];try (simp (disch:=omega) only [wI];try simp [vl, NetD.cells, wI])))
 |(apply hK;clear hK K)|refine AWh ‹_› ?_)
      refine ⟨6, ⟨by omega, hF, fun h => hz (by omega)⟩, by omega, ?_⟩; apply Weak.mk' <;> simp [vl, NetD.cells]
    · rw [if_pos he] at hF
      subst hF
      repeat' (first
 |refine aK fun K hK=>?_|refine Step.by1 ?_|refine sE (by decide) ?_|refine cz rfl ?_|refine Fork.by2 (fun h=>?_) fun h=>?_
 |((first|refine aR ?_|refine aC (f:=133) rfl rfl (hc) rfl rfl rfl ?_);simp [vl, NetD.cells, wI, he];try (simp (disch:=omega) only [wI];try simp [vl, NetD.cells, wI, he]))
 |(refine Split.by2 (fun h=>?_) (fun h=>?_)<;>(simp [h, vl, NetD.cells, wI, he];try (simp (disch:=omega) only [wI];try simp [vl, NetD.cells, wI, he])))
 |(apply hK;clear hK K)|refine AWh ‹_› ?_)
      exact r1q (cE rfl rfl)
  · rw [show [e0, e1, e2, e3, e4, e5, e6, e7, e8].drop 6 = e6 :: [e0, e1, e2, e3, e4, e5, e6, e7, e8].drop 7 from rfl, fC] at hF
    have hc := h6 (hz (by omega))
    by_cases he : e6 = 0
    · rw [if_neg (by simp [he])] at hF
      rw [he] at hc
      repeat' (first
 |refine aK fun K hK=>?_|refine Step.by1 ?_|refine sE (by decide) ?_|refine cz rfl ?_|refine Fork.by2 (fun h=>?_) fun h=>?_
 |((first|refine aR ?_|refine aC (f:=134) rfl rfl (hc) rfl rfl rfl ?_);simp [vl, NetD.cells, wI];try (simp (disch:=omega) only [wI];try simp [vl, NetD.cells, wI]))
 |(refine Split.by2 (fun h=>?_) (fun h=>?_)<;>(simp [h, vl, NetD.cells, wI];try (simp (disch:=omega) only [wI];try simp [vl, NetD.cells, wI])))
 |(apply hK;clear hK K)|refine AWh ‹_› ?_)
      refine ⟨7, ⟨by omega, hF, fun h => hz (by omega)⟩, by omega, ?_⟩; apply Weak.mk' <;> simp [vl, NetD.cells]
    · rw [if_pos he] at hF
      subst hF
      repeat' (first
 |refine aK fun K hK=>?_|refine Step.by1 ?_|refine sE (by decide) ?_|refine cz rfl ?_|refine Fork.by2 (fun h=>?_) fun h=>?_
 |((first|refine aR ?_|refine aC (f:=134) rfl rfl (hc) rfl rfl rfl ?_);simp [vl, NetD.cells, wI, he];try (simp (disch:=omega) only [wI];try simp [vl, NetD.cells, wI, he]))
 |(refine Split.by2 (fun h=>?_) (fun h=>?_)<;>(simp [h, vl, NetD.cells, wI, he];try (simp (disch:=omega) only [wI];try simp [vl, NetD.cells, wI, he])))
 |(apply hK;clear hK K)|refine AWh ‹_› ?_)
      exact r1q (cE rfl rfl)
  · rw [show [e0, e1, e2, e3, e4, e5, e6, e7, e8].drop 7 = e7 :: [e0, e1, e2, e3, e4, e5, e6, e7, e8].drop 8 from rfl, fC] at hF
    have hc := h7 (hz (by omega))
    by_cases he : e7 = 0
    · rw [if_neg (by simp [he])] at hF
      rw [he] at hc
      repeat' (first
 |refine aK fun K hK=>?_|refine Step.by1 ?_|refine sE (by decide) ?_|refine cz rfl ?_|refine Fork.by2 (fun h=>?_) fun h=>?_
 |((first|refine aR ?_|refine aC (f:=135) rfl rfl (hc) rfl rfl rfl ?_);simp [vl, NetD.cells, wI];try (simp (disch:=omega) only [wI];try simp [vl, NetD.cells, wI]))
 |(refine Split.by2 (fun h=>?_) (fun h=>?_)<;>(simp [h, vl, NetD.cells, wI];try (simp (disch:=omega) only [wI];try simp [vl, NetD.cells, wI])))
 |(apply hK;clear hK K)|refine AWh ‹_› ?_)
      refine ⟨8, ⟨by omega, hF, fun h => hz (by omega)⟩, by omega, ?_⟩; apply Weak.mk' <;> simp [vl, NetD.cells]
    · rw [if_pos he] at hF
      subst hF
      repeat' (first
 |refine aK fun K hK=>?_|refine Step.by1 ?_|refine sE (by decide) ?_|refine cz rfl ?_|refine Fork.by2 (fun h=>?_) fun h=>?_
 |((first|refine aR ?_|refine aC (f:=135) rfl rfl (hc) rfl rfl rfl ?_);simp [vl, NetD.cells, wI, he];try (simp (disch:=omega) only [wI];try simp [vl, NetD.cells, wI, he]))
 |(refine Split.by2 (fun h=>?_) (fun h=>?_)<;>(simp [h, vl, NetD.cells, wI, he];try (simp (disch:=omega) only [wI];try simp [vl, NetD.cells, wI, he])))
 |(apply hK;clear hK K)|refine AWh ‹_› ?_)
      exact r1q (cE rfl rfl)
  · rw [show [e0, e1, e2, e3, e4, e5, e6, e7, e8].drop 8 = e8 :: [e0, e1, e2, e3, e4, e5, e6, e7, e8].drop 9 from rfl, fC] at hF
    have hc := h8 (hz (by omega))
    by_cases he : e8 = 0
    · rw [if_neg (by simp [he])] at hF
      rw [he] at hc
      repeat' (first
 |refine aK fun K hK=>?_|refine Step.by1 ?_|refine sE (by decide) ?_|refine cz rfl ?_|refine Fork.by2 (fun h=>?_) fun h=>?_
 |((first|refine aR ?_|refine aC (f:=136) rfl rfl (hc) rfl rfl rfl ?_);simp [vl, NetD.cells, wI];try (simp (disch:=omega) only [wI];try simp [vl, NetD.cells, wI]))
 |(refine Split.by2 (fun h=>?_) (fun h=>?_)<;>(simp [h, vl, NetD.cells, wI];try (simp (disch:=omega) only [wI];try simp [vl, NetD.cells, wI])))
 |(apply hK;clear hK K)|refine AWh ‹_› ?_)
      refine ⟨9, ⟨by omega, hF, fun h => hz (by omega)⟩, by omega, ?_⟩; apply Weak.mk' <;> simp [vl, NetD.cells]
    · rw [if_pos he] at hF
      subst hF
      repeat' (first
 |refine aK fun K hK=>?_|refine Step.by1 ?_|refine sE (by decide) ?_|refine cz rfl ?_|refine Fork.by2 (fun h=>?_) fun h=>?_
 |((first|refine aR ?_|refine aC (f:=136) rfl rfl (hc) rfl rfl rfl ?_);simp [vl, NetD.cells, wI, he];try (simp (disch:=omega) only [wI];try simp [vl, NetD.cells, wI, he]))
 |(refine Split.by2 (fun h=>?_) (fun h=>?_)<;>(simp [h, vl, NetD.cells, wI, he];try (simp (disch:=omega) only [wI];try simp [vl, NetD.cells, wI, he])))
 |(apply hK;clear hK K)|refine AWh ‹_› ?_)
      exact r1q (cE rfl rfl)
  · repeat' (first
 |refine aK fun K hK=>?_|refine Step.by1 ?_|refine sE (by decide) ?_|refine cz rfl ?_|refine Fork.by2 (fun h=>?_) fun h=>?_
 |(refine aR ?_;simp [vl, NetD.cells])
 |(refine Split.by2 (fun h=>?_) (fun h=>?_)<;>(simp [h, vl, NetD.cells]))
 |(apply hK;clear hK K)|refine AWh ‹_› ?_)
    exact r1q (cE (by rw [← hF]; rfl) rfl)
  · omega

theorem r_digit (c : Int) : PC 238 [.int .u8 c] (.bool (isDigit c)) := by
  refine pB Tryz.func238 rfl (by decide) Tryz.ntmps238 (by simp) Tryz.results238 ?_
  repeat' (first
 |refine aK fun K hK=>?_|refine Step.by1 ?_|refine sE (by decide) ?_|refine cz rfl ?_|refine Fork.by2 (fun h=>?_) fun h=>?_
 |(refine aR ?_;simp)
 |(refine Split.by2 (fun h=>?_) (fun h=>?_)<;>(simp [h]))
 |(apply hK;clear hK K)|refine AWh ‹_› ?_)
  all_goals first
    | exact r1q (cE (by simp [isDigit, *]; done) rfl)
    | exact r1q (cE (by simp [isDigit, *]; omega) rfl)
theorem r_letter (c : Int) : PC 240 [.int .u8 c] (.bool (isLetter c)) := by
  refine pB Tryz.func240 rfl (by decide) Tryz.ntmps240 (by simp) Tryz.results240 ?_
  repeat' (first
 |refine aK fun K hK=>?_|refine Step.by1 ?_|refine sE (by decide) ?_|refine cz rfl ?_|refine Fork.by2 (fun h=>?_) fun h=>?_
 |(refine aR ?_;simp)
 |(refine Split.by2 (fun h=>?_) (fun h=>?_)<;>(simp [h]))
 |(apply hK;clear hK K)|refine AWh ‹_› ?_)
  all_goals first
    | exact r1q (cE (by simp [isLetter, *]; done) rfl)
    | exact r1q (cE (by simp [isLetter, *]; omega) rfl)
    | (exfalso; omega)
/-- Where a remark ends that a place lies in. -/
def remE (s : ByteArray) : Nat → Nat → Nat
  | 0, i => i
  | k + 1, i => if i < s.size ∧ byteS s i ≠ 10 then remE s k (i + 1) else i
theorem remE_stop {s : ByteArray} {k i : Nat} (h : ¬ (i < s.size ∧ byteS s i ≠ 10)) : remE s k i = i := by cases k <;> simp only [remE, if_neg h]
/-- The place behind blanks and remarks. -/
def begE (s : ByteArray) : Nat → Nat → Nat
  | 0, i => i
  | k + 1, i => if i < s.size then (if byteS s i = 32 ∨ byteS s i = 9 ∨ byteS s i = 13 ∨ byteS s i = 10 then begE s k (i + 1) else if byteS s i = 35 then begE s k (remE s (s.size - i) i) else i) else i
theorem remE_ge {s : ByteArray} : ∀ (k i : Nat), i ≤ remE s k i ∧ (remE s k i ≤ s.size ∨ remE s k i = i)
  | 0, i => ⟨Nat.le_refl _, .inr rfl⟩
  | k + 1, i => by
    unfold remE
    split
    · rename_i h
      have := remE_ge (s := s) k (i + 1)
      omega
    · exact ⟨Nat.le_refl _, .inr rfl⟩
set_option maxRecDepth 8000 in
set_option maxHeartbeats 4000000 in
theorem r_begin (s : ByteArray) (at0 : Nat) (hs : s.size ≤ 1099511627776) (ha : at0 ≤ s.size) : PC 237 [.str s, .int .i64 at0] (.int .i64 (begE s (s.size + 1 - at0) at0)) := by
  obtain ⟨r, hr⟩ : ∃ r, begE s (s.size + 1 - at0) at0 = r := ⟨_, rfl⟩
  rw [hr]
  refine pB Tryz.func237 rfl (by decide) Tryz.ntmps237 (by simp) Tryz.results237 ?_
  repeat' (first
 |refine aK fun K hK=>?_|refine Step.by1 ?_|refine sE (by decide) ?_|refine cz rfl ?_|refine Fork.by2 (fun h=>?_) fun h=>?_
 |(refine aR ?_;simp)
 |(refine Split.by2 (fun h=>?_) (fun h=>?_)<;>(simp [h]))
 |(apply hK;clear hK K)|refine AWh ‹_› ?_)
  refine aL [0] (fun p : Nat => [(1, .int .i64 p)]) (fun _ => []) (fun p => p ≤ s.size ∧ ∃ f, s.size + 1 ≤ f + p ∧ begE s f p = r) (fun p => s.size + 1 - p) at0 ⟨ha, s.size + 1 - at0, by omega, hr⟩ (by apply Weak.mk' <;> simp) (fun _ _ => rfl) ?_
  rintro p ⟨h1, f, h2, h3⟩
  obtain ⟨f', rfl⟩ : ∃ f', f = f' + 1 := ⟨f - 1, by omega⟩
  unfold begE at h3
  by_cases hlt : p < s.size
  · have hlt' : (p : Int) < s.size := by omega
    rw [if_pos hlt] at h3
    obtain ⟨c, hc⟩ : ∃ c, byteS s p = c := ⟨_, rfl⟩
    rw [hc] at h3
    have hda : p < s.data.size := hlt
    have hb : ((s.data[p]).toNat : Int) = c := by rw [← hc]; simp [byteS, Array.getElem?_eq_getElem hda]
    by_cases hblank : c = 32 ∨ c = 9 ∨ c = 13 ∨ c = 10
    · rw [if_pos hblank] at h3
      repeat' (first
 |refine aK fun K hK=>?_|refine Step.by1 ?_|refine sE (by decide) ?_|refine cz rfl ?_|refine Fork.by2 (fun h=>?_) fun h=>?_
 |(refine aR ?_;simp [hlt, hlt', hb, wI];try (simp (disch:=omega) only [wI];try simp [hlt, hlt', hb, wI]))
 |(refine Split.by2 (fun h=>?_) (fun h=>?_)<;>(simp [h, hlt, hlt', hb, wI];try (simp (disch:=omega) only [wI];try simp [hlt, hlt', hb, wI])))
 |(apply hK;clear hK K)|refine AWh ‹_› ?_)
      all_goals first
        | (refine ⟨p + 1, ⟨by omega, f', by omega, h3⟩, by omega, ?_⟩; apply Weak.mk' <;> simp)
        | (exfalso; omega)
    · rw [if_neg hblank] at h3
      have e1 : ¬ c = 32 := by omega
      have e2 : ¬ c = 9 := by omega
      have e3 : ¬ c = 13 := by omega
      have e4 : ¬ c = 10 := by omega
      by_cases hrem : c = 35
      · rw [if_pos hrem] at h3
        have hge := remE_ge (s := s) (s.size - p) p
        have hstep : remE s (s.size - p) p = remE s (s.size - (p + 1)) (p + 1) := by
          rw [show s.size - p = (s.size - (p + 1)) + 1 by omega]
          conv => lhs; unfold remE
          rw [if_pos ⟨hlt, by omega⟩]
        have hge2 := remE_ge (s := s) (s.size - (p + 1)) (p + 1)
        obtain ⟨e, he⟩ : ∃ e, remE s (s.size - p) p = e := ⟨_, rfl⟩
        rw [← hstep] at hge2
        rw [he] at h3 hge hge2
        repeat' (first
 |refine aK fun K hK=>?_|refine Step.by1 ?_|refine sE (by decide) ?_|refine cz rfl ?_|refine Fork.by2 (fun h=>?_) fun h=>?_
 |(refine aR ?_;simp [hlt, hlt', hb, e1, e2, e3, e4, hrem, wI];try (simp (disch:=omega) only [wI];try simp [hlt, hlt', hb, e1, e2, e3, e4, hrem, wI]))
 |(refine Split.by2 (fun h=>?_) (fun h=>?_)<;>(simp [h, hlt, hlt', hb, e1, e2, e3, e4, hrem, wI];try (simp (disch:=omega) only [wI];try simp [hlt, hlt', hb, e1, e2, e3, e4, hrem, wI])))
 |(apply hK;clear hK K)|refine AWh ‹_› ?_)
        refine aL [0] (fun q : Nat => [(1, .int .i64 q)]) (fun _ => []) (fun q => p ≤ q ∧ q ≤ s.size ∧ remE s (s.size - q) q = e) (fun q => s.size - q) p ⟨Nat.le_refl _, h1, he⟩ (by apply Weak.mk' <;> simp) (fun _ _ => rfl) ?_
        rintro q ⟨k0, k1, k2⟩
        by_cases hq : q < s.size
        · have hq' : (q : Int) < s.size := by omega
          obtain ⟨d, hd⟩ : ∃ d, byteS s q = d := ⟨_, rfl⟩
          have hdq : q < s.data.size := hq
          have hbq : ((s.data[q]).toNat : Int) = d := by rw [← hd]; simp [byteS, Array.getElem?_eq_getElem hdq]
          by_cases hnl : d = 10
          · rw [remE_stop (by rw [hd]; omega)] at k2
            subst k2
            repeat' (first
 |refine aK fun K hK=>?_|refine Step.by1 ?_|refine sE (by decide) ?_|refine cz rfl ?_|refine Fork.by2 (fun h=>?_) fun h=>?_
 |(refine aR ?_;simp [hq, hq', hbq, hnl, wI];try (simp (disch:=omega) only [wI];try simp [hq, hq', hbq, hnl, wI]))
 |(refine Split.by2 (fun h=>?_) (fun h=>?_)<;>(simp [h, hq, hq', hbq, hnl, wI];try (simp (disch:=omega) only [wI];try simp [hq, hq', hbq, hnl, wI])))
 |(apply hK;clear hK K)|refine AWh ‹_› ?_)
            refine ⟨q, ⟨by omega, f', by omega, h3⟩, by omega, ?_⟩; apply Weak.mk' <;> simp
          · rw [show s.size - q = (s.size - (q + 1)) + 1 by omega] at k2
            unfold remE at k2
            rw [hd, if_pos ⟨hq, hnl⟩] at k2
            repeat' (first
 |refine aK fun K hK=>?_|refine Step.by1 ?_|refine sE (by decide) ?_|refine cz rfl ?_|refine Fork.by2 (fun h=>?_) fun h=>?_
 |(refine aR ?_;simp [hq, hq', hbq, hnl, wI];try (simp (disch:=omega) only [wI];try simp [hq, hq', hbq, hnl, wI]))
 |(refine Split.by2 (fun h=>?_) (fun h=>?_)<;>(simp [h, hq, hq', hbq, hnl, wI];try (simp (disch:=omega) only [wI];try simp [hq, hq', hbq, hnl, wI])))
 |(apply hK;clear hK K)|refine AWh ‹_› ?_)
            refine ⟨q + 1, ⟨by omega, by omega, k2⟩, by omega, ?_⟩; apply Weak.mk' <;> simp
        · have hq' : ¬ (q : Int) < s.size := by omega
          rw [remE_stop (by omega)] at k2
          subst k2
          repeat' (first
 |refine aK fun K hK=>?_|refine Step.by1 ?_|refine sE (by decide) ?_|refine cz rfl ?_|refine Fork.by2 (fun h=>?_) fun h=>?_
 |(refine aR ?_;simp [hq, hq', wI];try (simp (disch:=omega) only [wI];try simp [hq, hq', wI]))
 |(refine Split.by2 (fun h=>?_) (fun h=>?_)<;>(simp [h, hq, hq', wI];try (simp (disch:=omega) only [wI];try simp [hq, hq', wI])))
 |(apply hK;clear hK K)|refine AWh ‹_› ?_)
          refine ⟨q, ⟨by omega, f', by omega, h3⟩, by omega, ?_⟩; apply Weak.mk' <;> simp
      · rw [if_neg hrem] at h3
        repeat' (first
 |refine aK fun K hK=>?_|refine Step.by1 ?_|refine sE (by decide) ?_|refine cz rfl ?_|refine Fork.by2 (fun h=>?_) fun h=>?_
 |(refine aR ?_;simp [hlt, hlt', hb, e1, e2, e3, e4, hrem, wI];try (simp (disch:=omega) only [wI];try simp [hlt, hlt', hb, e1, e2, e3, e4, hrem, wI]))
 |(refine Split.by2 (fun h=>?_) (fun h=>?_)<;>(simp [h, hlt, hlt', hb, e1, e2, e3, e4, hrem, wI];try (simp (disch:=omega) only [wI];try simp [hlt, hlt', hb, e1, e2, e3, e4, hrem, wI])))
 |(apply hK;clear hK K)|refine AWh ‹_› ?_)
        exact r1q (cE (by simp [h3]) rfl)
  · have hlt' : ¬ (p : Int) < s.size := by omega
    rw [if_neg hlt] at h3
    repeat' (first
 |refine aK fun K hK=>?_|refine Step.by1 ?_|refine sE (by decide) ?_|refine cz rfl ?_|refine Fork.by2 (fun h=>?_) fun h=>?_
 |(refine aR ?_;simp [hlt, hlt'])
 |(refine Split.by2 (fun h=>?_) (fun h=>?_)<;>(simp [h, hlt, hlt']))
 |(apply hK;clear hK K)|refine AWh ‹_› ?_)
    exact r1q (cE (by simp [h3]) rfl)
end Go.Proofs.YtgmlimipejcpgaaGreatDoor
end
