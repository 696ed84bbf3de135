/-
  YtbgooadmonnjaaaGreatDoorRc16: steps of the proof of a law of the program: what these texts prove holds under the hypotheses that their theorems name, and no others.
-/
import Derived.Test.YtbgooadmonnjaaaGreatDoorRc15
import Derived.Test.YtbgooadmonnjaaaGreatDoorRc12
import Derived.Test.YtbgooadmonnjaaaGreatDoorRc13
import Derived.Test.YtbgooadmonnjaaaGreatDoorRc14
import Derived.Test.YtbgooadmonnjaaaGreatDoorRc10
section
set_option linter.unusedSimpArgs false
set_option linter.unusedVariables false
namespace Go.Proofs.YtbgooadmonnjaaaGreatDoor
open Go Go.AM Fx
set_option maxRecDepth 8000 in
set_option maxHeartbeats 4000000 in
theorem c_names (n : NetD) (hn : n.ok) : PC 228 [.agg n.cells] (.int .i64 (namesE n)) := by
  have hA := c_all n hn
  have hl : (allL n).length ≤ 1099511627776 := by obtain ⟨⟨h1, _⟩, ⟨h2, _⟩, ⟨h3, _⟩, h4, h5⟩ := hn; simp [allL, namesL]; omega
  have hs : ∀ s ∈ allL n, s.size ≤ 1048576 := by
    obtain ⟨⟨_, h1⟩, ⟨_, h2⟩, ⟨_, h3⟩, _, h5⟩ := hn
    intro s hs
    simp only [allL, namesL, List.mem_append, List.mem_map] at hs
    rcases hs with hs | ⟨v, hv, rfl⟩ | hs | ⟨a, ha, rfl⟩
    · exact h1 s hs
    · exact (h2 v hv).1
    · exact h3 s hs
    · exact (h5 a ha).1
  have hG := c_given (allL n) hl hs
  obtain ⟨_, _, _, h4, h5⟩ := hn
  obtain ⟨r, hr⟩ : ∃ r, namesE n = r := ⟨_, rfl⟩
  rw [hr]
  unfold namesE namesB at hr
  generalize allL n = al at *
  generalize givenB al = gb at *
  simp only [vl, NetD.cells] at hA hG
  refine pB Tryz.func228 rfl (by decide) Tryz.ntmps228 (by simp) Tryz.results228 ?_
  cases gb
  · repeat' (first
 |refine aK fun K hK=>?_|refine Step.by1 ?_|refine sE (by decide) ?_|refine cz rfl ?_|refine Fork.by2 (fun h=>?_) fun h=>?_
 |((first|refine aR ?_|refine aC (f:=266) rfl rfl (hA) rfl rfl rfl ?_|refine aC (f:=265) rfl rfl (hG) rfl rfl rfl ?_);simp [vl, NetD.cells])
 |(refine Split.by2 (fun h=>?_) (fun h=>?_)<;>(simp [h, vl, NetD.cells]))
 |(apply hK;clear hK K)|refine AWh ‹_› ?_)
    exact r1q (cE (by rw [← hr]; rfl) rfl)
  · rw [Bool.not_true, Bool.false_or] at hr
    obtain ⟨E, hE⟩ : ∃ E : List AutoD → Int, E = fun l => if anyL (fun a => !givenB (locNamesL a)) l = true then 112 else 0 := ⟨_, rfl⟩
    have hEc : ∀ a l, E (a :: l) = if givenB (locNamesL a) = true then E l else 112 := fun a l => by subst hE; cases h : givenB (locNamesL a) <;> simp [anC, h]
    have hEn : E n.autos = r := by subst hE; exact hr
    have hE0 : E [] = 0 := by subst hE; rfl
    clear hr hE
    repeat' (first
 |refine aK fun K hK=>?_|refine Step.by1 ?_|refine sE (by decide) ?_|refine cz rfl ?_|refine Fork.by2 (fun h=>?_) fun h=>?_
 |((first|refine aR ?_|refine aC (f:=266) rfl rfl (hA) rfl rfl rfl ?_|refine aC (f:=265) rfl rfl (hG) rfl rfl rfl ?_);simp [vl, NetD.cells])
 |(refine Split.by2 (fun h=>?_) (fun h=>?_)<;>(simp [h, vl, NetD.cells]))
 |(apply hK;clear hK K)|refine AWh ‹_› ?_)
    refine aS1 (r := r) n.autos 12 [10, 11] E hEn (by apply Weak.mk' <;> simp [vl, NetD.cells]) ?_ ?_
    · intro i a _ hlt ha hF
      rw [hEc] at hF
      have hoa := h5 a (ha ▸ List.getElem_mem hlt)
      have hal : a.locs.length ≤ 1048576 := hoa.2.1.1
      have hlen : (locNamesL a).length = a.locs.length := by simp [locNamesL]
      have hL := c_locNames a hal
      have hG2 := c_given (locNamesL a) (by omega) (fun s hs => by
        simp only [locNamesL, List.mem_map] at hs
        obtain ⟨x, hx, rfl⟩ := hs
        exact (hoa.2.1.2 x hx).1)
      have hlt' : (i : Int) < n.autos.length := by omega
      have w1 : IntKind.i64.wrap ((i : Int) + 1) = i + 1 := wI (by omega) (by omega)
      generalize locNamesL a = ln at *
      generalize givenB ln = gb at *
      simp only [vl, strV, AutoD.cells] at hL hG2
      cases gb
      · repeat' (first
 |refine aK fun K hK=>?_|refine Step.by1 ?_|refine sE (by decide) ?_|refine cz rfl ?_|refine Fork.by2 (fun h=>?_) fun h=>?_
 |((first|refine aR ?_|refine aC (f:=267) rfl rfl (hL) rfl rfl rfl ?_|refine aC (f:=265) rfl rfl (hG2) rfl rfl rfl ?_);simp [vl, NetD.cells, AutoD.cells, hlt, hlt', ha, w1])
 |(refine Split.by2 (fun h=>?_) (fun h=>?_)<;>(simp [h, vl, NetD.cells, AutoD.cells, hlt, hlt', ha, w1]))
 |(apply hK;clear hK K)|refine AWh ‹_› ?_)
        exact r1q (cE (by rw [← hF]; rfl) rfl)
      · repeat' (first
 |refine aK fun K hK=>?_|refine Step.by1 ?_|refine sE (by decide) ?_|refine cz rfl ?_|refine Fork.by2 (fun h=>?_) fun h=>?_
 |((first|refine aR ?_|refine aC (f:=267) rfl rfl (hL) rfl rfl rfl ?_|refine aC (f:=265) rfl rfl (hG2) rfl rfl rfl ?_);simp [vl, NetD.cells, AutoD.cells, hlt, hlt', ha, w1])
 |(refine Split.by2 (fun h=>?_) (fun h=>?_)<;>(simp [h, vl, NetD.cells, AutoD.cells, hlt, hlt', ha, w1]))
 |(apply hK;clear hK K)|refine AWh ‹_› ?_)
        refine ⟨by rw [← hF]; rfl, ?_⟩; apply Weak.mk' <;> simp [vl, NetD.cells]
    · intro hF
      repeat' (first
 |refine aK fun K hK=>?_|refine Step.by1 ?_|refine sE (by decide) ?_|refine cz rfl ?_|refine Fork.by2 (fun h=>?_) fun h=>?_
 |(refine aR ?_;simp [vl, NetD.cells])
 |(refine Split.by2 (fun h=>?_) (fun h=>?_)<;>(simp [h, vl, NetD.cells]))
 |(apply hK;clear hK K)|refine AWh ‹_› ?_)
      exact r1q (cE (by rw [← hF, hE0]; rfl) rfl)
theorem small_sizes {n : NetD} (h : sizesE n = 0) : Small n := by
  unfold sizesE at h
  split at h
  · cases h
  · rename_i h'; exact small_of (by simpa using h')
theorem anyL_len (n : NetD) (hn : n.ok) : ∀ a ∈ n.autos, a.locs.length ≤ 1099511627776 := fun a ha => by have := (hn.2.2.2.2 a ha).2.1.1; omega
set_option maxRecDepth 20000 in
set_option maxHeartbeats 16000000 in
theorem c_Whole (n : NetD) (hn : n.ok) : PC 176 [.agg n.cells] (.int .i64 (wholeE n)) := by
  have l1 := hn.2.2.2.1
  have l2 := hn.2.1.1
  have h0 := c_someE n (by omega)
  have h1 := c_sizes n hn
  have h2 := c_names n hn
  have h3 := c_varE n (by omega)
  have h4 := c_locs n (by omega) (anyL_len n hn)
  have h5 := c_edges n hn
  have h6 : sizesE n = 0 → PC 232 [.agg n.cells] (.int .i64 (clocksE n)) := fun h => c_clocks n (small_sizes h)
  have h7 : sizesE n = 0 → PC 233 [.agg n.cells] (.int .i64 (formsE n)) := fun h => c_forms n (small_sizes h)
  have h8 : sizesE n = 0 → PC 234 [.agg n.cells] (.int .i64 (testsE n)) := fun h => c_tests n hn (small_sizes h)
  obtain ⟨r, hr⟩ : ∃ r, wholeE n = r := ⟨_, rfl⟩
  rw [hr]
  unfold wholeE at hr
  generalize someE n = e0 at *
  generalize sizesE n = e1 at *
  generalize namesE n = e2 at *
  generalize varE n.vars = e3 at *
  generalize locsE n.autos = e4 at *
  generalize edgesE n n.autos = e5 at *
  generalize clocksE n = e6 at *
  generalize formsE n = e7 at *
  generalize testsE n = e8 at *
  simp only [vl, NetD.cells] at h0 h1 h2 h3 h4 h5 h6 h7 h8
  refine pB Tryz.func176 rfl (by decide) Tryz.ntmps176 (by simp) Tryz.results176 ?_
  repeat' (first
 |refine aK fun K hK=>?_|refine Step.by1 ?_|refine sE (by decide) ?_|refine cz rfl ?_|refine Fork.by2 (fun h=>?_) fun h=>?_
 |(refine aR ?_;simp [vl, NetD.cells])
 |(refine Split.by2 (fun h=>?_) (fun h=>?_)<;>(simp [h, vl, NetD.cells]))
 |(apply hK;clear hK K)|refine AWh ‹_› ?_)
  refine aL [1, 8, 9] (fun i : Nat => [(10, .int .i64 i)]) (fun _ => [.var n.cells, .row 104 0 0 true [[.fn (.func 226) [] []], [.fn (.func 227) [] []], [.fn (.func 228) [] []], [.fn (.func 229) [] []], [.fn (.func 230) [] []], [.fn (.func 231) [] []], [.fn (.func 232) [] []], [.fn (.func 233) [] []], [.fn (.func 234) [] []]]])
    (fun i => i ≤ 9 ∧ firstE ([e0, e1, e2, e3, e4, e5, e6, e7, e8].drop i) = r ∧ (2 ≤ i → e1 = 0)) (fun i => 9 - i) 0 ⟨Nat.zero_le _, hr, fun h => by omega⟩ (by apply Weak.mk' <;> simp [vl, NetD.cells]) (fun _ _ => rfl) ?_
  rintro i ⟨hi, hF, hz⟩
  have w1 : IntKind.i64.wrap ((i : Int) + 1) = i + 1 := wI (by omega) (by omega)
  rcases i with _ | _ | _ | _ | _ | _ | _ | _ | _ | _ | i
  · rw [show [e0, e1, e2, e3, e4, e5, e6, e7, e8].drop 0 = e0 :: [e0, e1, e2, e3, e4, e5, e6, e7, e8].drop 1 from rfl, fC] at hF
    have hc := h0
    by_cases he : e0 = 0
    · rw [if_neg (by simp [he])] at hF
      rw [he] at hc
      repeat' (first
 |refine aK fun K hK=>?_|refine Step.by1 ?_|refine sE (by decide) ?_|refine cz rfl ?_|refine Fork.by2 (fun h=>?_) fun h=>?_
 |((first|refine aR ?_|refine aC (f:=226) rfl rfl (hc) rfl rfl rfl ?_);simp [vl, NetD.cells, wI];try (simp (disch:=omega) only [wI];try simp [vl, NetD.cells, wI]))
 |(refine Split.by2 (fun h=>?_) (fun h=>?_)<;>(simp [h, vl, NetD.cells, wI];try (simp (disch:=omega) only [wI];try simp [vl, NetD.cells, wI])))
 |(apply hK;clear hK K)|refine AWh ‹_› ?_)
      refine ⟨1, ⟨by omega, hF, fun h => by omega⟩, by omega, ?_⟩; apply Weak.mk' <;> simp [vl, NetD.cells]
    · rw [if_pos he] at hF
      subst hF
      repeat' (first
 |refine aK fun K hK=>?_|refine Step.by1 ?_|refine sE (by decide) ?_|refine cz rfl ?_|refine Fork.by2 (fun h=>?_) fun h=>?_
 |((first|refine aR ?_|refine aC (f:=226) rfl rfl (hc) rfl rfl rfl ?_);simp [vl, NetD.cells, wI, he];try (simp (disch:=omega) only [wI];try simp [vl, NetD.cells, wI, he]))
 |(refine Split.by2 (fun h=>?_) (fun h=>?_)<;>(simp [h, vl, NetD.cells, wI, he];try (simp (disch:=omega) only [wI];try simp [vl, NetD.cells, wI, he])))
 |(apply hK;clear hK K)|refine AWh ‹_› ?_)
      exact r1q (cE rfl rfl)
  · rw [show [e0, e1, e2, e3, e4, e5, e6, e7, e8].drop 1 = e1 :: [e0, e1, e2, e3, e4, e5, e6, e7, e8].drop 2 from rfl, fC] at hF
    have hc := h1
    by_cases he : e1 = 0
    · rw [if_neg (by simp [he])] at hF
      rw [he] at hc
      repeat' (first
 |refine aK fun K hK=>?_|refine Step.by1 ?_|refine sE (by decide) ?_|refine cz rfl ?_|refine Fork.by2 (fun h=>?_) fun h=>?_
 |((first|refine aR ?_|refine aC (f:=227) rfl rfl (hc) rfl rfl rfl ?_);simp [vl, NetD.cells, wI];try (simp (disch:=omega) only [wI];try simp [vl, NetD.cells, wI]))
 |(refine Split.by2 (fun h=>?_) (fun h=>?_)<;>(simp [h, vl, NetD.cells, wI];try (simp (disch:=omega) only [wI];try simp [vl, NetD.cells, wI])))
 |(apply hK;clear hK K)|refine AWh ‹_› ?_)
      refine ⟨2, ⟨by omega, hF, fun h => he⟩, by omega, ?_⟩; apply Weak.mk' <;> simp [vl, NetD.cells]
    · rw [if_pos he] at hF
      subst hF
      repeat' (first
 |refine aK fun K hK=>?_|refine Step.by1 ?_|refine sE (by decide) ?_|refine cz rfl ?_|refine Fork.by2 (fun h=>?_) fun h=>?_
 |((first|refine aR ?_|refine aC (f:=227) rfl rfl (hc) rfl rfl rfl ?_);simp [vl, NetD.cells, wI, he];try (simp (disch:=omega) only [wI];try simp [vl, NetD.cells, wI, he]))
 |(refine Split.by2 (fun h=>?_) (fun h=>?_)<;>(simp [h, vl, NetD.cells, wI, he];try (simp (disch:=omega) only [wI];try simp [vl, NetD.cells, wI, he])))
 |(apply hK;clear hK K)|refine AWh ‹_› ?_)
      exact r1q (cE rfl rfl)
  · rw [show [e0, e1, e2, e3, e4, e5, e6, e7, e8].drop 2 = e2 :: [e0, e1, e2, e3, e4, e5, e6, e7, e8].drop 3 from rfl, fC] at hF
    have hc := h2
    by_cases he : e2 = 0
    · rw [if_neg (by simp [he])] at hF
      rw [he] at hc
      repeat' (first
 |refine aK fun K hK=>?_|refine Step.by1 ?_|refine sE (by decide) ?_|refine cz rfl ?_|refine Fork.by2 (fun h=>?_) fun h=>?_
 |((first|refine aR ?_|refine aC (f:=228) rfl rfl (hc) rfl rfl rfl ?_);simp [vl, NetD.cells, wI];try (simp (disch:=omega) only [wI];try simp [vl, NetD.cells, wI]))
 |(refine Split.by2 (fun h=>?_) (fun h=>?_)<;>(simp [h, vl, NetD.cells, wI];try (simp (disch:=omega) only [wI];try simp [vl, NetD.cells, wI])))
 |(apply hK;clear hK K)|refine AWh ‹_› ?_)
      refine ⟨3, ⟨by omega, hF, fun h => hz (by omega)⟩, by omega, ?_⟩; apply Weak.mk' <;> simp [vl, NetD.cells]
    · rw [if_pos he] at hF
      subst hF
      repeat' (first
 |refine aK fun K hK=>?_|refine Step.by1 ?_|refine sE (by decide) ?_|refine cz rfl ?_|refine Fork.by2 (fun h=>?_) fun h=>?_
 |((first|refine aR ?_|refine aC (f:=228) rfl rfl (hc) rfl rfl rfl ?_);simp [vl, NetD.cells, wI, he];try (simp (disch:=omega) only [wI];try simp [vl, NetD.cells, wI, he]))
 |(refine Split.by2 (fun h=>?_) (fun h=>?_)<;>(simp [h, vl, NetD.cells, wI, he];try (simp (disch:=omega) only [wI];try simp [vl, NetD.cells, wI, he])))
 |(apply hK;clear hK K)|refine AWh ‹_› ?_)
      exact r1q (cE rfl rfl)
  · rw [show [e0, e1, e2, e3, e4, e5, e6, e7, e8].drop 3 = e3 :: [e0, e1, e2, e3, e4, e5, e6, e7, e8].drop 4 from rfl, fC] at hF
    have hc := h3
    by_cases he : e3 = 0
    · rw [if_neg (by simp [he])] at hF
      rw [he] at hc
      repeat' (first
 |refine aK fun K hK=>?_|refine Step.by1 ?_|refine sE (by decide) ?_|refine cz rfl ?_|refine Fork.by2 (fun h=>?_) fun h=>?_
 |((first|refine aR ?_|refine aC (f:=229) rfl rfl (hc) rfl rfl rfl ?_);simp [vl, NetD.cells, wI];try (simp (disch:=omega) only [wI];try simp [vl, NetD.cells, wI]))
 |(refine Split.by2 (fun h=>?_) (fun h=>?_)<;>(simp [h, vl, NetD.cells, wI];try (simp (disch:=omega) only [wI];try simp [vl, NetD.cells, wI])))
 |(apply hK;clear hK K)|refine AWh ‹_› ?_)
      refine ⟨4, ⟨by omega, hF, fun h => hz (by omega)⟩, by omega, ?_⟩; apply Weak.mk' <;> simp [vl, NetD.cells]
    · rw [if_pos he] at hF
      subst hF
      repeat' (first
 |refine aK fun K hK=>?_|refine Step.by1 ?_|refine sE (by decide) ?_|refine cz rfl ?_|refine Fork.by2 (fun h=>?_) fun h=>?_
 |((first|refine aR ?_|refine aC (f:=229) rfl rfl (hc) rfl rfl rfl ?_);simp [vl, NetD.cells, wI, he];try (simp (disch:=omega) only [wI];try simp [vl, NetD.cells, wI, he]))
 |(refine Split.by2 (fun h=>?_) (fun h=>?_)<;>(simp [h, vl, NetD.cells, wI, he];try (simp (disch:=omega) only [wI];try simp [vl, NetD.cells, wI, he])))
 |(apply hK;clear hK K)|refine AWh ‹_› ?_)
      exact r1q (cE rfl rfl)
  · rw [show [e0, e1, e2, e3, e4, e5, e6, e7, e8].drop 4 = e4 :: [e0, e1, e2, e3, e4, e5, e6, e7, e8].drop 5 from rfl, fC] at hF
    have hc := h4
    by_cases he : e4 = 0
    · rw [if_neg (by simp [he])] at hF
      rw [he] at hc
      repeat' (first
 |refine aK fun K hK=>?_|refine Step.by1 ?_|refine sE (by decide) ?_|refine cz rfl ?_|refine Fork.by2 (fun h=>?_) fun h=>?_
 |((first|refine aR ?_|refine aC (f:=230) rfl rfl (hc) rfl rfl rfl ?_);simp [vl, NetD.cells, wI];try (simp (disch:=omega) only [wI];try simp [vl, NetD.cells, wI]))
 |(refine Split.by2 (fun h=>?_) (fun h=>?_)<;>(simp [h, vl, NetD.cells, wI];try (simp (disch:=omega) only [wI];try simp [vl, NetD.cells, wI])))
 |(apply hK;clear hK K)|refine AWh ‹_› ?_)
      refine ⟨5, ⟨by omega, hF, fun h => hz (by omega)⟩, by omega, ?_⟩; apply Weak.mk' <;> simp [vl, NetD.cells]
    · rw [if_pos he] at hF
      subst hF
      repeat' (first
 |refine aK fun K hK=>?_|refine Step.by1 ?_|refine sE (by decide) ?_|refine cz rfl ?_|refine Fork.by2 (fun h=>?_) fun h=>?_
 |((first|refine aR ?_|refine aC (f:=230) rfl rfl (hc) rfl rfl rfl ?_);simp [vl, NetD.cells, wI, he];try (simp (disch:=omega) only [wI];try simp [vl, NetD.cells, wI, he]))
 |(refine Split.by2 (fun h=>?_) (fun h=>?_)<;>(simp [h, vl, NetD.cells, wI, he];try (simp (disch:=omega) only [wI];try simp [vl, NetD.cells, wI, he])))
 |(apply hK;clear hK K)|refine AWh ‹_› ?_)
      exact r1q (cE rfl rfl)
  · rw [show [e0, e1, e2, e3, e4, e5, e6, e7, e8].drop 5 = e5 :: [e0, e1, e2, e3, e4, e5, e6, e7, e8].drop 6 from rfl, fC] at hF
    have hc := h5
    by_cases he : e5 = 0
    · rw [if_neg (by simp [he])] at hF
      rw [he] at hc
      repeat' (first
 |refine aK fun K hK=>?_|refine Step.by1 ?_|refine sE (by decide) ?_|refine cz rfl ?_|refine Fork.by2 (fun h=>?_) fun h=>?_
 |((first|refine aR ?_|refine aC (f:=231) rfl rfl (hc) rfl rfl rfl ?_);simp [vl, NetD.cells, wI];try (simp (disch:=omega) only [wI];try simp [vl, NetD.cells, wI]))
 |(refine Split.by2 (fun h=>?_) (fun h=>?_)<;>(simp [h, vl, NetD.cells, wI];try (simp (disch:=omega) only [wI];try simp [vl, NetD.cells, wI])))
 |(apply hK;clear hK K)|refine AWh ‹_› ?_)
      refine ⟨6, ⟨by omega, hF, fun h => hz (by omega)⟩, by omega, ?_⟩; apply Weak.mk' <;> simp [vl, NetD.cells]
    · rw [if_pos he] at hF
      subst hF
      repeat' (first
 |refine aK fun K hK=>?_|refine Step.by1 ?_|refine sE (by decide) ?_|refine cz rfl ?_|refine Fork.by2 (fun h=>?_) fun h=>?_
 |((first|refine aR ?_|refine aC (f:=231) rfl rfl (hc) rfl rfl rfl ?_);simp [vl, NetD.cells, wI, he];try (simp (disch:=omega) only [wI];try simp [vl, NetD.cells, wI, he]))
 |(refine Split.by2 (fun h=>?_) (fun h=>?_)<;>(simp [h, vl, NetD.cells, wI, he];try (simp (disch:=omega) only [wI];try simp [vl, NetD.cells, wI, he])))
 |(apply hK;clear hK K)|refine AWh ‹_› ?_)
      exact r1q (cE rfl rfl)
  · rw [show [e0, e1, e2, e3, e4, e5, e6, e7, e8].drop 6 = e6 :: [e0, e1, e2, e3, e4, e5, e6, e7, e8].drop 7 from rfl, fC] at hF
    have hc := h6 (hz (by omega))
    by_cases he : e6 = 0
    · rw [if_neg (by simp [he])] at hF
      rw [he] at hc
      repeat' (first
 |refine aK fun K hK=>?_|refine Step.by1 ?_|refine sE (by decide) ?_|refine cz rfl ?_|refine Fork.by2 (fun h=>?_) fun h=>?_
 |((first|refine aR ?_|refine aC (f:=232) rfl rfl (hc) rfl rfl rfl ?_);simp [vl, NetD.cells, wI];try (simp (disch:=omega) only [wI];try simp [vl, NetD.cells, wI]))
 |(refine Split.by2 (fun h=>?_) (fun h=>?_)<;>(simp [h, vl, NetD.cells, wI];try (simp (disch:=omega) only [wI];try simp [vl, NetD.cells, wI])))
 |(apply hK;clear hK K)|refine AWh ‹_› ?_)
      refine ⟨7, ⟨by omega, hF, fun h => hz (by omega)⟩, by omega, ?_⟩; apply Weak.mk' <;> simp [vl, NetD.cells]
    · rw [if_pos he] at hF
      subst hF
      repeat' (first
 |refine aK fun K hK=>?_|refine Step.by1 ?_|refine sE (by decide) ?_|refine cz rfl ?_|refine Fork.by2 (fun h=>?_) fun h=>?_
 |((first|refine aR ?_|refine aC (f:=232) rfl rfl (hc) rfl rfl rfl ?_);simp [vl, NetD.cells, wI, he];try (simp (disch:=omega) only [wI];try simp [vl, NetD.cells, wI, he]))
 |(refine Split.by2 (fun h=>?_) (fun h=>?_)<;>(simp [h, vl, NetD.cells, wI, he];try (simp (disch:=omega) only [wI];try simp [vl, NetD.cells, wI, he])))
 |(apply hK;clear hK K)|refine AWh ‹_› ?_)
      exact r1q (cE rfl rfl)
  · rw [show [e0, e1, e2, e3, e4, e5, e6, e7, e8].drop 7 = e7 :: [e0, e1, e2, e3, e4, e5, e6, e7, e8].drop 8 from rfl, fC] at hF
    have hc := h7 (hz (by omega))
    by_cases he : e7 = 0
    · rw [if_neg (by simp [he])] at hF
      rw [he] at hc
      repeat' (first
 |refine aK fun K hK=>?_|refine Step.by1 ?_|refine sE (by decide) ?_|refine cz rfl ?_|refine Fork.by2 (fun h=>?_) fun h=>?_
 |((first|refine aR ?_|refine aC (f:=233) rfl rfl (hc) rfl rfl rfl ?_);simp [vl, NetD.cells, wI];try (simp (disch:=omega) only [wI];try simp [vl, NetD.cells, wI]))
 |(refine Split.by2 (fun h=>?_) (fun h=>?_)<;>(simp [h, vl, NetD.cells, wI];try (simp (disch:=omega) only [wI];try simp [vl, NetD.cells, wI])))
 |(apply hK;clear hK K)|refine AWh ‹_› ?_)
      refine ⟨8, ⟨by omega, hF, fun h => hz (by omega)⟩, by omega, ?_⟩; apply Weak.mk' <;> simp [vl, NetD.cells]
    · rw [if_pos he] at hF
      subst hF
      repeat' (first
 |refine aK fun K hK=>?_|refine Step.by1 ?_|refine sE (by decide) ?_|refine cz rfl ?_|refine Fork.by2 (fun h=>?_) fun h=>?_
 |((first|refine aR ?_|refine aC (f:=233) rfl rfl (hc) rfl rfl rfl ?_);simp [vl, NetD.cells, wI, he];try (simp (disch:=omega) only [wI];try simp [vl, NetD.cells, wI, he]))
 |(refine Split.by2 (fun h=>?_) (fun h=>?_)<;>(simp [h, vl, NetD.cells, wI, he];try (simp (disch:=omega) only [wI];try simp [vl, NetD.cells, wI, he])))
 |(apply hK;clear hK K)|refine AWh ‹_› ?_)
      exact r1q (cE rfl rfl)
  · rw [show [e0, e1, e2, e3, e4, e5, e6, e7, e8].drop 8 = e8 :: [e0, e1, e2, e3, e4, e5, e6, e7, e8].drop 9 from rfl, fC] at hF
    have hc := h8 (hz (by omega))
    by_cases he : e8 = 0
    · rw [if_neg (by simp [he])] at hF
      rw [he] at hc
      repeat' (first
 |refine aK fun K hK=>?_|refine Step.by1 ?_|refine sE (by decide) ?_|refine cz rfl ?_|refine Fork.by2 (fun h=>?_) fun h=>?_
 |((first|refine aR ?_|refine aC (f:=234) rfl rfl (hc) rfl rfl rfl ?_);simp [vl, NetD.cells, wI];try (simp (disch:=omega) only [wI];try simp [vl, NetD.cells, wI]))
 |(refine Split.by2 (fun h=>?_) (fun h=>?_)<;>(simp [h, vl, NetD.cells, wI];try (simp (disch:=omega) only [wI];try simp [vl, NetD.cells, wI])))
 |(apply hK;clear hK K)|refine AWh ‹_› ?_)
      refine ⟨9, ⟨by omega, hF, fun h => hz (by omega)⟩, by omega, ?_⟩; apply Weak.mk' <;> simp [vl, NetD.cells]
    · rw [if_pos he] at hF
      subst hF
      repeat' (first
 |refine aK fun K hK=>?_|refine Step.by1 ?_|refine sE (by decide) ?_|refine cz rfl ?_|refine Fork.by2 (fun h=>?_) fun h=>?_
 |((first|refine aR ?_|refine aC (f:=234) rfl rfl (hc) rfl rfl rfl ?_);simp [vl, NetD.cells, wI, he];try (simp (disch:=omega) only [wI];try simp [vl, NetD.cells, wI, he]))
 |(refine Split.by2 (fun h=>?_) (fun h=>?_)<;>(simp [h, vl, NetD.cells, wI, he];try (simp (disch:=omega) only [wI];try simp [vl, NetD.cells, wI, he])))
 |(apply hK;clear hK K)|refine AWh ‹_› ?_)
      exact r1q (cE rfl rfl)
  · repeat' (first
 |refine aK fun K hK=>?_|refine Step.by1 ?_|refine sE (by decide) ?_|refine cz rfl ?_|refine Fork.by2 (fun h=>?_) fun h=>?_
 |(refine aR ?_;simp [vl, NetD.cells])
 |(refine Split.by2 (fun h=>?_) (fun h=>?_)<;>(simp [h, vl, NetD.cells]))
 |(apply hK;clear hK K)|refine AWh ‹_› ?_)
    exact r1q (cE (by rw [← hF]; rfl) rfl)
  · omega












def edG (x : EdgeD) : Int := if greatE x.guards ≠ 0 then greatE x.guards else greatSE x.sets
def whereE (n : NetD) : (Int × Int × Int) × Int :=
  if wholeE n ≠ 0 then ((0, 0, 0), wholeE n)
  else if (searchE (fun l => diagE l.inv) (fun x => diagE x.guards) n.autos 0).2 ≠ 0 then searchE (fun l => diagE l.inv) (fun x => diagE x.guards) n.autos 0
  else searchE (fun l => greatE l.inv) edG n.autos 0
def netE (n : NetD) : Int := (whereE n).2
theorem c_Where1 (x : LocD) (hx : x.ok) : PC 221 [.agg x.cells] (.int .i64 (diagE x.inv)) := by
  have hc := c_diagE x.inv (by have := hx.2.2.1; omega)
  simp only [vl] at hc
  refine pB Tryz.func221 rfl (by decide) Tryz.ntmps221 (by simp) Tryz.results221 ?_
  repeat' (first
 |refine aK fun K hK=>?_|refine Step.by1 ?_|refine sE (by decide) ?_|refine cz rfl ?_|refine Fork.by2 (fun h=>?_) fun h=>?_
 |((first|refine aR ?_|refine aC (f:=114) rfl rfl (hc) rfl rfl rfl ?_);simp [vl, LocD.cells])
 |(refine Split.by2 (fun h=>?_) (fun h=>?_)<;>(simp [h, vl, LocD.cells]))
 |(apply hK;clear hK K)|refine AWh ‹_› ?_)
  exact r1q (cE rfl rfl)
theorem c_Where2 (x : EdgeD) (hx : x.ok) : PC 222 [.agg x.cells] (.int .i64 (diagE x.guards)) := by
  have hc := c_diagE x.guards (by have := hx.2.2.1.1; omega)
  simp only [vl] at hc
  refine pB Tryz.func222 rfl (by decide) Tryz.ntmps222 (by simp) Tryz.results222 ?_
  repeat' (first
 |refine aK fun K hK=>?_|refine Step.by1 ?_|refine sE (by decide) ?_|refine cz rfl ?_|refine Fork.by2 (fun h=>?_) fun h=>?_
 |((first|refine aR ?_|refine aC (f:=114) rfl rfl (hc) rfl rfl rfl ?_);simp [vl, EdgeD.cells])
 |(refine Split.by2 (fun h=>?_) (fun h=>?_)<;>(simp [h, vl, EdgeD.cells]))
 |(apply hK;clear hK K)|refine AWh ‹_› ?_)
  exact r1q (cE rfl rfl)
theorem c_Where3 (x : LocD) (hx : x.ok) : PC 223 [.agg x.cells] (.int .i64 (greatE x.inv)) := by
  have hc := c_greatE x.inv (by have := hx.2.2.1; omega)
  simp only [vl] at hc
  refine pB Tryz.func223 rfl (by decide) Tryz.ntmps223 (by simp) Tryz.results223 ?_
  repeat' (first
 |refine aK fun K hK=>?_|refine Step.by1 ?_|refine sE (by decide) ?_|refine cz rfl ?_|refine Fork.by2 (fun h=>?_) fun h=>?_
 |((first|refine aR ?_|refine aC (f:=115) rfl rfl (hc) rfl rfl rfl ?_);simp [vl, LocD.cells])
 |(refine Split.by2 (fun h=>?_) (fun h=>?_)<;>(simp [h, vl, LocD.cells]))
 |(apply hK;clear hK K)|refine AWh ‹_› ?_)
  exact r1q (cE rfl rfl)
theorem c_Where4 (x : EdgeD) (hx : x.ok) : PC 224 [.agg x.cells] (.int .i64 (edG x)) := by
  have hc := c_greatE x.guards (by have := hx.2.2.1.1; omega)
  have hc2 := c_greatSE x.sets (by have := hx.2.2.2.2.2.2.1; omega)
  obtain ⟨r, hr⟩ : ∃ r, edG x = r := ⟨_, rfl⟩
  rw [hr]
  unfold edG at hr
  simp only [vl] at hc hc2
  generalize greatE x.guards = k1 at *
  generalize greatSE x.sets = k2 at *
  refine pB Tryz.func224 rfl (by decide) Tryz.ntmps224 (by simp) Tryz.results224 ?_
  by_cases hz : k1 = 0
  · rw [if_neg (by simp [hz])] at hr
    rw [hz] at hc
    repeat' (first
 |refine aK fun K hK=>?_|refine Step.by1 ?_|refine sE (by decide) ?_|refine cz rfl ?_|refine Fork.by2 (fun h=>?_) fun h=>?_
 |((first|refine aR ?_|refine aC (f:=115) rfl rfl (hc) rfl rfl rfl ?_|refine aC (f:=225) rfl rfl (hc2) rfl rfl rfl ?_);simp [vl, EdgeD.cells])
 |(refine Split.by2 (fun h=>?_) (fun h=>?_)<;>(simp [h, vl, EdgeD.cells]))
 |(apply hK;clear hK K)|refine AWh ‹_› ?_)
    exact r1q (cE (by rw [← hr]; rfl) rfl)
  · rw [if_pos hz] at hr
    repeat' (first
 |refine aK fun K hK=>?_|refine Step.by1 ?_|refine sE (by decide) ?_|refine cz rfl ?_|refine Fork.by2 (fun h=>?_) fun h=>?_
 |((first|refine aR ?_|refine aC (f:=115) rfl rfl (hc) rfl rfl rfl ?_);simp [vl, EdgeD.cells, hz])
 |(refine Split.by2 (fun h=>?_) (fun h=>?_)<;>(simp [h, vl, EdgeD.cells, hz]))
 |(apply hK;clear hK K)|refine AWh ‹_› ?_)
    exact r1q (cE (by rw [← hr]; rfl) rfl)
set_option maxRecDepth 20000 in
set_option maxHeartbeats 8000000 in
theorem c_Where (n : NetD) (hn : n.ok) : PC 175 [.agg n.cells] (spotE (whereE n)) := by
  have hW := c_Whole n hn
  have hS := c_search n hn 221 222 (fun l => diagE l.inv) (fun x => diagE x.guards) (fun a ha x hx => c_Where1 x ((hn.2.2.2.2 a ha).2.1.2 x hx)) (fun a ha x hx => c_Where2 x ((hn.2.2.2.2 a ha).2.2.2 x hx))
  have hT := c_search n hn 223 224 (fun l => greatE l.inv) edG (fun a ha x hx => c_Where3 x ((hn.2.2.2.2 a ha).2.1.2 x hx)) (fun a ha x hx => c_Where4 x ((hn.2.2.2.2 a ha).2.2.2 x hx))
  obtain ⟨r, hr⟩ : ∃ r, whereE n = r := ⟨_, rfl⟩
  rw [hr]
  unfold whereE at hr
  generalize wholeE n = w at *
  generalize searchE (fun l => diagE l.inv) (fun x => diagE x.guards) n.autos 0 = s at *
  generalize searchE (fun l => greatE l.inv) edG n.autos 0 = t at *
  obtain ⟨⟨s1, s2, s3⟩, s4⟩ := s
  obtain ⟨⟨t1, t2, t3⟩, t4⟩ := t
  simp only [vl, NetD.cells, spotE, spotV] at hW hS hT
  simp only at hr
  refine pB Tryz.func175 rfl (by decide) Tryz.ntmps175 (by simp) Tryz.results175 ?_
  by_cases hw : w = 0
  · subst hw
    rw [if_neg (by simp)] at hr
    by_cases hs : s4 = 0
    · subst hs
      rw [if_neg (by simp)] at hr
      subst hr
      repeat' (first
 |refine aK fun K hK=>?_|refine Step.by1 ?_|refine sE (by decide) ?_|refine cz rfl ?_|refine Fork.by2 (fun h=>?_) fun h=>?_
 |((first|refine aR ?_|refine aC (f:=176) rfl rfl (hW) rfl rfl rfl ?_|refine aC (f:=220) rfl rfl (hS) rfl rfl rfl ?_|refine aC (f:=220) rfl rfl (hT) rfl rfl rfl ?_);simp [vl, NetD.cells])
 |(refine Split.by2 (fun h=>?_) (fun h=>?_)<;>(simp [h, vl, NetD.cells]))
 |(apply hK;clear hK K)|refine AWh ‹_› ?_)
      exact retq2ct rfl (by simp) (cE (by simp [spotE, spotV]) (by simp))
    · rw [if_pos hs] at hr
      subst hr
      repeat' (first
 |refine aK fun K hK=>?_|refine Step.by1 ?_|refine sE (by decide) ?_|refine cz rfl ?_|refine Fork.by2 (fun h=>?_) fun h=>?_
 |((first|refine aR ?_|refine aC (f:=176) rfl rfl (hW) rfl rfl rfl ?_|refine aC (f:=220) rfl rfl (hS) rfl rfl rfl ?_);simp [vl, NetD.cells, hs])
 |(refine Split.by2 (fun h=>?_) (fun h=>?_)<;>(simp [h, vl, NetD.cells, hs]))
 |(apply hK;clear hK K)|refine AWh ‹_› ?_)
      exact retq2ct rfl (by simp) (cE (by simp [spotE, spotV]) (by simp))
  · rw [if_pos hw] at hr
    subst hr
    repeat' (first
 |refine aK fun K hK=>?_|refine Step.by1 ?_|refine sE (by decide) ?_|refine cz rfl ?_|refine Fork.by2 (fun h=>?_) fun h=>?_
 |((first|refine aR ?_|refine aC (f:=176) rfl rfl (hW) rfl rfl rfl ?_);simp [vl, NetD.cells, hw])
 |(refine Split.by2 (fun h=>?_) (fun h=>?_)<;>(simp [h, vl, NetD.cells, hw]))
 |(apply hK;clear hK K)|refine AWh ‹_› ?_)
    exact retq2ct rfl (by simp) (cE (by simp [spotE, spotV]) (by simp))
theorem c_Net (n : NetD) (hn : n.ok) : PC 112 [.agg n.cells] (.int .i64 (netE n)) := by
  have hW := c_Where n hn
  unfold netE
  generalize whereE n = s at *
  obtain ⟨⟨s1, s2, s3⟩, s4⟩ := s
  simp only [vl, NetD.cells, spotE, spotV] at hW
  refine pB Tryz.func112 rfl (by decide) Tryz.ntmps112 (by simp) Tryz.results112 ?_
  repeat' (first
 |refine aK fun K hK=>?_|refine Step.by1 ?_|refine sE (by decide) ?_|refine cz rfl ?_|refine Fork.by2 (fun h=>?_) fun h=>?_
 |((first|refine aR ?_|refine aC (f:=175) rfl rfl (hW) rfl rfl rfl ?_);simp [vl, NetD.cells])
 |(refine Split.by2 (fun h=>?_) (fun h=>?_)<;>(simp [h, vl, NetD.cells]))
 |(apply hK;clear hK K)|refine AWh ‹_› ?_)
  exact r1q (cE rfl rfl)
theorem leaves_drop {h x : List B} : Go.AM.Leaves h (h ++ x) h := ⟨Nat.le_refl _, by simp, fun b y hy => .inr ⟨by
  rw [List.getElem?_append_left (List.getElem?_eq_some_iff.1 hy).1]; exact hy, .inl hy⟩⟩
/-- A guard that is of the clocks. -/
def okG (N : Nat) (g : GuardD) : Prop := 1 ≤ g.clock ∧ g.clock ≤ N

def longP (p : PartD) : Bool := decide (16 < p.locs.length ∨ 16 < p.guards.length ∨ 64 < p.test.length)
def atB (n : NetD) (x : AtD) : Bool := decide (x.auto < 0 ∨ (n.autos.length : Int) ≤ x.auto ∨ x.loc < 0 ∨ ((n.autos.getD x.auto.toNat default).locs.length : Int) ≤ x.loc)
def g1E (p : PartD) : Int := if longP p = true then 6 else 0
def g2E (n : NetD) (p : PartD) : Int := if anyL (atB n) p.locs = true then 122 else 0
def goF (f : PartD → Int) : List PartD → Int
  | [] => 0
  | p :: r => if f p ≠ 0 then f p else goF f r
theorem goF_nil {f : PartD → Int} : goF f [] = 0 := rfl
theorem goF_cons {f : PartD → Int} {p : PartD} {r : List PartD} : goF f (p :: r) = if f p ≠ 0 then f p else goF f r := rfl
def wholeGoalE (n : NetD) (g : List PartD) : Int :=
  firstE [wholeE n, if 16 < g.length then 6 else 0, goF g1E g, goF (g2E n) g, goF (fun p => clkE n p.guards) g, goF (fun p => cmpE p.guards) g, goF (fun p => truthE n p.test) g]
def goalE (n : NetD) (g : List PartD) : Int := firstE [netE n, wholeGoalE n g, goF (fun p => diagE p.guards) g, goF (fun p => greatE p.guards) g]
def okGoal (g : List PartD) : Prop := g.length ≤ 1048576 ∧ ∀ p ∈ g, p.ok
theorem c_WG1 (p : PartD) : PC 177 [.agg p.cells] (.int .i64 (g1E p)) := by
  obtain ⟨r, hr⟩ : ∃ r, g1E p = r := ⟨_, rfl⟩
  rw [hr]
  unfold g1E longP at hr
  refine pB Tryz.func177 rfl (by decide) Tryz.ntmps177 (by simp) Tryz.results177 ?_
  repeat' (first
 |refine aK fun K hK=>?_|refine Step.by1 ?_|refine sE (by decide) ?_|refine cz rfl ?_|refine Fork.by2 (fun h=>?_) fun h=>?_
 |(refine aR ?_;simp [vl, PartD.cells])
 |(refine Split.by2 (fun h=>?_) (fun h=>?_)<;>(simp [h, vl, PartD.cells]))
 |(apply hK;clear hK K)|refine AWh ‹_› ?_)
  all_goals first
    | exact r1q (cE (by rw [← hr, if_pos (by simp; omega)]; rfl) rfl)
    | exact r1q (cE (by rw [← hr, if_neg (by simp; omega)]; rfl) rfl)
    | (exfalso; omega)
theorem c_WG4 (p : PartD) (hp : p.ok) : PC 181 [.agg p.cells] (.int .i64 (cmpE p.guards)) := by
  have hc := c_cmpE p.guards (by have := hp.2.1.1; omega)
  simp only [vl] at hc
  refine pB Tryz.func181 rfl (by decide) Tryz.ntmps181 (by simp) Tryz.results181 ?_
  repeat' (first
 |refine aK fun K hK=>?_|refine Step.by1 ?_|refine sE (by decide) ?_|refine cz rfl ?_|refine Fork.by2 (fun h=>?_) fun h=>?_
 |((first|refine aR ?_|refine aC (f:=182) rfl rfl (hc) rfl rfl rfl ?_);simp [vl, PartD.cells])
 |(refine Split.by2 (fun h=>?_) (fun h=>?_)<;>(simp [h, vl, PartD.cells]))
 |(apply hK;clear hK K)|refine AWh ‹_› ?_)
  exact r1q (cE rfl rfl)
theorem c_WG3 (n : NetD) (p : PartD) (hp : p.ok) (e : List B) : GCall Tryz.prog GV 179 [.agg p.cells, .ptr 0 0] (.var n.cells :: e) (fun v h' => v = .int .i64 (clkE n p.guards) ∧ h' = .var n.cells :: e) := by
  have hc := c_clkE n p.guards (by have := hp.2.1.1; omega)
  simp only [vl, NetD.cells] at hc
  generalize clkE n p.guards = k at *
  refine gB1 Tryz.func179 rfl (by decide) Tryz.ntmps179 (by simp) Tryz.results179 ?_
  repeat' (first
 |refine aK fun K hK=>?_|refine Step.by1 ?_|refine sE (by decide) ?_|refine cz rfl ?_|refine Fork.by2 (fun h=>?_) fun h=>?_
 |((first|refine aR ?_|refine aC (f:=180) rfl rfl (hc) rfl rfl rfl ?_);simp [vl, PartD.cells, NetD.cells])
 |(refine Split.by2 (fun h=>?_) (fun h=>?_)<;>(simp [h, vl, PartD.cells, NetD.cells]))
 |(apply hK;clear hK K)|refine AWh ‹_› ?_)
  exact retg1 (h' := .var n.cells :: e) ⟨rfl, rfl⟩ rfl (by simpa [NetD.cells, PartD.cells, vl] using leaves_drop (h := .var n.cells :: e) (x := [.var p.cells]))
theorem c_WG5 (n : NetD) (hn : n.ok) (p : PartD) (hp : p.ok) (e : List B) : GCall Tryz.prog GV 183 [.agg p.cells, .ptr 0 0] (.var n.cells :: e) (fun v h' => v = .int .i64 (truthE n p.test) ∧ h' = .var n.cells :: e) := by
  have hc := c_truth n p.test hp.2.2 hn.2.1.1
  simp only [vl, NetD.cells] at hc
  generalize truthE n p.test = k at *
  refine gB1 Tryz.func183 rfl (by decide) Tryz.ntmps183 (by simp) Tryz.results183 ?_
  repeat' (first
 |refine aK fun K hK=>?_|refine Step.by1 ?_|refine sE (by decide) ?_|refine cz rfl ?_|refine Fork.by2 (fun h=>?_) fun h=>?_
 |((first|refine aR ?_|refine aC (f:=184) rfl rfl (hc) rfl rfl rfl ?_);simp [vl, PartD.cells, NetD.cells])
 |(refine Split.by2 (fun h=>?_) (fun h=>?_)<;>(simp [h, vl, PartD.cells, NetD.cells]))
 |(apply hK;clear hK K)|refine AWh ‹_› ?_)
  exact retg1 (h' := .var n.cells :: e) ⟨rfl, rfl⟩ rfl (by simpa [NetD.cells, PartD.cells, vl] using leaves_drop (h := .var n.cells :: e) (x := [.var p.cells]))
set_option maxRecDepth 20000 in
set_option maxHeartbeats 8000000 in
theorem c_WG2 (n : NetD) (hn : n.ok) (p : PartD) (hp : p.ok) (e : List B) (hE : ∀ y ∈ e, y.lt (1 + e.length)) : GCall Tryz.prog GV 178 [.agg p.cells, .ptr 0 0] (.var n.cells :: e) (fun v h' => v = .int .i64 (g2E n p) ∧ h' = .var n.cells :: e) := by
  obtain ⟨r, hr⟩ : ∃ r, g2E n p = r := ⟨_, rfl⟩
  rw [hr]
  have hpl := hp.1.1
  have hnl := hn.2.2.2.1
  obtain ⟨E, hE'⟩ : ∃ E : List AtD → Int, E = fun l => if anyL (atB n) l = true then 122 else 0 := ⟨_, rfl⟩
  have hEc : ∀ a l, E (a :: l) = if atB n a = true then 122 else E l := fun a l => by subst hE'; by_cases h : atB n a = true <;> simp [anC, h]
  have hEn : E p.locs = r := by subst hE'; exact hr
  have hE0 : E [] = 0 := by subst hE'; rfl
  clear hr hE'
  have hlt1 : ∀ (y : B), y ∈ e ++ [B.var p.cells] → y.lt ([B.var n.cells] ++ (e ++ [B.var p.cells])).length := fun y hy => by
    rcases List.mem_append.1 hy with h | h
    · exact B.lt_mono (by simp; omega) (hE y h)
    · simp at h; subst h; simp [PartD.cells, vl]
  refine gB1 Tryz.func178 rfl (by decide) Tryz.ntmps178 (by simp) Tryz.results178 ?_
  repeat' (first
 |refine aK fun K hK=>?_|refine Step.by1 ?_|refine sE (by decide) ?_|refine cz rfl ?_|refine Fork.by2 (fun h=>?_) fun h=>?_
 |(refine aR ?_;simp [vl, PartD.cells, NetD.cells])
 |(refine Split.by2 (fun h=>?_) (fun h=>?_)<;>(simp [h, vl, PartD.cells, NetD.cells]))
 |(apply hK;clear hK K)|refine AWh ‹_› ?_)
  refine AW_range (r := r) p.locs 9 [1, 7, 8] (fun c : Unit => []) (fun _ => [.var n.cells] ++ (e ++ [.var p.cells])) (fun i c => True) (fun l _ => E l) ()
    hEn trivial (Weak.tail (x := []) (by simp [vl, NetD.cells, PartD.cells]) (by simp [vl]) (by simp [NetD.cells, vl]) hlt1) (fun _ _ _ => by simp) ?_ ?_
  · intro i c x _ hlt hx _ hF
    rw [hEc] at hF
    have hlt' : (i : Int) < p.locs.length := by omega
    have w1 : IntKind.i64.wrap ((i : Int) + 1) = i + 1 := wI (by omega) (by omega)
    have ha : atB n x = decide (x.auto < 0 ∨ (n.autos.length : Int) ≤ x.auto ∨ x.loc < 0 ∨ ((n.autos.getD x.auto.toNat default).locs.length : Int) ≤ x.loc) := rfl
    by_cases q : 0 ≤ x.auto ∧ x.auto < n.autos.length
    · obtain ⟨k, hk⟩ := Int.eq_ofNat_of_zero_le q.1
      have hkl : k < n.autos.length := by omega
      have hkl' : (k : Int) < n.autos.length := by omega
      obtain ⟨a, haa⟩ : ∃ a, n.autos[k] = a := ⟨_, rfl⟩
      have hg : n.autos.getD x.auto.toNat default = a := by rw [hk]; simp [List.getD, hkl, haa]
      rw [hg] at ha
      have hk0 : ¬ (k : Int) < 0 := by omega
      have hk1 : ¬ (n.autos.length : Int) ≤ k := by omega
      rw [hk] at ha
      repeat' (first
 |refine aK fun K hK=>?_|refine Step.by1 ?_|refine sE (by decide) ?_|refine cz rfl ?_|refine Fork.by2 (fun h=>?_) fun h=>?_
 |((first|refine aR ?_|refine aX (id:=4) 29 mixed (by decide) ?_);simp [vl, PartD.cells, NetD.cells, AtD.cells, AutoD.cells, hlt, hlt', hx, w1, hk, hkl, hkl', haa, hk0, hk1])
 |(refine Split.by2 (fun h=>?_) (fun h=>?_)<;>(simp [h, vl, PartD.cells, NetD.cells, AtD.cells, AutoD.cells, hlt, hlt', hx, w1, hk, hkl, hkl', haa, hk0, hk1]))
 |(apply hK;clear hK K)|refine AWh ‹_› ?_)
      all_goals first
        | (rw [if_pos (by rw [ha]; simp; omega)] at hF
           exact retg1 (h' := .var n.cells :: e) ⟨by rw [← hF]; rfl, rfl⟩ rfl (by simpa [NetD.cells, PartD.cells, AtD.cells, vl, hk] using leaves_drop (h := .var n.cells :: e) (x := [.var p.cells, .var x.cells])))
        | (rw [if_neg (by rw [ha]; simp; omega)] at hF
           refine ⟨hF, ?_⟩
           refine Weak.tail (a := [B.var n.cells]) (e := e ++ [.var p.cells]) (x := [B.var x.cells]) ?_ ?_ ?_ hlt1
           · simp [NetD.cells, PartD.cells, AtD.cells, vl, hk]
           · simp [vl]
           · simp [NetD.cells, vl])
    · rw [if_pos (by rw [ha]; simp; omega)] at hF
      repeat' (first
 |refine aK fun K hK=>?_|refine Step.by1 ?_|refine sE (by decide) ?_|refine cz rfl ?_|refine Fork.by2 (fun h=>?_) fun h=>?_
 |((first|refine aR ?_|refine aX (id:=4) 29 mixed (by decide) ?_);simp [vl, PartD.cells, NetD.cells, AtD.cells, hlt, hlt', hx, w1])
 |(refine Split.by2 (fun h=>?_) (fun h=>?_)<;>(simp [h, vl, PartD.cells, NetD.cells, AtD.cells, hlt, hlt', hx, w1]))
 |(apply hK;clear hK K)|refine AWh ‹_› ?_)
      all_goals first
        | (exfalso; omega)
        | exact retg1 (h' := .var n.cells :: e) ⟨by rw [← hF]; rfl, rfl⟩ rfl (by simpa [NetD.cells, PartD.cells, AtD.cells, vl] using leaves_drop (h := .var n.cells :: e) (x := [.var p.cells, .var x.cells]))
  · intro c _ hF
    repeat' (first
 |refine aK fun K hK=>?_|refine Step.by1 ?_|refine sE (by decide) ?_|refine cz rfl ?_|refine Fork.by2 (fun h=>?_) fun h=>?_
 |(refine aR ?_;simp [vl, PartD.cells, NetD.cells])
 |(refine Split.by2 (fun h=>?_) (fun h=>?_)<;>(simp [h, vl, PartD.cells, NetD.cells]))
 |(apply hK;clear hK K)|refine AWh ‹_› ?_)
    exact retg1 (h' := .var n.cells :: e) ⟨by rw [← hF, hE0]; rfl, rfl⟩ rfl (by simpa [NetD.cells, PartD.cells, vl] using leaves_drop (h := .var n.cells :: e) (x := [.var p.cells]))
end Go.Proofs.YtbgooadmonnjaaaGreatDoor
end
