/-
  YtgmlimipejcpgaaDoorCd17: steps of the proof of a law of the program: what these texts prove holds under the hypotheses that their theorems name, and no others.
-/
import Derived.Test.YtgmlimipejcpgaaDoorCd16
section
set_option linter.unusedSimpArgs false
set_option linter.unusedVariables false
namespace Go.Proofs.YtgmlimipejcpgaaDoor
open Go Go.AM Fx
set_option maxRecDepth 8000 in
set_option maxHeartbeats 4000000 in
theorem c_names (n : NetD) (hn : n.ok) : PC 41 [.agg n.cells] (.int .i64 (namesE n)) := by
  have hA := c_all n hn
  have hl : (allL n).length ≤ 1099511627776 := by obtain ⟨⟨h1, _⟩, ⟨h2, _⟩, ⟨h3, _⟩, h4, h5⟩ := hn; simp [allL, namesL]; omega
  have hs : ∀ s ∈ allL n, s.size ≤ 1048576 := by
    obtain ⟨⟨_, h1⟩, ⟨_, h2⟩, ⟨_, h3⟩, _, h5⟩ := hn
    intro s hs
    simp only [allL, namesL, List.mem_append, List.mem_map] at hs
    rcases hs with hs | ⟨v, hv, rfl⟩ | hs | ⟨a, ha, rfl⟩
    · exact h1 s hs
    · exact (h2 v hv).1
    · exact h3 s hs
    · exact (h5 a ha).1
  have hG := c_given (allL n) hl hs
  obtain ⟨_, _, _, h4, h5⟩ := hn
  obtain ⟨r, hr⟩ : ∃ r, namesE n = r := ⟨_, rfl⟩
  rw [hr]
  unfold namesE namesB at hr
  generalize allL n = al at *
  generalize givenB al = gb at *
  simp only [vl, NetD.cells] at hA hG
  refine pB Tryd.func41 rfl (by decide) Tryd.ntmps41 (by simp) Tryd.results41 ?_
  cases gb
  · repeat' (first
 |refine aK fun K hK=>?_|refine Step.by1 ?_|refine sE (by decide) ?_|refine cz rfl ?_|refine Fork.by2 (fun h=>?_) fun h=>?_
 |((first|refine aR ?_|refine aC (f:=78) rfl rfl (hA) rfl rfl rfl ?_|refine aC (f:=77) rfl rfl (hG) rfl rfl rfl ?_);simp [vl, NetD.cells])
 |(refine Split.by2 (fun h=>?_) (fun h=>?_)<;>(simp [h, vl, NetD.cells]))
 |(apply hK;clear hK K)|refine AWh ‹_› ?_)
    exact r1q (cE (by rw [← hr]; rfl) rfl)
  · rw [Bool.not_true, Bool.false_or] at hr
    obtain ⟨E, hE⟩ : ∃ E : List AutoD → Int, E = fun l => if anyL (fun a => !givenB (locNamesL a)) l = true then 112 else 0 := ⟨_, rfl⟩
    have hEc : ∀ a l, E (a :: l) = if givenB (locNamesL a) = true then E l else 112 := fun a l => by subst hE; cases h : givenB (locNamesL a) <;> simp [anC, h]
    have hEn : E n.autos = r := by subst hE; exact hr
    have hE0 : E [] = 0 := by subst hE; rfl
    clear hr hE
    repeat' (first
 |refine aK fun K hK=>?_|refine Step.by1 ?_|refine sE (by decide) ?_|refine cz rfl ?_|refine Fork.by2 (fun h=>?_) fun h=>?_
 |((first|refine aR ?_|refine aC (f:=78) rfl rfl (hA) rfl rfl rfl ?_|refine aC (f:=77) rfl rfl (hG) rfl rfl rfl ?_);simp [vl, NetD.cells])
 |(refine Split.by2 (fun h=>?_) (fun h=>?_)<;>(simp [h, vl, NetD.cells]))
 |(apply hK;clear hK K)|refine AWh ‹_› ?_)
    refine aS1 (r := r) n.autos 12 [10, 11] E hEn (by apply Weak.mk' <;> simp [vl, NetD.cells]) ?_ ?_
    · intro i a _ hlt ha hF
      rw [hEc] at hF
      have hoa := h5 a (ha ▸ List.getElem_mem hlt)
      have hal : a.locs.length ≤ 1048576 := hoa.2.1.1
      have hlen : (locNamesL a).length = a.locs.length := by simp [locNamesL]
      have hL := c_locNames a hal
      have hG2 := c_given (locNamesL a) (by omega) (fun s hs => by
        simp only [locNamesL, List.mem_map] at hs
        obtain ⟨x, hx, rfl⟩ := hs
        exact (hoa.2.1.2 x hx).1)
      have hlt' : (i : Int) < n.autos.length := by omega
      have w1 : IntKind.i64.wrap ((i : Int) + 1) = i + 1 := wI (by omega) (by omega)
      generalize locNamesL a = ln at *
      generalize givenB ln = gb at *
      simp only [vl, strV, AutoD.cells] at hL hG2
      cases gb
      · repeat' (first
 |refine aK fun K hK=>?_|refine Step.by1 ?_|refine sE (by decide) ?_|refine cz rfl ?_|refine Fork.by2 (fun h=>?_) fun h=>?_
 |((first|refine aR ?_|refine aC (f:=79) rfl rfl (hL) rfl rfl rfl ?_|refine aC (f:=77) rfl rfl (hG2) rfl rfl rfl ?_);simp [vl, NetD.cells, AutoD.cells, hlt, hlt', ha, w1])
 |(refine Split.by2 (fun h=>?_) (fun h=>?_)<;>(simp [h, vl, NetD.cells, AutoD.cells, hlt, hlt', ha, w1]))
 |(apply hK;clear hK K)|refine AWh ‹_› ?_)
        exact r1q (cE (by rw [← hF]; rfl) rfl)
      · repeat' (first
 |refine aK fun K hK=>?_|refine Step.by1 ?_|refine sE (by decide) ?_|refine cz rfl ?_|refine Fork.by2 (fun h=>?_) fun h=>?_
 |((first|refine aR ?_|refine aC (f:=79) rfl rfl (hL) rfl rfl rfl ?_|refine aC (f:=77) rfl rfl (hG2) rfl rfl rfl ?_);simp [vl, NetD.cells, AutoD.cells, hlt, hlt', ha, w1])
 |(refine Split.by2 (fun h=>?_) (fun h=>?_)<;>(simp [h, vl, NetD.cells, AutoD.cells, hlt, hlt', ha, w1]))
 |(apply hK;clear hK K)|refine AWh ‹_› ?_)
        refine ⟨by rw [← hF]; rfl, ?_⟩; apply Weak.mk' <;> simp [vl, NetD.cells]
    · intro hF
      repeat' (first
 |refine aK fun K hK=>?_|refine Step.by1 ?_|refine sE (by decide) ?_|refine cz rfl ?_|refine Fork.by2 (fun h=>?_) fun h=>?_
 |(refine aR ?_;simp [vl, NetD.cells])
 |(refine Split.by2 (fun h=>?_) (fun h=>?_)<;>(simp [h, vl, NetD.cells]))
 |(apply hK;clear hK K)|refine AWh ‹_› ?_)
      exact r1q (cE (by rw [← hF, hE0]; rfl) rfl)
theorem small_sizes {n : NetD} (h : sizesE n = 0) : Small n := by
  unfold sizesE at h
  split at h
  · cases h
  · rename_i h'; exact small_of (by simpa using h')
theorem anyL_len (n : NetD) (hn : n.ok) : ∀ a ∈ n.autos, a.locs.length ≤ 1099511627776 := fun a ha => by have := (hn.2.2.2.2 a ha).2.1.1; omega
set_option maxRecDepth 20000 in
set_option maxHeartbeats 16000000 in
theorem c_Whole (n : NetD) (hn : n.ok) : PC 12 [.agg n.cells] (.int .i64 (wholeE n)) := by
  have l1 := hn.2.2.2.1
  have l2 := hn.2.1.1
  have h0 := c_someE n (by omega)
  have h1 := c_sizes n hn
  have h2 := c_names n hn
  have h3 := c_varE n (by omega)
  have h4 := c_locs n (by omega) (anyL_len n hn)
  have h5 := c_edges n hn
  have h6 : sizesE n = 0 → PC 45 [.agg n.cells] (.int .i64 (clocksE n)) := fun h => c_clocks n (small_sizes h)
  have h7 : sizesE n = 0 → PC 46 [.agg n.cells] (.int .i64 (formsE n)) := fun h => c_forms n (small_sizes h)
  have h8 : sizesE n = 0 → PC 47 [.agg n.cells] (.int .i64 (testsE n)) := fun h => c_tests n hn (small_sizes h)
  obtain ⟨r, hr⟩ : ∃ r, wholeE n = r := ⟨_, rfl⟩
  rw [hr]
  unfold wholeE at hr
  generalize someE n = e0 at *
  generalize sizesE n = e1 at *
  generalize namesE n = e2 at *
  generalize varE n.vars = e3 at *
  generalize locsE n.autos = e4 at *
  generalize edgesE n n.autos = e5 at *
  generalize clocksE n = e6 at *
  generalize formsE n = e7 at *
  generalize testsE n = e8 at *
  simp only [vl, NetD.cells] at h0 h1 h2 h3 h4 h5 h6 h7 h8
  refine pB Tryd.func12 rfl (by decide) Tryd.ntmps12 (by simp) Tryd.results12 ?_
  repeat' (first
 |refine aK fun K hK=>?_|refine Step.by1 ?_|refine sE (by decide) ?_|refine cz rfl ?_|refine Fork.by2 (fun h=>?_) fun h=>?_
 |(refine aR ?_;simp [vl, NetD.cells])
 |(refine Split.by2 (fun h=>?_) (fun h=>?_)<;>(simp [h, vl, NetD.cells]))
 |(apply hK;clear hK K)|refine AWh ‹_› ?_)
  refine aL [1, 8, 9] (fun i : Nat => [(10, .int .i64 i)]) (fun _ => [.var n.cells, .row 35 0 0 true [[.fn (.func 39) [] []], [.fn (.func 40) [] []], [.fn (.func 41) [] []], [.fn (.func 42) [] []], [.fn (.func 43) [] []], [.fn (.func 44) [] []], [.fn (.func 45) [] []], [.fn (.func 46) [] []], [.fn (.func 47) [] []]]])
    (fun i => i ≤ 9 ∧ firstE ([e0, e1, e2, e3, e4, e5, e6, e7, e8].drop i) = r ∧ (2 ≤ i → e1 = 0)) (fun i => 9 - i) 0 ⟨Nat.zero_le _, hr, fun h => by omega⟩ (by apply Weak.mk' <;> simp [vl, NetD.cells]) (fun _ _ => rfl) ?_
  rintro i ⟨hi, hF, hz⟩
  have w1 : IntKind.i64.wrap ((i : Int) + 1) = i + 1 := wI (by omega) (by omega)
  rcases i with _ | _ | _ | _ | _ | _ | _ | _ | _ | _ | i
  · rw [show [e0, e1, e2, e3, e4, e5, e6, e7, e8].drop 0 = e0 :: [e0, e1, e2, e3, e4, e5, e6, e7, e8].drop 1 from rfl, fC] at hF
    have hc := h0
    by_cases he : e0 = 0
    · rw [if_neg (by simp [he])] at hF
      rw [he] at hc
      repeat' (first
 |refine aK fun K hK=>?_|refine Step.by1 ?_|refine sE (by decide) ?_|refine cz rfl ?_|refine Fork.by2 (fun h=>?_) fun h=>?_
 |((first|refine aR ?_|refine aC (f:=39) rfl rfl (hc) rfl rfl rfl ?_);simp [vl, NetD.cells, wI];try (simp (disch:=omega) only [wI];try simp [vl, NetD.cells, wI]))
 |(refine Split.by2 (fun h=>?_) (fun h=>?_)<;>(simp [h, vl, NetD.cells, wI];try (simp (disch:=omega) only [wI];try simp [vl, NetD.cells, wI])))
 |(apply hK;clear hK K)|refine AWh ‹_› ?_)
      refine ⟨1, ⟨by omega, hF, fun h => by omega⟩, by omega, ?_⟩; apply Weak.mk' <;> simp [vl, NetD.cells]
    · rw [if_pos he] at hF
      subst hF
      repeat' (first
 |refine aK fun K hK=>?_|refine Step.by1 ?_|refine sE (by decide) ?_|refine cz rfl ?_|refine Fork.by2 (fun h=>?_) fun h=>?_
 |((first|refine aR ?_|refine aC (f:=39) rfl rfl (hc) rfl rfl rfl ?_);simp [vl, NetD.cells, wI, he];try (simp (disch:=omega) only [wI];try simp [vl, NetD.cells, wI, he]))
 |(refine Split.by2 (fun h=>?_) (fun h=>?_)<;>(simp [h, vl, NetD.cells, wI, he];try (simp (disch:=omega) only [wI];try simp [vl, NetD.cells, wI, he])))
 |(apply hK;clear hK K)|refine AWh ‹_› ?_)
      exact r1q (cE rfl rfl)
  · rw [show [e0, e1, e2, e3, e4, e5, e6, e7, e8].drop 1 = e1 :: [e0, e1, e2, e3, e4, e5, e6, e7, e8].drop 2 from rfl, fC] at hF
    have hc := h1
    by_cases he : e1 = 0
    · rw [if_neg (by simp [he])] at hF
      rw [he] at hc
      repeat' (first
 |refine aK fun K hK=>?_|refine Step.by1 ?_|refine sE (by decide) ?_|refine cz rfl ?_|refine Fork.by2 (fun h=>?_) fun h=>?_
 |((first|refine aR ?_|refine aC (f:=40) rfl rfl (hc) rfl rfl rfl ?_);simp [vl, NetD.cells, wI];try (simp (disch:=omega) only [wI];try simp [vl, NetD.cells, wI]))
 |(refine Split.by2 (fun h=>?_) (fun h=>?_)<;>(simp [h, vl, NetD.cells, wI];try (simp (disch:=omega) only [wI];try simp [vl, NetD.cells, wI])))
 |(apply hK;clear hK K)|refine AWh ‹_› ?_)
      refine ⟨2, ⟨by omega, hF, fun h => he⟩, by omega, ?_⟩; apply Weak.mk' <;> simp [vl, NetD.cells]
    · rw [if_pos he] at hF
      subst hF
      repeat' (first
 |refine aK fun K hK=>?_|refine Step.by1 ?_|refine sE (by decide) ?_|refine cz rfl ?_|refine Fork.by2 (fun h=>?_) fun h=>?_
 |((first|refine aR ?_|refine aC (f:=40) rfl rfl (hc) rfl rfl rfl ?_);simp [vl, NetD.cells, wI, he];try (simp (disch:=omega) only [wI];try simp [vl, NetD.cells, wI, he]))
 |(refine Split.by2 (fun h=>?_) (fun h=>?_)<;>(simp [h, vl, NetD.cells, wI, he];try (simp (disch:=omega) only [wI];try simp [vl, NetD.cells, wI, he])))
 |(apply hK;clear hK K)|refine AWh ‹_› ?_)
      exact r1q (cE rfl rfl)
  · rw [show [e0, e1, e2, e3, e4, e5, e6, e7, e8].drop 2 = e2 :: [e0, e1, e2, e3, e4, e5, e6, e7, e8].drop 3 from rfl, fC] at hF
    have hc := h2
    by_cases he : e2 = 0
    · rw [if_neg (by simp [he])] at hF
      rw [he] at hc
      repeat' (first
 |refine aK fun K hK=>?_|refine Step.by1 ?_|refine sE (by decide) ?_|refine cz rfl ?_|refine Fork.by2 (fun h=>?_) fun h=>?_
 |((first|refine aR ?_|refine aC (f:=41) rfl rfl (hc) rfl rfl rfl ?_);simp [vl, NetD.cells, wI];try (simp (disch:=omega) only [wI];try simp [vl, NetD.cells, wI]))
 |(refine Split.by2 (fun h=>?_) (fun h=>?_)<;>(simp [h, vl, NetD.cells, wI];try (simp (disch:=omega) only [wI];try simp [vl, NetD.cells, wI])))
 |(apply hK;clear hK K)|refine AWh ‹_› ?_)
      refine ⟨3, ⟨by omega, hF, fun h => hz (by omega)⟩, by omega, ?_⟩; apply Weak.mk' <;> simp [vl, NetD.cells]
    · rw [if_pos he] at hF
      subst hF
      repeat' (first
 |refine aK fun K hK=>?_|refine Step.by1 ?_|refine sE (by decide) ?_|refine cz rfl ?_|refine Fork.by2 (fun h=>?_) fun h=>?_
 |((first|refine aR ?_|refine aC (f:=41) rfl rfl (hc) rfl rfl rfl ?_);simp [vl, NetD.cells, wI, he];try (simp (disch:=omega) only [wI];try simp [vl, NetD.cells, wI, he]))
 |(refine Split.by2 (fun h=>?_) (fun h=>?_)<;>(simp [h, vl, NetD.cells, wI, he];try (simp (disch:=omega) only [wI];try simp [vl, NetD.cells, wI, he])))
 |(apply hK;clear hK K)|refine AWh ‹_› ?_)
      exact r1q (cE rfl rfl)
  · rw [show [e0, e1, e2, e3, e4, e5, e6, e7, e8].drop 3 = e3 :: [e0, e1, e2, e3, e4, e5, e6, e7, e8].drop 4 from rfl, fC] at hF
    have hc := h3
    by_cases he : e3 = 0
    · rw [if_neg (by simp [he])] at hF
      rw [he] at hc
      repeat' (first
 |refine aK fun K hK=>?_|refine Step.by1 ?_|refine sE (by decide) ?_|refine cz rfl ?_|refine Fork.by2 (fun h=>?_) fun h=>?_
 |((first|refine aR ?_|refine aC (f:=42) rfl rfl (hc) rfl rfl rfl ?_);simp [vl, NetD.cells, wI];try (simp (disch:=omega) only [wI];try simp [vl, NetD.cells, wI]))
 |(refine Split.by2 (fun h=>?_) (fun h=>?_)<;>(simp [h, vl, NetD.cells, wI];try (simp (disch:=omega) only [wI];try simp [vl, NetD.cells, wI])))
 |(apply hK;clear hK K)|refine AWh ‹_› ?_)
      refine ⟨4, ⟨by omega, hF, fun h => hz (by omega)⟩, by omega, ?_⟩; apply Weak.mk' <;> simp [vl, NetD.cells]
    · rw [if_pos he] at hF
      subst hF
      repeat' (first
 |refine aK fun K hK=>?_|refine Step.by1 ?_|refine sE (by decide) ?_|refine cz rfl ?_|refine Fork.by2 (fun h=>?_) fun h=>?_
 |((first|refine aR ?_|refine aC (f:=42) rfl rfl (hc) rfl rfl rfl ?_);simp [vl, NetD.cells, wI, he];try (simp (disch:=omega) only [wI];try simp [vl, NetD.cells, wI, he]))
 |(refine Split.by2 (fun h=>?_) (fun h=>?_)<;>(simp [h, vl, NetD.cells, wI, he];try (simp (disch:=omega) only [wI];try simp [vl, NetD.cells, wI, he])))
 |(apply hK;clear hK K)|refine AWh ‹_› ?_)
      exact r1q (cE rfl rfl)
  · rw [show [e0, e1, e2, e3, e4, e5, e6, e7, e8].drop 4 = e4 :: [e0, e1, e2, e3, e4, e5, e6, e7, e8].drop 5 from rfl, fC] at hF
    have hc := h4
    by_cases he : e4 = 0
    · rw [if_neg (by simp [he])] at hF
      rw [he] at hc
      repeat' (first
 |refine aK fun K hK=>?_|refine Step.by1 ?_|refine sE (by decide) ?_|refine cz rfl ?_|refine Fork.by2 (fun h=>?_) fun h=>?_
 |((first|refine aR ?_|refine aC (f:=43) rfl rfl (hc) rfl rfl rfl ?_);simp [vl, NetD.cells, wI];try (simp (disch:=omega) only [wI];try simp [vl, NetD.cells, wI]))
 |(refine Split.by2 (fun h=>?_) (fun h=>?_)<;>(simp [h, vl, NetD.cells, wI];try (simp (disch:=omega) only [wI];try simp [vl, NetD.cells, wI])))
 |(apply hK;clear hK K)|refine AWh ‹_› ?_)
      refine ⟨5, ⟨by omega, hF, fun h => hz (by omega)⟩, by omega, ?_⟩; apply Weak.mk' <;> simp [vl, NetD.cells]
    · rw [if_pos he] at hF
      subst hF
      repeat' (first
 |refine aK fun K hK=>?_|refine Step.by1 ?_|refine sE (by decide) ?_|refine cz rfl ?_|refine Fork.by2 (fun h=>?_) fun h=>?_
 |((first|refine aR ?_|refine aC (f:=43) rfl rfl (hc) rfl rfl rfl ?_);simp [vl, NetD.cells, wI, he];try (simp (disch:=omega) only [wI];try simp [vl, NetD.cells, wI, he]))
 |(refine Split.by2 (fun h=>?_) (fun h=>?_)<;>(simp [h, vl, NetD.cells, wI, he];try (simp (disch:=omega) only [wI];try simp [vl, NetD.cells, wI, he])))
 |(apply hK;clear hK K)|refine AWh ‹_› ?_)
      exact r1q (cE rfl rfl)
  · rw [show [e0, e1, e2, e3, e4, e5, e6, e7, e8].drop 5 = e5 :: [e0, e1, e2, e3, e4, e5, e6, e7, e8].drop 6 from rfl, fC] at hF
    have hc := h5
    by_cases he : e5 = 0
    · rw [if_neg (by simp [he])] at hF
      rw [he] at hc
      repeat' (first
 |refine aK fun K hK=>?_|refine Step.by1 ?_|refine sE (by decide) ?_|refine cz rfl ?_|refine Fork.by2 (fun h=>?_) fun h=>?_
 |((first|refine aR ?_|refine aC (f:=44) rfl rfl (hc) rfl rfl rfl ?_);simp [vl, NetD.cells, wI];try (simp (disch:=omega) only [wI];try simp [vl, NetD.cells, wI]))
 |(refine Split.by2 (fun h=>?_) (fun h=>?_)<;>(simp [h, vl, NetD.cells, wI];try (simp (disch:=omega) only [wI];try simp [vl, NetD.cells, wI])))
 |(apply hK;clear hK K)|refine AWh ‹_› ?_)
      refine ⟨6, ⟨by omega, hF, fun h => hz (by omega)⟩, by omega, ?_⟩; apply Weak.mk' <;> simp [vl, NetD.cells]
    · rw [if_pos he] at hF
      subst hF
      repeat' (first
 |refine aK fun K hK=>?_|refine Step.by1 ?_|refine sE (by decide) ?_|refine cz rfl ?_|refine Fork.by2 (fun h=>?_) fun h=>?_
 |((first|refine aR ?_|refine aC (f:=44) rfl rfl (hc) rfl rfl rfl ?_);simp [vl, NetD.cells, wI, he];try (simp (disch:=omega) only [wI];try simp [vl, NetD.cells, wI, he]))
 |(refine Split.by2 (fun h=>?_) (fun h=>?_)<;>(simp [h, vl, NetD.cells, wI, he];try (simp (disch:=omega) only [wI];try simp [vl, NetD.cells, wI, he])))
 |(apply hK;clear hK K)|refine AWh ‹_› ?_)
      exact r1q (cE rfl rfl)
  · rw [show [e0, e1, e2, e3, e4, e5, e6, e7, e8].drop 6 = e6 :: [e0, e1, e2, e3, e4, e5, e6, e7, e8].drop 7 from rfl, fC] at hF
    have hc := h6 (hz (by omega))
    by_cases he : e6 = 0
    · rw [if_neg (by simp [he])] at hF
      rw [he] at hc
      repeat' (first
 |refine aK fun K hK=>?_|refine Step.by1 ?_|refine sE (by decide) ?_|refine cz rfl ?_|refine Fork.by2 (fun h=>?_) fun h=>?_
 |((first|refine aR ?_|refine aC (f:=45) rfl rfl (hc) rfl rfl rfl ?_);simp [vl, NetD.cells, wI];try (simp (disch:=omega) only [wI];try simp [vl, NetD.cells, wI]))
 |(refine Split.by2 (fun h=>?_) (fun h=>?_)<;>(simp [h, vl, NetD.cells, wI];try (simp (disch:=omega) only [wI];try simp [vl, NetD.cells, wI])))
 |(apply hK;clear hK K)|refine AWh ‹_› ?_)
      refine ⟨7, ⟨by omega, hF, fun h => hz (by omega)⟩, by omega, ?_⟩; apply Weak.mk' <;> simp [vl, NetD.cells]
    · rw [if_pos he] at hF
      subst hF
      repeat' (first
 |refine aK fun K hK=>?_|refine Step.by1 ?_|refine sE (by decide) ?_|refine cz rfl ?_|refine Fork.by2 (fun h=>?_) fun h=>?_
 |((first|refine aR ?_|refine aC (f:=45) rfl rfl (hc) rfl rfl rfl ?_);simp [vl, NetD.cells, wI, he];try (simp (disch:=omega) only [wI];try simp [vl, NetD.cells, wI, he]))
 |(refine Split.by2 (fun h=>?_) (fun h=>?_)<;>(simp [h, vl, NetD.cells, wI, he];try (simp (disch:=omega) only [wI];try simp [vl, NetD.cells, wI, he])))
 |(apply hK;clear hK K)|refine AWh ‹_› ?_)
      exact r1q (cE rfl rfl)
  · rw [show [e0, e1, e2, e3, e4, e5, e6, e7, e8].drop 7 = e7 :: [e0, e1, e2, e3, e4, e5, e6, e7, e8].drop 8 from rfl, fC] at hF
    have hc := h7 (hz (by omega))
    by_cases he : e7 = 0
    · rw [if_neg (by simp [he])] at hF
      rw [he] at hc
      repeat' (first
 |refine aK fun K hK=>?_|refine Step.by1 ?_|refine sE (by decide) ?_|refine cz rfl ?_|refine Fork.by2 (fun h=>?_) fun h=>?_
 |((first|refine aR ?_|refine aC (f:=46) rfl rfl (hc) rfl rfl rfl ?_);simp [vl, NetD.cells, wI];try (simp (disch:=omega) only [wI];try simp [vl, NetD.cells, wI]))
 |(refine Split.by2 (fun h=>?_) (fun h=>?_)<;>(simp [h, vl, NetD.cells, wI];try (simp (disch:=omega) only [wI];try simp [vl, NetD.cells, wI])))
 |(apply hK;clear hK K)|refine AWh ‹_› ?_)
      refine ⟨8, ⟨by omega, hF, fun h => hz (by omega)⟩, by omega, ?_⟩; apply Weak.mk' <;> simp [vl, NetD.cells]
    · rw [if_pos he] at hF
      subst hF
      repeat' (first
 |refine aK fun K hK=>?_|refine Step.by1 ?_|refine sE (by decide) ?_|refine cz rfl ?_|refine Fork.by2 (fun h=>?_) fun h=>?_
 |((first|refine aR ?_|refine aC (f:=46) rfl rfl (hc) rfl rfl rfl ?_);simp [vl, NetD.cells, wI, he];try (simp (disch:=omega) only [wI];try simp [vl, NetD.cells, wI, he]))
 |(refine Split.by2 (fun h=>?_) (fun h=>?_)<;>(simp [h, vl, NetD.cells, wI, he];try (simp (disch:=omega) only [wI];try simp [vl, NetD.cells, wI, he])))
 |(apply hK;clear hK K)|refine AWh ‹_› ?_)
      exact r1q (cE rfl rfl)
  · rw [show [e0, e1, e2, e3, e4, e5, e6, e7, e8].drop 8 = e8 :: [e0, e1, e2, e3, e4, e5, e6, e7, e8].drop 9 from rfl, fC] at hF
    have hc := h8 (hz (by omega))
    by_cases he : e8 = 0
    · rw [if_neg (by simp [he])] at hF
      rw [he] at hc
      repeat' (first
 |refine aK fun K hK=>?_|refine Step.by1 ?_|refine sE (by decide) ?_|refine cz rfl ?_|refine Fork.by2 (fun h=>?_) fun h=>?_
 |((first|refine aR ?_|refine aC (f:=47) rfl rfl (hc) rfl rfl rfl ?_);simp [vl, NetD.cells, wI];try (simp (disch:=omega) only [wI];try simp [vl, NetD.cells, wI]))
 |(refine Split.by2 (fun h=>?_) (fun h=>?_)<;>(simp [h, vl, NetD.cells, wI];try (simp (disch:=omega) only [wI];try simp [vl, NetD.cells, wI])))
 |(apply hK;clear hK K)|refine AWh ‹_› ?_)
      refine ⟨9, ⟨by omega, hF, fun h => hz (by omega)⟩, by omega, ?_⟩; apply Weak.mk' <;> simp [vl, NetD.cells]
    · rw [if_pos he] at hF
      subst hF
      repeat' (first
 |refine aK fun K hK=>?_|refine Step.by1 ?_|refine sE (by decide) ?_|refine cz rfl ?_|refine Fork.by2 (fun h=>?_) fun h=>?_
 |((first|refine aR ?_|refine aC (f:=47) rfl rfl (hc) rfl rfl rfl ?_);simp [vl, NetD.cells, wI, he];try (simp (disch:=omega) only [wI];try simp [vl, NetD.cells, wI, he]))
 |(refine Split.by2 (fun h=>?_) (fun h=>?_)<;>(simp [h, vl, NetD.cells, wI, he];try (simp (disch:=omega) only [wI];try simp [vl, NetD.cells, wI, he])))
 |(apply hK;clear hK K)|refine AWh ‹_› ?_)
      exact r1q (cE rfl rfl)
  · repeat' (first
 |refine aK fun K hK=>?_|refine Step.by1 ?_|refine sE (by decide) ?_|refine cz rfl ?_|refine Fork.by2 (fun h=>?_) fun h=>?_
 |(refine aR ?_;simp [vl, NetD.cells])
 |(refine Split.by2 (fun h=>?_) (fun h=>?_)<;>(simp [h, vl, NetD.cells]))
 |(apply hK;clear hK K)|refine AWh ‹_› ?_)
    exact r1q (cE (by rw [← hF]; rfl) rfl)
  · omega
def edG (x : EdgeD) : Int := if greatE x.guards ≠ 0 then greatE x.guards else greatSE x.sets
def whereE (n : NetD) : (Int × Int × Int) × Int :=
  if wholeE n ≠ 0 then ((0, 0, 0), wholeE n)
  else if (searchE (fun l => diagE l.inv) (fun x => diagE x.guards) n.autos 0).2 ≠ 0 then searchE (fun l => diagE l.inv) (fun x => diagE x.guards) n.autos 0
  else searchE (fun l => greatE l.inv) edG n.autos 0
def netE (n : NetD) : Int := (whereE n).2
theorem c_Where1 (x : LocD) (hx : x.ok) : PC 68 [.agg x.cells] (.int .i64 (diagE x.inv)) := by
  have hc := c_diagE x.inv (by have := hx.2.2.1; omega)
  simp only [vl] at hc
  refine pB Tryd.func68 rfl (by decide) Tryd.ntmps68 (by simp) Tryd.results68 ?_
  repeat' (first
 |refine aK fun K hK=>?_|refine Step.by1 ?_|refine sE (by decide) ?_|refine cz rfl ?_|refine Fork.by2 (fun h=>?_) fun h=>?_
 |((first|refine aR ?_|refine aC (f:=69) rfl rfl (hc) rfl rfl rfl ?_);simp [vl, LocD.cells])
 |(refine Split.by2 (fun h=>?_) (fun h=>?_)<;>(simp [h, vl, LocD.cells]))
 |(apply hK;clear hK K)|refine AWh ‹_› ?_)
  exact r1q (cE rfl rfl)
theorem c_Where2 (x : EdgeD) (hx : x.ok) : PC 70 [.agg x.cells] (.int .i64 (diagE x.guards)) := by
  have hc := c_diagE x.guards (by have := hx.2.2.1.1; omega)
  simp only [vl] at hc
  refine pB Tryd.func70 rfl (by decide) Tryd.ntmps70 (by simp) Tryd.results70 ?_
  repeat' (first
 |refine aK fun K hK=>?_|refine Step.by1 ?_|refine sE (by decide) ?_|refine cz rfl ?_|refine Fork.by2 (fun h=>?_) fun h=>?_
 |((first|refine aR ?_|refine aC (f:=69) rfl rfl (hc) rfl rfl rfl ?_);simp [vl, EdgeD.cells])
 |(refine Split.by2 (fun h=>?_) (fun h=>?_)<;>(simp [h, vl, EdgeD.cells]))
 |(apply hK;clear hK K)|refine AWh ‹_› ?_)
  exact r1q (cE rfl rfl)
theorem c_Where3 (x : LocD) (hx : x.ok) : PC 71 [.agg x.cells] (.int .i64 (greatE x.inv)) := by
  have hc := c_greatE x.inv (by have := hx.2.2.1; omega)
  simp only [vl] at hc
  refine pB Tryd.func71 rfl (by decide) Tryd.ntmps71 (by simp) Tryd.results71 ?_
  repeat' (first
 |refine aK fun K hK=>?_|refine Step.by1 ?_|refine sE (by decide) ?_|refine cz rfl ?_|refine Fork.by2 (fun h=>?_) fun h=>?_
 |((first|refine aR ?_|refine aC (f:=72) rfl rfl (hc) rfl rfl rfl ?_);simp [vl, LocD.cells])
 |(refine Split.by2 (fun h=>?_) (fun h=>?_)<;>(simp [h, vl, LocD.cells]))
 |(apply hK;clear hK K)|refine AWh ‹_› ?_)
  exact r1q (cE rfl rfl)
theorem c_Where4 (x : EdgeD) (hx : x.ok) : PC 73 [.agg x.cells] (.int .i64 (edG x)) := by
  have hc := c_greatE x.guards (by have := hx.2.2.1.1; omega)
  have hc2 := c_greatSE x.sets (by have := hx.2.2.2.2.2.2.1; omega)
  obtain ⟨r, hr⟩ : ∃ r, edG x = r := ⟨_, rfl⟩
  rw [hr]
  unfold edG at hr
  simp only [vl] at hc hc2
  generalize greatE x.guards = k1 at *
  generalize greatSE x.sets = k2 at *
  refine pB Tryd.func73 rfl (by decide) Tryd.ntmps73 (by simp) Tryd.results73 ?_
  by_cases hz : k1 = 0
  · rw [if_neg (by simp [hz])] at hr
    rw [hz] at hc
    repeat' (first
 |refine aK fun K hK=>?_|refine Step.by1 ?_|refine sE (by decide) ?_|refine cz rfl ?_|refine Fork.by2 (fun h=>?_) fun h=>?_
 |((first|refine aR ?_|refine aC (f:=72) rfl rfl (hc) rfl rfl rfl ?_|refine aC (f:=74) rfl rfl (hc2) rfl rfl rfl ?_);simp [vl, EdgeD.cells])
 |(refine Split.by2 (fun h=>?_) (fun h=>?_)<;>(simp [h, vl, EdgeD.cells]))
 |(apply hK;clear hK K)|refine AWh ‹_› ?_)
    exact r1q (cE (by rw [← hr]; rfl) rfl)
  · rw [if_pos hz] at hr
    repeat' (first
 |refine aK fun K hK=>?_|refine Step.by1 ?_|refine sE (by decide) ?_|refine cz rfl ?_|refine Fork.by2 (fun h=>?_) fun h=>?_
 |((first|refine aR ?_|refine aC (f:=72) rfl rfl (hc) rfl rfl rfl ?_);simp [vl, EdgeD.cells, hz])
 |(refine Split.by2 (fun h=>?_) (fun h=>?_)<;>(simp [h, vl, EdgeD.cells, hz]))
 |(apply hK;clear hK K)|refine AWh ‹_› ?_)
    exact r1q (cE (by rw [← hr]; rfl) rfl)
set_option maxRecDepth 20000 in
set_option maxHeartbeats 8000000 in
theorem c_Where (n : NetD) (hn : n.ok) : PC 38 [.agg n.cells] (spotE (whereE n)) := by
  have hW := c_Whole n hn
  have hS := c_search n hn 68 70 (fun l => diagE l.inv) (fun x => diagE x.guards) (fun a ha x hx => c_Where1 x ((hn.2.2.2.2 a ha).2.1.2 x hx)) (fun a ha x hx => c_Where2 x ((hn.2.2.2.2 a ha).2.2.2 x hx))
  have hT := c_search n hn 71 73 (fun l => greatE l.inv) edG (fun a ha x hx => c_Where3 x ((hn.2.2.2.2 a ha).2.1.2 x hx)) (fun a ha x hx => c_Where4 x ((hn.2.2.2.2 a ha).2.2.2 x hx))
  obtain ⟨r, hr⟩ : ∃ r, whereE n = r := ⟨_, rfl⟩
  rw [hr]
  unfold whereE at hr
  generalize wholeE n = w at *
  generalize searchE (fun l => diagE l.inv) (fun x => diagE x.guards) n.autos 0 = s at *
  generalize searchE (fun l => greatE l.inv) edG n.autos 0 = t at *
  obtain ⟨⟨s1, s2, s3⟩, s4⟩ := s
  obtain ⟨⟨t1, t2, t3⟩, t4⟩ := t
  simp only [vl, NetD.cells, spotE, spotV] at hW hS hT
  simp only at hr
  refine pB Tryd.func38 rfl (by decide) Tryd.ntmps38 (by simp) Tryd.results38 ?_
  by_cases hw : w = 0
  · subst hw
    rw [if_neg (by simp)] at hr
    by_cases hs : s4 = 0
    · subst hs
      rw [if_neg (by simp)] at hr
      subst hr
      repeat' (first
 |refine aK fun K hK=>?_|refine Step.by1 ?_|refine sE (by decide) ?_|refine cz rfl ?_|refine Fork.by2 (fun h=>?_) fun h=>?_
 |((first|refine aR ?_|refine aC (f:=12) rfl rfl (hW) rfl rfl rfl ?_|refine aC (f:=63) rfl rfl (hS) rfl rfl rfl ?_|refine aC (f:=63) rfl rfl (hT) rfl rfl rfl ?_);simp [vl, NetD.cells])
 |(refine Split.by2 (fun h=>?_) (fun h=>?_)<;>(simp [h, vl, NetD.cells]))
 |(apply hK;clear hK K)|refine AWh ‹_› ?_)
      exact retq2ct rfl (by simp) (cE (by simp [spotE, spotV]) (by simp))
    · rw [if_pos hs] at hr
      subst hr
      repeat' (first
 |refine aK fun K hK=>?_|refine Step.by1 ?_|refine sE (by decide) ?_|refine cz rfl ?_|refine Fork.by2 (fun h=>?_) fun h=>?_
 |((first|refine aR ?_|refine aC (f:=12) rfl rfl (hW) rfl rfl rfl ?_|refine aC (f:=63) rfl rfl (hS) rfl rfl rfl ?_);simp [vl, NetD.cells, hs])
 |(refine Split.by2 (fun h=>?_) (fun h=>?_)<;>(simp [h, vl, NetD.cells, hs]))
 |(apply hK;clear hK K)|refine AWh ‹_› ?_)
      exact retq2ct rfl (by simp) (cE (by simp [spotE, spotV]) (by simp))
  · rw [if_pos hw] at hr
    subst hr
    repeat' (first
 |refine aK fun K hK=>?_|refine Step.by1 ?_|refine sE (by decide) ?_|refine cz rfl ?_|refine Fork.by2 (fun h=>?_) fun h=>?_
 |((first|refine aR ?_|refine aC (f:=12) rfl rfl (hW) rfl rfl rfl ?_);simp [vl, NetD.cells, hw])
 |(refine Split.by2 (fun h=>?_) (fun h=>?_)<;>(simp [h, vl, NetD.cells, hw]))
 |(apply hK;clear hK K)|refine AWh ‹_› ?_)
    exact retq2ct rfl (by simp) (cE (by simp [spotE, spotV]) (by simp))
theorem c_Net (n : NetD) (hn : n.ok) : PC 10 [.agg n.cells] (.int .i64 (netE n)) := by
  have hW := c_Where n hn
  unfold netE
  generalize whereE n = s at *
  obtain ⟨⟨s1, s2, s3⟩, s4⟩ := s
  simp only [vl, NetD.cells, spotE, spotV] at hW
  refine pB Tryd.func10 rfl (by decide) Tryd.ntmps10 (by simp) Tryd.results10 ?_
  repeat' (first
 |refine aK fun K hK=>?_|refine Step.by1 ?_|refine sE (by decide) ?_|refine cz rfl ?_|refine Fork.by2 (fun h=>?_) fun h=>?_
 |((first|refine aR ?_|refine aC (f:=38) rfl rfl (hW) rfl rfl rfl ?_);simp [vl, NetD.cells])
 |(refine Split.by2 (fun h=>?_) (fun h=>?_)<;>(simp [h, vl, NetD.cells]))
 |(apply hK;clear hK K)|refine AWh ‹_› ?_)
  exact r1q (cE rfl rfl)
theorem leaves_drop {h x : List B} : Go.AM.Leaves h (h ++ x) h := ⟨Nat.le_refl _, by simp, fun b y hy => .inr ⟨by
  rw [List.getElem?_append_left (List.getElem?_eq_some_iff.1 hy).1]; exact hy, .inl hy⟩⟩
def raise1 (so : Int → Bool) (o : List Int) (g : GuardD) : List Int :=
  if so g.cmp = true then o.set (g.clock - 1).toNat (if g.n > o.getD (g.clock - 1).toNat 0 then g.n else o.getD (g.clock - 1).toNat 0) else o
def raiseL (so : Int → Bool) (l : List GuardD) (o : List Int) : List Int := l.foldl (raise1 so) o
theorem raiseL_nil {so : Int → Bool} {o : List Int} : raiseL so [] o = o := rfl
theorem raiseL_cons {so : Int → Bool} {g : GuardD} {l : List GuardD} {o : List Int} : raiseL so (g :: l) o = raiseL so l (raise1 so o g) := rfl
theorem raise1_len {so : Int → Bool} {g : GuardD} {o : List Int} : (raise1 so o g).length = o.length := by unfold raise1; split <;> simp
theorem raiseL_len {so : Int → Bool} : ∀ {l : List GuardD} {o : List Int}, (raiseL so l o).length = o.length
  | [], o => rfl
  | g :: l, o => by rw [raiseL_cons, raiseL_len, raise1_len]
/-- A guard that is of the clocks. -/
def okG (N : Nat) (g : GuardD) : Prop := 1 ≤ g.clock ∧ g.clock ≤ N
theorem retg2c {P : Program} {st : St} {t u : Nat} {T : TypeId} {cs : List V} {off : Nat} {Q : V → List B → Prop} {h0 h' : List B} (hp : place st.h (lk st.tm t) = some (cs, off)) (ho : loadOk P T cs off) (hq : Q (.tup [loadV P T cs off, lk st.tm u]) h')
    (hv : (V.tup [loadV P T cs off, lk st.tm u]).lt h'.length = true) (hl : Go.AM.Leaves h0 st.h h') : RetG P #[.cell t T, .tmp u] Q h0 .ret st :=
  ⟨.inr rfl, _, h', ⟨[loadV P T cs off, lk st.tm u], rfl, ⟨cs, off, hp, ho, rfl⟩, rfl, trivial⟩, hq, hv, hl⟩
theorem raiseL_append {so : Int → Bool} {l l' : List GuardD} {o : List Int} : raiseL so (l ++ l') o = raiseL so l' (raiseL so l o) := by simp [raiseL]
end Go.Proofs.YtgmlimipejcpgaaDoor
end
