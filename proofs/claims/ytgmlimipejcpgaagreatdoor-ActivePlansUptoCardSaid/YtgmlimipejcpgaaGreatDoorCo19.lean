/-
  YtgmlimipejcpgaaGreatDoorCo19: steps of the proof of a law of the program: what these texts prove holds under the hypotheses that their theorems name, and no others.
-/
import Derived.Test.YtgmlimipejcpgaaGreatDoorCo18
section
set_option linter.unusedSimpArgs false
set_option linter.unusedVariables false
namespace Go.Proofs.YtgmlimipejcpgaaGreatDoor
open Go Go.AM Fx
set_option maxRecDepth 8000 in
set_option maxHeartbeats 4000000 in
theorem c_names (n : NetD) (hn : n.ok) : PC 130 [.agg n.cells] (.int .i64 (namesE n)) := by
  have hA := c_all n hn
  have hl : (allL n).length ≤ 1099511627776 := by obtain ⟨⟨h1, _⟩, ⟨h2, _⟩, ⟨h3, _⟩, h4, h5⟩ := hn; simp [allL, namesL]; omega
  have hs : ∀ s ∈ allL n, s.size ≤ 1048576 := by
    obtain ⟨⟨_, h1⟩, ⟨_, h2⟩, ⟨_, h3⟩, _, h5⟩ := hn
    intro s hs
    simp only [allL, namesL, List.mem_append, List.mem_map] at hs
    rcases hs with hs | ⟨v, hv, rfl⟩ | hs | ⟨a, ha, rfl⟩
    · exact h1 s hs
    · exact (h2 v hv).1
    · exact h3 s hs
    · exact (h5 a ha).1
  have hG := c_given (allL n) hl hs
  obtain ⟨_, _, _, h4, h5⟩ := hn
  obtain ⟨r, hr⟩ : ∃ r, namesE n = r := ⟨_, rfl⟩
  rw [hr]
  unfold namesE namesB at hr
  generalize allL n = al at *
  generalize givenB al = gb at *
  simp only [vl, NetD.cells] at hA hG
  refine pB Tryz.func130 rfl (by decide) Tryz.ntmps130 (by simp) Tryz.results130 ?_
  cases gb
  · repeat' (first
 |refine aK fun K hK=>?_|refine Step.by1 ?_|refine sE (by decide) ?_|refine cz rfl ?_|refine Fork.by2 (fun h=>?_) fun h=>?_
 |((first|refine aR ?_|refine aC (f:=188) rfl rfl (hA) rfl rfl rfl ?_|refine aC (f:=187) rfl rfl (hG) rfl rfl rfl ?_);simp [vl, NetD.cells])
 |(refine Split.by2 (fun h=>?_) (fun h=>?_)<;>(simp [h, vl, NetD.cells]))
 |(apply hK;clear hK K)|refine AWh ‹_› ?_)
    exact r1q (cE (by rw [← hr]; rfl) rfl)
  · rw [Bool.not_true, Bool.false_or] at hr
    obtain ⟨E, hE⟩ : ∃ E : List AutoD → Int, E = fun l => if anyL (fun a => !givenB (locNamesL a)) l = true then 112 else 0 := ⟨_, rfl⟩
    have hEc : ∀ a l, E (a :: l) = if givenB (locNamesL a) = true then E l else 112 := fun a l => by subst hE; cases h : givenB (locNamesL a) <;> simp [anC, h]
    have hEn : E n.autos = r := by subst hE; exact hr
    have hE0 : E [] = 0 := by subst hE; rfl
    clear hr hE
    repeat' (first
 |refine aK fun K hK=>?_|refine Step.by1 ?_|refine sE (by decide) ?_|refine cz rfl ?_|refine Fork.by2 (fun h=>?_) fun h=>?_
 |((first|refine aR ?_|refine aC (f:=188) rfl rfl (hA) rfl rfl rfl ?_|refine aC (f:=187) rfl rfl (hG) rfl rfl rfl ?_);simp [vl, NetD.cells])
 |(refine Split.by2 (fun h=>?_) (fun h=>?_)<;>(simp [h, vl, NetD.cells]))
 |(apply hK;clear hK K)|refine AWh ‹_› ?_)
    refine aS1 (r := r) n.autos 12 [10, 11] E hEn (by apply Weak.mk' <;> simp [vl, NetD.cells]) ?_ ?_
    · intro i a _ hlt ha hF
      rw [hEc] at hF
      have hoa := h5 a (ha ▸ List.getElem_mem hlt)
      have hal : a.locs.length ≤ 1048576 := hoa.2.1.1
      have hlen : (locNamesL a).length = a.locs.length := by simp [locNamesL]
      have hL := c_locNames a hal
      have hG2 := c_given (locNamesL a) (by omega) (fun s hs => by
        simp only [locNamesL, List.mem_map] at hs
        obtain ⟨x, hx, rfl⟩ := hs
        exact (hoa.2.1.2 x hx).1)
      have hlt' : (i : Int) < n.autos.length := by omega
      have w1 : IntKind.i64.wrap ((i : Int) + 1) = i + 1 := wI (by omega) (by omega)
      generalize locNamesL a = ln at *
      generalize givenB ln = gb at *
      simp only [vl, strV, AutoD.cells] at hL hG2
      cases gb
      · repeat' (first
 |refine aK fun K hK=>?_|refine Step.by1 ?_|refine sE (by decide) ?_|refine cz rfl ?_|refine Fork.by2 (fun h=>?_) fun h=>?_
 |((first|refine aR ?_|refine aC (f:=189) rfl rfl (hL) rfl rfl rfl ?_|refine aC (f:=187) rfl rfl (hG2) rfl rfl rfl ?_);simp [vl, NetD.cells, AutoD.cells, hlt, hlt', ha, w1])
 |(refine Split.by2 (fun h=>?_) (fun h=>?_)<;>(simp [h, vl, NetD.cells, AutoD.cells, hlt, hlt', ha, w1]))
 |(apply hK;clear hK K)|refine AWh ‹_› ?_)
        exact r1q (cE (by rw [← hF]; rfl) rfl)
      · repeat' (first
 |refine aK fun K hK=>?_|refine Step.by1 ?_|refine sE (by decide) ?_|refine cz rfl ?_|refine Fork.by2 (fun h=>?_) fun h=>?_
 |((first|refine aR ?_|refine aC (f:=189) rfl rfl (hL) rfl rfl rfl ?_|refine aC (f:=187) rfl rfl (hG2) rfl rfl rfl ?_);simp [vl, NetD.cells, AutoD.cells, hlt, hlt', ha, w1])
 |(refine Split.by2 (fun h=>?_) (fun h=>?_)<;>(simp [h, vl, NetD.cells, AutoD.cells, hlt, hlt', ha, w1]))
 |(apply hK;clear hK K)|refine AWh ‹_› ?_)
        refine ⟨by rw [← hF]; rfl, ?_⟩; apply Weak.mk' <;> simp [vl, NetD.cells]
    · intro hF
      repeat' (first
 |refine aK fun K hK=>?_|refine Step.by1 ?_|refine sE (by decide) ?_|refine cz rfl ?_|refine Fork.by2 (fun h=>?_) fun h=>?_
 |(refine aR ?_;simp [vl, NetD.cells])
 |(refine Split.by2 (fun h=>?_) (fun h=>?_)<;>(simp [h, vl, NetD.cells]))
 |(apply hK;clear hK K)|refine AWh ‹_› ?_)
      exact r1q (cE (by rw [← hF, hE0]; rfl) rfl)
theorem small_sizes {n : NetD} (h : sizesE n = 0) : Small n := by
  unfold sizesE at h
  split at h
  · cases h
  · rename_i h'; exact small_of (by simpa using h')
theorem anyL_len (n : NetD) (hn : n.ok) : ∀ a ∈ n.autos, a.locs.length ≤ 1099511627776 := fun a ha => by have := (hn.2.2.2.2 a ha).2.1.1; omega
set_option maxRecDepth 20000 in
set_option maxHeartbeats 16000000 in
theorem c_Whole (n : NetD) (hn : n.ok) : PC 58 [.agg n.cells] (.int .i64 (wholeE n)) := by
  have l1 := hn.2.2.2.1
  have l2 := hn.2.1.1
  have h0 := c_someE n (by omega)
  have h1 := c_sizes n hn
  have h2 := c_names n hn
  have h3 := c_varE n (by omega)
  have h4 := c_locs n (by omega) (anyL_len n hn)
  have h5 := c_edges n hn
  have h6 : sizesE n = 0 → PC 134 [.agg n.cells] (.int .i64 (clocksE n)) := fun h => c_clocks n (small_sizes h)
  have h7 : sizesE n = 0 → PC 135 [.agg n.cells] (.int .i64 (formsE n)) := fun h => c_forms n (small_sizes h)
  have h8 : sizesE n = 0 → PC 136 [.agg n.cells] (.int .i64 (testsE n)) := fun h => c_tests n hn (small_sizes h)
  obtain ⟨r, hr⟩ : ∃ r, wholeE n = r := ⟨_, rfl⟩
  rw [hr]
  unfold wholeE at hr
  generalize someE n = e0 at *
  generalize sizesE n = e1 at *
  generalize namesE n = e2 at *
  generalize varE n.vars = e3 at *
  generalize locsE n.autos = e4 at *
  generalize edgesE n n.autos = e5 at *
  generalize clocksE n = e6 at *
  generalize formsE n = e7 at *
  generalize testsE n = e8 at *
  simp only [vl, NetD.cells] at h0 h1 h2 h3 h4 h5 h6 h7 h8
  refine pB Tryz.func58 rfl (by decide) Tryz.ntmps58 (by simp) Tryz.results58 ?_
  repeat' (first
 |refine aK fun K hK=>?_|refine Step.by1 ?_|refine sE (by decide) ?_|refine cz rfl ?_|refine Fork.by2 (fun h=>?_) fun h=>?_
 |(refine aR ?_;simp [vl, NetD.cells])
 |(refine Split.by2 (fun h=>?_) (fun h=>?_)<;>(simp [h, vl, NetD.cells]))
 |(apply hK;clear hK K)|refine AWh ‹_› ?_)
  refine aL [1, 8, 9] (fun i : Nat => [(10, .int .i64 i)]) (fun _ => [.var n.cells, .row 37 0 0 true [[.fn (.func 128) [] []], [.fn (.func 129) [] []], [.fn (.func 130) [] []], [.fn (.func 131) [] []], [.fn (.func 132) [] []], [.fn (.func 133) [] []], [.fn (.func 134) [] []], [.fn (.func 135) [] []], [.fn (.func 136) [] []]]])
    (fun i => i ≤ 9 ∧ firstE ([e0, e1, e2, e3, e4, e5, e6, e7, e8].drop i) = r ∧ (2 ≤ i → e1 = 0)) (fun i => 9 - i) 0 ⟨Nat.zero_le _, hr, fun h => by omega⟩ (by apply Weak.mk' <;> simp [vl, NetD.cells]) (fun _ _ => rfl) ?_
  rintro i ⟨hi, hF, hz⟩
  have w1 : IntKind.i64.wrap ((i : Int) + 1) = i + 1 := wI (by omega) (by omega)
  rcases i with _ | _ | _ | _ | _ | _ | _ | _ | _ | _ | i
  · rw [show [e0, e1, e2, e3, e4, e5, e6, e7, e8].drop 0 = e0 :: [e0, e1, e2, e3, e4, e5, e6, e7, e8].drop 1 from rfl, fC] at hF
    have hc := h0
    by_cases he : e0 = 0
    · rw [if_neg (by simp [he])] at hF
      rw [he] at hc
      repeat' (first
 |refine aK fun K hK=>?_|refine Step.by1 ?_|refine sE (by decide) ?_|refine cz rfl ?_|refine Fork.by2 (fun h=>?_) fun h=>?_
 |((first|refine aR ?_|refine aC (f:=128) rfl rfl (hc) rfl rfl rfl ?_);simp [vl, NetD.cells, wI];try (simp (disch:=omega) only [wI];try simp [vl, NetD.cells, wI]))
 |(refine Split.by2 (fun h=>?_) (fun h=>?_)<;>(simp [h, vl, NetD.cells, wI];try (simp (disch:=omega) only [wI];try simp [vl, NetD.cells, wI])))
 |(apply hK;clear hK K)|refine AWh ‹_› ?_)
      refine ⟨1, ⟨by omega, hF, fun h => by omega⟩, by omega, ?_⟩; apply Weak.mk' <;> simp [vl, NetD.cells]
    · rw [if_pos he] at hF
      subst hF
      repeat' (first
 |refine aK fun K hK=>?_|refine Step.by1 ?_|refine sE (by decide) ?_|refine cz rfl ?_|refine Fork.by2 (fun h=>?_) fun h=>?_
 |((first|refine aR ?_|refine aC (f:=128) rfl rfl (hc) rfl rfl rfl ?_);simp [vl, NetD.cells, wI, he];try (simp (disch:=omega) only [wI];try simp [vl, NetD.cells, wI, he]))
 |(refine Split.by2 (fun h=>?_) (fun h=>?_)<;>(simp [h, vl, NetD.cells, wI, he];try (simp (disch:=omega) only [wI];try simp [vl, NetD.cells, wI, he])))
 |(apply hK;clear hK K)|refine AWh ‹_› ?_)
      exact r1q (cE rfl rfl)
  · rw [show [e0, e1, e2, e3, e4, e5, e6, e7, e8].drop 1 = e1 :: [e0, e1, e2, e3, e4, e5, e6, e7, e8].drop 2 from rfl, fC] at hF
    have hc := h1
    by_cases he : e1 = 0
    · rw [if_neg (by simp [he])] at hF
      rw [he] at hc
      repeat' (first
 |refine aK fun K hK=>?_|refine Step.by1 ?_|refine sE (by decide) ?_|refine cz rfl ?_|refine Fork.by2 (fun h=>?_) fun h=>?_
 |((first|refine aR ?_|refine aC (f:=129) rfl rfl (hc) rfl rfl rfl ?_);simp [vl, NetD.cells, wI];try (simp (disch:=omega) only [wI];try simp [vl, NetD.cells, wI]))
 |(refine Split.by2 (fun h=>?_) (fun h=>?_)<;>(simp [h, vl, NetD.cells, wI];try (simp (disch:=omega) only [wI];try simp [vl, NetD.cells, wI])))
 |(apply hK;clear hK K)|refine AWh ‹_› ?_)
      refine ⟨2, ⟨by omega, hF, fun h => he⟩, by omega, ?_⟩; apply Weak.mk' <;> simp [vl, NetD.cells]
    · rw [if_pos he] at hF
      subst hF
      repeat' (first
 |refine aK fun K hK=>?_|refine Step.by1 ?_|refine sE (by decide) ?_|refine cz rfl ?_|refine Fork.by2 (fun h=>?_) fun h=>?_
 |((first|refine aR ?_|refine aC (f:=129) rfl rfl (hc) rfl rfl rfl ?_);simp [vl, NetD.cells, wI, he];try (simp (disch:=omega) only [wI];try simp [vl, NetD.cells, wI, he]))
 |(refine Split.by2 (fun h=>?_) (fun h=>?_)<;>(simp [h, vl, NetD.cells, wI, he];try (simp (disch:=omega) only [wI];try simp [vl, NetD.cells, wI, he])))
 |(apply hK;clear hK K)|refine AWh ‹_› ?_)
      exact r1q (cE rfl rfl)
  · rw [show [e0, e1, e2, e3, e4, e5, e6, e7, e8].drop 2 = e2 :: [e0, e1, e2, e3, e4, e5, e6, e7, e8].drop 3 from rfl, fC] at hF
    have hc := h2
    by_cases he : e2 = 0
    · rw [if_neg (by simp [he])] at hF
      rw [he] at hc
      repeat' (first
 |refine aK fun K hK=>?_|refine Step.by1 ?_|refine sE (by decide) ?_|refine cz rfl ?_|refine Fork.by2 (fun h=>?_) fun h=>?_
 |((first|refine aR ?_|refine aC (f:=130) rfl rfl (hc) rfl rfl rfl ?_);simp [vl, NetD.cells, wI];try (simp (disch:=omega) only [wI];try simp [vl, NetD.cells, wI]))
 |(refine Split.by2 (fun h=>?_) (fun h=>?_)<;>(simp [h, vl, NetD.cells, wI];try (simp (disch:=omega) only [wI];try simp [vl, NetD.cells, wI])))
 |(apply hK;clear hK K)|refine AWh ‹_› ?_)
      refine ⟨3, ⟨by omega, hF, fun h => hz (by omega)⟩, by omega, ?_⟩; apply Weak.mk' <;> simp [vl, NetD.cells]
    · rw [if_pos he] at hF
      subst hF
      repeat' (first
 |refine aK fun K hK=>?_|refine Step.by1 ?_|refine sE (by decide) ?_|refine cz rfl ?_|refine Fork.by2 (fun h=>?_) fun h=>?_
 |((first|refine aR ?_|refine aC (f:=130) rfl rfl (hc) rfl rfl rfl ?_);simp [vl, NetD.cells, wI, he];try (simp (disch:=omega) only [wI];try simp [vl, NetD.cells, wI, he]))
 |(refine Split.by2 (fun h=>?_) (fun h=>?_)<;>(simp [h, vl, NetD.cells, wI, he];try (simp (disch:=omega) only [wI];try simp [vl, NetD.cells, wI, he])))
 |(apply hK;clear hK K)|refine AWh ‹_› ?_)
      exact r1q (cE rfl rfl)
  · rw [show [e0, e1, e2, e3, e4, e5, e6, e7, e8].drop 3 = e3 :: [e0, e1, e2, e3, e4, e5, e6, e7, e8].drop 4 from rfl, fC] at hF
    have hc := h3
    by_cases he : e3 = 0
    · rw [if_neg (by simp [he])] at hF
      rw [he] at hc
      repeat' (first
 |refine aK fun K hK=>?_|refine Step.by1 ?_|refine sE (by decide) ?_|refine cz rfl ?_|refine Fork.by2 (fun h=>?_) fun h=>?_
 |((first|refine aR ?_|refine aC (f:=131) rfl rfl (hc) rfl rfl rfl ?_);simp [vl, NetD.cells, wI];try (simp (disch:=omega) only [wI];try simp [vl, NetD.cells, wI]))
 |(refine Split.by2 (fun h=>?_) (fun h=>?_)<;>(simp [h, vl, NetD.cells, wI];try (simp (disch:=omega) only [wI];try simp [vl, NetD.cells, wI])))
 |(apply hK;clear hK K)|refine AWh ‹_› ?_)
      refine ⟨4, ⟨by omega, hF, fun h => hz (by omega)⟩, by omega, ?_⟩; apply Weak.mk' <;> simp [vl, NetD.cells]
    · rw [if_pos he] at hF
      subst hF
      repeat' (first
 |refine aK fun K hK=>?_|refine Step.by1 ?_|refine sE (by decide) ?_|refine cz rfl ?_|refine Fork.by2 (fun h=>?_) fun h=>?_
 |((first|refine aR ?_|refine aC (f:=131) rfl rfl (hc) rfl rfl rfl ?_);simp [vl, NetD.cells, wI, he];try (simp (disch:=omega) only [wI];try simp [vl, NetD.cells, wI, he]))
 |(refine Split.by2 (fun h=>?_) (fun h=>?_)<;>(simp [h, vl, NetD.cells, wI, he];try (simp (disch:=omega) only [wI];try simp [vl, NetD.cells, wI, he])))
 |(apply hK;clear hK K)|refine AWh ‹_› ?_)
      exact r1q (cE rfl rfl)
  · rw [show [e0, e1, e2, e3, e4, e5, e6, e7, e8].drop 4 = e4 :: [e0, e1, e2, e3, e4, e5, e6, e7, e8].drop 5 from rfl, fC] at hF
    have hc := h4
    by_cases he : e4 = 0
    · rw [if_neg (by simp [he])] at hF
      rw [he] at hc
      repeat' (first
 |refine aK fun K hK=>?_|refine Step.by1 ?_|refine sE (by decide) ?_|refine cz rfl ?_|refine Fork.by2 (fun h=>?_) fun h=>?_
 |((first|refine aR ?_|refine aC (f:=132) rfl rfl (hc) rfl rfl rfl ?_);simp [vl, NetD.cells, wI];try (simp (disch:=omega) only [wI];try simp [vl, NetD.cells, wI]))
 |(refine Split.by2 (fun h=>?_) (fun h=>?_)<;>(simp [h, vl, NetD.cells, wI];try (simp (disch:=omega) only [wI];try simp [vl, NetD.cells, wI])))
 |(apply hK;clear hK K)|refine AWh ‹_› ?_)
      refine ⟨5, ⟨by omega, hF, fun h => hz (by omega)⟩, by omega, ?_⟩; apply Weak.mk' <;> simp [vl, NetD.cells]
    · rw [if_pos he] at hF
      subst hF
      repeat' (first
 |refine aK fun K hK=>?_|refine Step.by1 ?_|refine sE (by decide) ?_|refine cz rfl ?_|refine Fork.by2 (fun h=>?_) fun h=>?_
 |((first|refine aR ?_|refine aC (f:=132) rfl rfl (hc) rfl rfl rfl ?_);simp [vl, NetD.cells, wI, he];try (simp (disch:=omega) only [wI];try simp [vl, NetD.cells, wI, he]))
 |(refine Split.by2 (fun h=>?_) (fun h=>?_)<;>(simp [h, vl, NetD.cells, wI, he];try (simp (disch:=omega) only [wI];try simp [vl, NetD.cells, wI, he])))
 |(apply hK;clear hK K)|refine AWh ‹_› ?_)
      exact r1q (cE rfl rfl)
  · rw [show [e0, e1, e2, e3, e4, e5, e6, e7, e8].drop 5 = e5 :: [e0, e1, e2, e3, e4, e5, e6, e7, e8].drop 6 from rfl, fC] at hF
    have hc := h5
    by_cases he : e5 = 0
    · rw [if_neg (by simp [he])] at hF
      rw [he] at hc
      repeat' (first
 |refine aK fun K hK=>?_|refine Step.by1 ?_|refine sE (by decide) ?_|refine cz rfl ?_|refine Fork.by2 (fun h=>?_) fun h=>?_
 |((first|refine aR ?_|refine aC (f:=133) rfl rfl (hc) rfl rfl rfl ?_);simp [vl, NetD.cells, wI];try (simp (disch:=omega) only [wI];try simp [vl, NetD.cells, wI]))
 |(refine Split.by2 (fun h=>?_) (fun h=>?_)<;>(simp [h, vl, NetD.cells, wI];try (simp (disch:=omega) only [wI];try simp [vl, NetD.cells, wI])))
 |(apply hK;clear hK K)|refine AWh ‹_› ?_)
      refine ⟨6, ⟨by omega, hF, fun h => hz (by omega)⟩, by omega, ?_⟩; apply Weak.mk' <;> simp [vl, NetD.cells]
    · rw [if_pos he] at hF
      subst hF
      repeat' (first
 |refine aK fun K hK=>?_|refine Step.by1 ?_|refine sE (by decide) ?_|refine cz rfl ?_|refine Fork.by2 (fun h=>?_) fun h=>?_
 |((first|refine aR ?_|refine aC (f:=133) rfl rfl (hc) rfl rfl rfl ?_);simp [vl, NetD.cells, wI, he];try (simp (disch:=omega) only [wI];try simp [vl, NetD.cells, wI, he]))
 |(refine Split.by2 (fun h=>?_) (fun h=>?_)<;>(simp [h, vl, NetD.cells, wI, he];try (simp (disch:=omega) only [wI];try simp [vl, NetD.cells, wI, he])))
 |(apply hK;clear hK K)|refine AWh ‹_› ?_)
      exact r1q (cE rfl rfl)
  · rw [show [e0, e1, e2, e3, e4, e5, e6, e7, e8].drop 6 = e6 :: [e0, e1, e2, e3, e4, e5, e6, e7, e8].drop 7 from rfl, fC] at hF
    have hc := h6 (hz (by omega))
    by_cases he : e6 = 0
    · rw [if_neg (by simp [he])] at hF
      rw [he] at hc
      repeat' (first
 |refine aK fun K hK=>?_|refine Step.by1 ?_|refine sE (by decide) ?_|refine cz rfl ?_|refine Fork.by2 (fun h=>?_) fun h=>?_
 |((first|refine aR ?_|refine aC (f:=134) rfl rfl (hc) rfl rfl rfl ?_);simp [vl, NetD.cells, wI];try (simp (disch:=omega) only [wI];try simp [vl, NetD.cells, wI]))
 |(refine Split.by2 (fun h=>?_) (fun h=>?_)<;>(simp [h, vl, NetD.cells, wI];try (simp (disch:=omega) only [wI];try simp [vl, NetD.cells, wI])))
 |(apply hK;clear hK K)|refine AWh ‹_› ?_)
      refine ⟨7, ⟨by omega, hF, fun h => hz (by omega)⟩, by omega, ?_⟩; apply Weak.mk' <;> simp [vl, NetD.cells]
    · rw [if_pos he] at hF
      subst hF
      repeat' (first
 |refine aK fun K hK=>?_|refine Step.by1 ?_|refine sE (by decide) ?_|refine cz rfl ?_|refine Fork.by2 (fun h=>?_) fun h=>?_
 |((first|refine aR ?_|refine aC (f:=134) rfl rfl (hc) rfl rfl rfl ?_);simp [vl, NetD.cells, wI, he];try (simp (disch:=omega) only [wI];try simp [vl, NetD.cells, wI, he]))
 |(refine Split.by2 (fun h=>?_) (fun h=>?_)<;>(simp [h, vl, NetD.cells, wI, he];try (simp (disch:=omega) only [wI];try simp [vl, NetD.cells, wI, he])))
 |(apply hK;clear hK K)|refine AWh ‹_› ?_)
      exact r1q (cE rfl rfl)
  · rw [show [e0, e1, e2, e3, e4, e5, e6, e7, e8].drop 7 = e7 :: [e0, e1, e2, e3, e4, e5, e6, e7, e8].drop 8 from rfl, fC] at hF
    have hc := h7 (hz (by omega))
    by_cases he : e7 = 0
    · rw [if_neg (by simp [he])] at hF
      rw [he] at hc
      repeat' (first
 |refine aK fun K hK=>?_|refine Step.by1 ?_|refine sE (by decide) ?_|refine cz rfl ?_|refine Fork.by2 (fun h=>?_) fun h=>?_
 |((first|refine aR ?_|refine aC (f:=135) rfl rfl (hc) rfl rfl rfl ?_);simp [vl, NetD.cells, wI];try (simp (disch:=omega) only [wI];try simp [vl, NetD.cells, wI]))
 |(refine Split.by2 (fun h=>?_) (fun h=>?_)<;>(simp [h, vl, NetD.cells, wI];try (simp (disch:=omega) only [wI];try simp [vl, NetD.cells, wI])))
 |(apply hK;clear hK K)|refine AWh ‹_› ?_)
      refine ⟨8, ⟨by omega, hF, fun h => hz (by omega)⟩, by omega, ?_⟩; apply Weak.mk' <;> simp [vl, NetD.cells]
    · rw [if_pos he] at hF
      subst hF
      repeat' (first
 |refine aK fun K hK=>?_|refine Step.by1 ?_|refine sE (by decide) ?_|refine cz rfl ?_|refine Fork.by2 (fun h=>?_) fun h=>?_
 |((first|refine aR ?_|refine aC (f:=135) rfl rfl (hc) rfl rfl rfl ?_);simp [vl, NetD.cells, wI, he];try (simp (disch:=omega) only [wI];try simp [vl, NetD.cells, wI, he]))
 |(refine Split.by2 (fun h=>?_) (fun h=>?_)<;>(simp [h, vl, NetD.cells, wI, he];try (simp (disch:=omega) only [wI];try simp [vl, NetD.cells, wI, he])))
 |(apply hK;clear hK K)|refine AWh ‹_› ?_)
      exact r1q (cE rfl rfl)
  · rw [show [e0, e1, e2, e3, e4, e5, e6, e7, e8].drop 8 = e8 :: [e0, e1, e2, e3, e4, e5, e6, e7, e8].drop 9 from rfl, fC] at hF
    have hc := h8 (hz (by omega))
    by_cases he : e8 = 0
    · rw [if_neg (by simp [he])] at hF
      rw [he] at hc
      repeat' (first
 |refine aK fun K hK=>?_|refine Step.by1 ?_|refine sE (by decide) ?_|refine cz rfl ?_|refine Fork.by2 (fun h=>?_) fun h=>?_
 |((first|refine aR ?_|refine aC (f:=136) rfl rfl (hc) rfl rfl rfl ?_);simp [vl, NetD.cells, wI];try (simp (disch:=omega) only [wI];try simp [vl, NetD.cells, wI]))
 |(refine Split.by2 (fun h=>?_) (fun h=>?_)<;>(simp [h, vl, NetD.cells, wI];try (simp (disch:=omega) only [wI];try simp [vl, NetD.cells, wI])))
 |(apply hK;clear hK K)|refine AWh ‹_› ?_)
      refine ⟨9, ⟨by omega, hF, fun h => hz (by omega)⟩, by omega, ?_⟩; apply Weak.mk' <;> simp [vl, NetD.cells]
    · rw [if_pos he] at hF
      subst hF
      repeat' (first
 |refine aK fun K hK=>?_|refine Step.by1 ?_|refine sE (by decide) ?_|refine cz rfl ?_|refine Fork.by2 (fun h=>?_) fun h=>?_
 |((first|refine aR ?_|refine aC (f:=136) rfl rfl (hc) rfl rfl rfl ?_);simp [vl, NetD.cells, wI, he];try (simp (disch:=omega) only [wI];try simp [vl, NetD.cells, wI, he]))
 |(refine Split.by2 (fun h=>?_) (fun h=>?_)<;>(simp [h, vl, NetD.cells, wI, he];try (simp (disch:=omega) only [wI];try simp [vl, NetD.cells, wI, he])))
 |(apply hK;clear hK K)|refine AWh ‹_› ?_)
      exact r1q (cE rfl rfl)
  · repeat' (first
 |refine aK fun K hK=>?_|refine Step.by1 ?_|refine sE (by decide) ?_|refine cz rfl ?_|refine Fork.by2 (fun h=>?_) fun h=>?_
 |(refine aR ?_;simp [vl, NetD.cells])
 |(refine Split.by2 (fun h=>?_) (fun h=>?_)<;>(simp [h, vl, NetD.cells]))
 |(apply hK;clear hK K)|refine AWh ‹_› ?_)
    exact r1q (cE (by rw [← hF]; rfl) rfl)
  · omega
def badG (way : Int) (g : GuardD) : Bool := (decide (way = 120) && diagG g) || (decide (way = 13) && greatG g)
def badS (way : Int) (s : SetD) : Bool := decide (way = 13) && greatS s
theorem const_not {n : Int} : decide (0 ≤ n ∧ n ≤ 1048576) = !decide (n < 0 ∨ 1048576 < n) := by
  by_cases h1 : 0 ≤ n <;> by_cases h2 : n ≤ 1048576 <;> simp [h1, h2] <;> omega
set_option maxRecDepth 8000 in
set_option maxHeartbeats 4000000 in
theorem r_bad (g : List GuardD) (s : List SetD) (way : Int) (hg : g.length ≤ 1099511627776) (hs : s.length ≤ 1099511627776) :
    PC 77 [vl GuardD.cells g, vl SetD.cells s, .int .i64 way] (.bool (anyL (badG way) g || anyL (badS way) s)) := by
  obtain ⟨r, hr⟩ : ∃ r, (anyL (badG way) g || anyL (badS way) s) = r := ⟨_, rfl⟩
  rw [hr]
  refine pB Tryz.func77 rfl (by decide) Tryz.ntmps77 (by simp) Tryz.results77 ?_
  repeat' (first
 |refine aK fun K hK=>?_|refine Step.by1 ?_|refine sE (by decide) ?_|refine cz rfl ?_|refine Fork.by2 (fun h=>?_) fun h=>?_
 |(refine aR ?_;simp [vl])
 |(refine Split.by2 (fun h=>?_) (fun h=>?_)<;>(simp [h, vl]))
 |(apply hK;clear hK K)|refine AWh ‹_› ?_)
  refine aS1 (g) 7 [0, 1, 2] (anyL (badG way)) rfl (by apply Weak.mk' <;> simp [vl]) ?_ ?_
  · intro i x _ hlt hx hF
    rw [anC] at hF
    have hc := r_isConst x.n
    have hw : badG way x = ((decide (way = 120) && decide (x.other ≠ 0)) || (decide (way = 13) && !decide (0 ≤ x.n ∧ x.n ≤ 1048576))) := by rw [const_not]; simp [badG, diagG, greatG]
    generalize decide (0 ≤ x.n ∧ x.n ≤ 1048576) = k1 at *
    repeat' (first
 |refine aK fun K hK=>?_|refine Step.by1 ?_|refine sE (by decide) ?_|refine cz rfl ?_|refine Fork.by2 (fun h=>?_) fun h=>?_
 |((first|refine aR ?_|refine aX (id:=4) 28 mixed (by decide) ?_|refine aP1 (f:=155) rfl rfl (hc) rfl rfl rfl ?_|refine aC (f:=155) rfl rfl (hc) rfl rfl rfl ?_);simp [vl, GuardD.cells, hlt, hx, wI];try (simp (disch:=omega) only [wI];try simp [vl, GuardD.cells, hlt, hx, wI]))
 |(refine Split.by2 (fun h=>?_) (fun h=>?_)<;>(simp [h, vl, GuardD.cells, hlt, hx, wI];try (simp (disch:=omega) only [wI];try simp [vl, GuardD.cells, hlt, hx, wI])))
 |(apply hK;clear hK K)|refine AWh ‹_› ?_)
    all_goals first
      | exact r1q (cE (by rw [← hr, ← hF, hw]; simp [*]; done) rfl)
      | exact r1q (cE (by rw [← hr, ← hF, hw]; simp [*]; omega) rfl)
      | (refine ⟨by rw [← hF, hw]; simp [*]; done, ?_⟩; apply Weak.mk' <;> simp [vl] <;> (symm; assumption))
      | (refine ⟨by rw [← hF, hw]; simp [*]; omega, ?_⟩; apply Weak.mk' <;> simp [vl] <;> (symm; assumption))
  · intro hF
    rw [← hF, anyL_nil, Bool.false_or] at hr
    repeat' (first
 |refine aK fun K hK=>?_|refine Step.by1 ?_|refine sE (by decide) ?_|refine cz rfl ?_|refine Fork.by2 (fun h=>?_) fun h=>?_
 |(refine aR ?_;simp [vl])
 |(refine Split.by2 (fun h=>?_) (fun h=>?_)<;>(simp [h, vl]))
 |(apply hK;clear hK K)|refine AWh ‹_› ?_)
    refine aS1 (s) 8 [1, 2] (anyL (badS way)) rfl (by apply Weak.mk' <;> simp [vl]) ?_ ?_
    · intro i x _ hlt hx hM
      rw [anC] at hM
      have hc := r_isConst x.n
      have hw : badS way x = (decide (way = 13) && (decide (x.clock ≠ 0) && !decide (0 ≤ x.n ∧ x.n ≤ 1048576))) := by rw [const_not]; simp [badS, greatS]
      generalize decide (0 ≤ x.n ∧ x.n ≤ 1048576) = k1 at *
      repeat' (first
 |refine aK fun K hK=>?_|refine Step.by1 ?_|refine sE (by decide) ?_|refine cz rfl ?_|refine Fork.by2 (fun h=>?_) fun h=>?_
 |((first|refine aR ?_|refine aX (id:=8) 22 mixed (by decide) ?_|refine aP1 (f:=155) rfl rfl (hc) rfl rfl rfl ?_|refine aC (f:=155) rfl rfl (hc) rfl rfl rfl ?_);simp [vl, SetD.cells, hlt, hx, wI];try (simp (disch:=omega) only [wI];try simp [vl, SetD.cells, hlt, hx, wI]))
 |(refine Split.by2 (fun h=>?_) (fun h=>?_)<;>(simp [h, vl, SetD.cells, hlt, hx, wI];try (simp (disch:=omega) only [wI];try simp [vl, SetD.cells, hlt, hx, wI])))
 |(apply hK;clear hK K)|refine AWh ‹_› ?_)
      all_goals first
        | exact r1q (cE (by rw [← hr, ← hM, hw]; simp [*]; done) rfl)
        | exact r1q (cE (by rw [← hr, ← hM, hw]; simp [*]; omega) rfl)
        | (refine ⟨by rw [← hM, hw]; simp [*]; done, ?_⟩; apply Weak.mk' <;> simp [vl] <;> (symm; assumption))
        | (refine ⟨by rw [← hM, hw]; simp [*]; omega, ?_⟩; apply Weak.mk' <;> simp [vl] <;> (symm; assumption))
    · intro hM
      repeat' (first
 |refine aK fun K hK=>?_|refine Step.by1 ?_|refine sE (by decide) ?_|refine cz rfl ?_|refine Fork.by2 (fun h=>?_) fun h=>?_
 |(refine aR ?_;simp [vl])
 |(refine Split.by2 (fun h=>?_) (fun h=>?_)<;>(simp [h, vl]))
 |(apply hK;clear hK K)|refine AWh ‹_› ?_)
      exact r1q (cE (by rw [← hr, ← hM]; rfl) rfl)
theorem r_digit (c : Int) : PC 238 [.int .u8 c] (.bool (isDigit c)) := by
  refine pB Tryz.func238 rfl (by decide) Tryz.ntmps238 (by simp) Tryz.results238 ?_
  repeat' (first
 |refine aK fun K hK=>?_|refine Step.by1 ?_|refine sE (by decide) ?_|refine cz rfl ?_|refine Fork.by2 (fun h=>?_) fun h=>?_
 |(refine aR ?_;simp)
 |(refine Split.by2 (fun h=>?_) (fun h=>?_)<;>(simp [h]))
 |(apply hK;clear hK K)|refine AWh ‹_› ?_)
  all_goals first
    | exact r1q (cE (by simp [isDigit, *]; done) rfl)
    | exact r1q (cE (by simp [isDigit, *]; omega) rfl)
theorem r_letter (c : Int) : PC 240 [.int .u8 c] (.bool (isLetter c)) := by
  refine pB Tryz.func240 rfl (by decide) Tryz.ntmps240 (by simp) Tryz.results240 ?_
  repeat' (first
 |refine aK fun K hK=>?_|refine Step.by1 ?_|refine sE (by decide) ?_|refine cz rfl ?_|refine Fork.by2 (fun h=>?_) fun h=>?_
 |(refine aR ?_;simp)
 |(refine Split.by2 (fun h=>?_) (fun h=>?_)<;>(simp [h]))
 |(apply hK;clear hK K)|refine AWh ‹_› ?_)
  all_goals first
    | exact r1q (cE (by simp [isLetter, *]; done) rfl)
    | exact r1q (cE (by simp [isLetter, *]; omega) rfl)
    | (exfalso; omega)
/-- Where a remark ends that a place lies in. -/
def remE (s : ByteArray) : Nat → Nat → Nat
  | 0, i => i
  | k + 1, i => if i < s.size ∧ byteS s i ≠ 10 then remE s k (i + 1) else i
theorem remE_stop {s : ByteArray} {k i : Nat} (h : ¬ (i < s.size ∧ byteS s i ≠ 10)) : remE s k i = i := by cases k <;> simp only [remE, if_neg h]
/-- The place behind blanks and remarks. -/
def begE (s : ByteArray) : Nat → Nat → Nat
  | 0, i => i
  | k + 1, i => if i < s.size then (if byteS s i = 32 ∨ byteS s i = 9 ∨ byteS s i = 13 ∨ byteS s i = 10 then begE s k (i + 1) else if byteS s i = 35 then begE s k (remE s (s.size - i) i) else i) else i
theorem remE_ge {s : ByteArray} : ∀ (k i : Nat), i ≤ remE s k i ∧ (remE s k i ≤ s.size ∨ remE s k i = i)
  | 0, i => ⟨Nat.le_refl _, .inr rfl⟩
  | k + 1, i => by
    unfold remE
    split
    · rename_i h
      have := remE_ge (s := s) k (i + 1)
      omega
    · exact ⟨Nat.le_refl _, .inr rfl⟩
set_option maxRecDepth 8000 in
set_option maxHeartbeats 4000000 in
theorem r_begin (s : ByteArray) (at0 : Nat) (hs : s.size ≤ 1099511627776) (ha : at0 ≤ s.size) : PC 237 [.str s, .int .i64 at0] (.int .i64 (begE s (s.size + 1 - at0) at0)) := by
  obtain ⟨r, hr⟩ : ∃ r, begE s (s.size + 1 - at0) at0 = r := ⟨_, rfl⟩
  rw [hr]
  refine pB Tryz.func237 rfl (by decide) Tryz.ntmps237 (by simp) Tryz.results237 ?_
  repeat' (first
 |refine aK fun K hK=>?_|refine Step.by1 ?_|refine sE (by decide) ?_|refine cz rfl ?_|refine Fork.by2 (fun h=>?_) fun h=>?_
 |(refine aR ?_;simp)
 |(refine Split.by2 (fun h=>?_) (fun h=>?_)<;>(simp [h]))
 |(apply hK;clear hK K)|refine AWh ‹_› ?_)
  refine aL [0] (fun p : Nat => [(1, .int .i64 p)]) (fun _ => []) (fun p => p ≤ s.size ∧ ∃ f, s.size + 1 ≤ f + p ∧ begE s f p = r) (fun p => s.size + 1 - p) at0 ⟨ha, s.size + 1 - at0, by omega, hr⟩ (by apply Weak.mk' <;> simp) (fun _ _ => rfl) ?_
  rintro p ⟨h1, f, h2, h3⟩
  obtain ⟨f', rfl⟩ : ∃ f', f = f' + 1 := ⟨f - 1, by omega⟩
  unfold begE at h3
  by_cases hlt : p < s.size
  · have hlt' : (p : Int) < s.size := by omega
    rw [if_pos hlt] at h3
    obtain ⟨c, hc⟩ : ∃ c, byteS s p = c := ⟨_, rfl⟩
    rw [hc] at h3
    have hda : p < s.data.size := hlt
    have hb : ((s.data[p]).toNat : Int) = c := by rw [← hc]; simp [byteS, Array.getElem?_eq_getElem hda]
    by_cases hblank : c = 32 ∨ c = 9 ∨ c = 13 ∨ c = 10
    · rw [if_pos hblank] at h3
      repeat' (first
 |refine aK fun K hK=>?_|refine Step.by1 ?_|refine sE (by decide) ?_|refine cz rfl ?_|refine Fork.by2 (fun h=>?_) fun h=>?_
 |(refine aR ?_;simp [hlt, hlt', hb, wI];try (simp (disch:=omega) only [wI];try simp [hlt, hlt', hb, wI]))
 |(refine Split.by2 (fun h=>?_) (fun h=>?_)<;>(simp [h, hlt, hlt', hb, wI];try (simp (disch:=omega) only [wI];try simp [hlt, hlt', hb, wI])))
 |(apply hK;clear hK K)|refine AWh ‹_› ?_)
      all_goals first
        | (refine ⟨p + 1, ⟨by omega, f', by omega, h3⟩, by omega, ?_⟩; apply Weak.mk' <;> simp)
        | (exfalso; omega)
    · rw [if_neg hblank] at h3
      have e1 : ¬ c = 32 := by omega
      have e2 : ¬ c = 9 := by omega
      have e3 : ¬ c = 13 := by omega
      have e4 : ¬ c = 10 := by omega
      by_cases hrem : c = 35
      · rw [if_pos hrem] at h3
        have hge := remE_ge (s := s) (s.size - p) p
        have hstep : remE s (s.size - p) p = remE s (s.size - (p + 1)) (p + 1) := by
          rw [show s.size - p = (s.size - (p + 1)) + 1 by omega]
          conv => lhs; unfold remE
          rw [if_pos ⟨hlt, by omega⟩]
        have hge2 := remE_ge (s := s) (s.size - (p + 1)) (p + 1)
        obtain ⟨e, he⟩ : ∃ e, remE s (s.size - p) p = e := ⟨_, rfl⟩
        rw [← hstep] at hge2
        rw [he] at h3 hge hge2
        repeat' (first
 |refine aK fun K hK=>?_|refine Step.by1 ?_|refine sE (by decide) ?_|refine cz rfl ?_|refine Fork.by2 (fun h=>?_) fun h=>?_
 |(refine aR ?_;simp [hlt, hlt', hb, e1, e2, e3, e4, hrem, wI];try (simp (disch:=omega) only [wI];try simp [hlt, hlt', hb, e1, e2, e3, e4, hrem, wI]))
 |(refine Split.by2 (fun h=>?_) (fun h=>?_)<;>(simp [h, hlt, hlt', hb, e1, e2, e3, e4, hrem, wI];try (simp (disch:=omega) only [wI];try simp [hlt, hlt', hb, e1, e2, e3, e4, hrem, wI])))
 |(apply hK;clear hK K)|refine AWh ‹_› ?_)
        refine aL [0] (fun q : Nat => [(1, .int .i64 q)]) (fun _ => []) (fun q => p ≤ q ∧ q ≤ s.size ∧ remE s (s.size - q) q = e) (fun q => s.size - q) p ⟨Nat.le_refl _, h1, he⟩ (by apply Weak.mk' <;> simp) (fun _ _ => rfl) ?_
        rintro q ⟨k0, k1, k2⟩
        by_cases hq : q < s.size
        · have hq' : (q : Int) < s.size := by omega
          obtain ⟨d, hd⟩ : ∃ d, byteS s q = d := ⟨_, rfl⟩
          have hdq : q < s.data.size := hq
          have hbq : ((s.data[q]).toNat : Int) = d := by rw [← hd]; simp [byteS, Array.getElem?_eq_getElem hdq]
          by_cases hnl : d = 10
          · rw [remE_stop (by rw [hd]; omega)] at k2
            subst k2
            repeat' (first
 |refine aK fun K hK=>?_|refine Step.by1 ?_|refine sE (by decide) ?_|refine cz rfl ?_|refine Fork.by2 (fun h=>?_) fun h=>?_
 |(refine aR ?_;simp [hq, hq', hbq, hnl, wI];try (simp (disch:=omega) only [wI];try simp [hq, hq', hbq, hnl, wI]))
 |(refine Split.by2 (fun h=>?_) (fun h=>?_)<;>(simp [h, hq, hq', hbq, hnl, wI];try (simp (disch:=omega) only [wI];try simp [hq, hq', hbq, hnl, wI])))
 |(apply hK;clear hK K)|refine AWh ‹_› ?_)
            refine ⟨q, ⟨by omega, f', by omega, h3⟩, by omega, ?_⟩; apply Weak.mk' <;> simp
          · rw [show s.size - q = (s.size - (q + 1)) + 1 by omega] at k2
            unfold remE at k2
            rw [hd, if_pos ⟨hq, hnl⟩] at k2
            repeat' (first
 |refine aK fun K hK=>?_|refine Step.by1 ?_|refine sE (by decide) ?_|refine cz rfl ?_|refine Fork.by2 (fun h=>?_) fun h=>?_
 |(refine aR ?_;simp [hq, hq', hbq, hnl, wI];try (simp (disch:=omega) only [wI];try simp [hq, hq', hbq, hnl, wI]))
 |(refine Split.by2 (fun h=>?_) (fun h=>?_)<;>(simp [h, hq, hq', hbq, hnl, wI];try (simp (disch:=omega) only [wI];try simp [hq, hq', hbq, hnl, wI])))
 |(apply hK;clear hK K)|refine AWh ‹_› ?_)
            refine ⟨q + 1, ⟨by omega, by omega, k2⟩, by omega, ?_⟩; apply Weak.mk' <;> simp
        · have hq' : ¬ (q : Int) < s.size := by omega
          rw [remE_stop (by omega)] at k2
          subst k2
          repeat' (first
 |refine aK fun K hK=>?_|refine Step.by1 ?_|refine sE (by decide) ?_|refine cz rfl ?_|refine Fork.by2 (fun h=>?_) fun h=>?_
 |(refine aR ?_;simp [hq, hq', wI];try (simp (disch:=omega) only [wI];try simp [hq, hq', wI]))
 |(refine Split.by2 (fun h=>?_) (fun h=>?_)<;>(simp [h, hq, hq', wI];try (simp (disch:=omega) only [wI];try simp [hq, hq', wI])))
 |(apply hK;clear hK K)|refine AWh ‹_› ?_)
          refine ⟨q, ⟨by omega, f', by omega, h3⟩, by omega, ?_⟩; apply Weak.mk' <;> simp
      · rw [if_neg hrem] at h3
        repeat' (first
 |refine aK fun K hK=>?_|refine Step.by1 ?_|refine sE (by decide) ?_|refine cz rfl ?_|refine Fork.by2 (fun h=>?_) fun h=>?_
 |(refine aR ?_;simp [hlt, hlt', hb, e1, e2, e3, e4, hrem, wI];try (simp (disch:=omega) only [wI];try simp [hlt, hlt', hb, e1, e2, e3, e4, hrem, wI]))
 |(refine Split.by2 (fun h=>?_) (fun h=>?_)<;>(simp [h, hlt, hlt', hb, e1, e2, e3, e4, hrem, wI];try (simp (disch:=omega) only [wI];try simp [hlt, hlt', hb, e1, e2, e3, e4, hrem, wI])))
 |(apply hK;clear hK K)|refine AWh ‹_› ?_)
        exact r1q (cE (by simp [h3]) rfl)
  · have hlt' : ¬ (p : Int) < s.size := by omega
    rw [if_neg hlt] at h3
    repeat' (first
 |refine aK fun K hK=>?_|refine Step.by1 ?_|refine sE (by decide) ?_|refine cz rfl ?_|refine Fork.by2 (fun h=>?_) fun h=>?_
 |(refine aR ?_;simp [hlt, hlt'])
 |(refine Split.by2 (fun h=>?_) (fun h=>?_)<;>(simp [h, hlt, hlt']))
 |(apply hK;clear hK K)|refine AWh ‹_› ?_)
    exact r1q (cE (by simp [h3]) rfl)
end Go.Proofs.YtgmlimipejcpgaaGreatDoor
end
