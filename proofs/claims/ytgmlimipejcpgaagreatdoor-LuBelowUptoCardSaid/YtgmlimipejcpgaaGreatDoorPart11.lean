/-
  YtgmlimipejcpgaaGreatDoorPart11: steps of the proof of a law of the program: what these texts prove holds under the hypotheses that their theorems name, and no others.
-/
import Derived.Test.YtgmlimipejcpgaaGreatDoorPart10
import Derived.Test.YtgmlimipejcpgaaGreatDoorPart08
section
set_option linter.unusedVariables false
set_option linter.unusedSimpArgs false
namespace Go.Proofs.YtgmlimipejcpgaaGreatDoor
open Go Go.AM Fx
set_option maxRecDepth 8000 in
set_option maxHeartbeats 4000000 in
theorem c_names (n : NetD) (hn : n.ok) : PC 130 [.agg n.cells] (.int .i64 (namesE n)) := by
  have hA := c_all n hn
  have hl : (allL n).length ≤ 1099511627776 := by obtain ⟨⟨h1, _⟩, ⟨h2, _⟩, ⟨h3, _⟩, h4, h5⟩ := hn; simp [allL, namesL]; omega
  have hs : ∀ s ∈ allL n, s.size ≤ 1048576 := by
    obtain ⟨⟨_, h1⟩, ⟨_, h2⟩, ⟨_, h3⟩, _, h5⟩ := hn
    intro s hs
    simp only [allL, namesL, List.mem_append, List.mem_map] at hs
    rcases hs with hs | ⟨v, hv, rfl⟩ | hs | ⟨a, ha, rfl⟩
    · exact h1 s hs
    · exact (h2 v hv).1
    · exact h3 s hs
    · exact (h5 a ha).1
  have hG := c_given (allL n) hl hs
  obtain ⟨_, _, _, h4, h5⟩ := hn
  obtain ⟨r, hr⟩ : ∃ r, namesE n = r := ⟨_, rfl⟩
  rw [hr]
  unfold namesE namesB at hr
  generalize allL n = al at *
  generalize givenB al = gb at *
  simp only [vl, NetD.cells] at hA hG
  refine PCall_body Tryz.func130 rfl (by decide) Tryz.ntmps130 (by simp) Tryz.results130 ?_
  cases gb
  · repeat' (first
 |refine AW_seq_k fun K hK=>?_|refine Step.by1 ?_|refine SBlock_exit_ne (by decide) ?_|refine cz rfl ?_|refine Fork.by2 (fun h=>?_) fun h=>?_
 |((first|refine AW_region_AO ?_|refine AS_call1 (f:=188) rfl rfl (hA) rfl rfl rfl ?_|refine AS_call1 (f:=187) rfl rfl (hG) rfl rfl rfl ?_);simp [vl, NetD.cells])
 |(refine Split.by2 (fun h=>?_) (fun h=>?_)<;>(simp [h, vl, NetD.cells]))
 |(apply hK;clear hK K)|refine AWh (by assumption) ?_)
    exact retq1 (conv_eq (by rw [← hr]; rfl) rfl)
  · rw [Bool.not_true, Bool.false_or] at hr
    obtain ⟨E, hE⟩ : ∃ E : List AutoD → Int, E = fun l => if anyL (fun a => !givenB (locNamesL a)) l = true then 112 else 0 := ⟨_, rfl⟩
    have hEc : ∀ a l, E (a :: l) = if givenB (locNamesL a) = true then E l else 112 := fun a l => by subst hE; cases h : givenB (locNamesL a) <;> simp [anyL_cons, h]
    have hEn : E n.autos = r := by subst hE; exact hr
    have hE0 : E [] = 0 := by subst hE; rfl
    clear hr hE
    repeat' (first
 |refine AW_seq_k fun K hK=>?_|refine Step.by1 ?_|refine SBlock_exit_ne (by decide) ?_|refine cz rfl ?_|refine Fork.by2 (fun h=>?_) fun h=>?_
 |((first|refine AW_region_AO ?_|refine AS_call1 (f:=188) rfl rfl (hA) rfl rfl rfl ?_|refine AS_call1 (f:=187) rfl rfl (hG) rfl rfl rfl ?_);simp [vl, NetD.cells])
 |(refine Split.by2 (fun h=>?_) (fun h=>?_)<;>(simp [h, vl, NetD.cells]))
 |(apply hK;clear hK K)|refine AWh (by assumption) ?_)
    refine AW_scan (r := r) n.autos 12 [10, 11] E hEn (by apply Weak.mk' <;> simp [vl, NetD.cells]) ?_ ?_
    · intro i a _ hlt ha hF
      rw [hEc] at hF
      have hoa := h5 a (ha ▸ List.getElem_mem hlt)
      have hal : a.locs.length ≤ 1048576 := hoa.2.1.1
      have hlen : (locNamesL a).length = a.locs.length := by simp [locNamesL]
      have hL := c_locNames a hal
      have hG2 := c_given (locNamesL a) (by omega) (fun s hs => by
        simp only [locNamesL, List.mem_map] at hs
        obtain ⟨x, hx, rfl⟩ := hs
        exact (hoa.2.1.2 x hx).1)
      have hlt' : (i : Int) < n.autos.length := by omega
      have w1 : IntKind.i64.wrap ((i : Int) + 1) = i + 1 := wrap_i64 (by omega) (by omega)
      generalize locNamesL a = ln at *
      generalize givenB ln = gb at *
      simp only [vl, strV, AutoD.cells] at hL hG2
      cases gb
      · repeat' (first
 |refine AW_seq_k fun K hK=>?_|refine Step.by1 ?_|refine SBlock_exit_ne (by decide) ?_|refine cz rfl ?_|refine Fork.by2 (fun h=>?_) fun h=>?_
 |((first|refine AW_region_AO ?_|refine AS_call1 (f:=189) rfl rfl (hL) rfl rfl rfl ?_|refine AS_call1 (f:=187) rfl rfl (hG2) rfl rfl rfl ?_);simp [vl, NetD.cells, AutoD.cells, hlt, hlt', ha, w1])
 |(refine Split.by2 (fun h=>?_) (fun h=>?_)<;>(simp [h, vl, NetD.cells, AutoD.cells, hlt, hlt', ha, w1]))
 |(apply hK;clear hK K)|refine AWh (by assumption) ?_)
        exact retq1 (conv_eq (by rw [← hF]; rfl) rfl)
      · repeat' (first
 |refine AW_seq_k fun K hK=>?_|refine Step.by1 ?_|refine SBlock_exit_ne (by decide) ?_|refine cz rfl ?_|refine Fork.by2 (fun h=>?_) fun h=>?_
 |((first|refine AW_region_AO ?_|refine AS_call1 (f:=189) rfl rfl (hL) rfl rfl rfl ?_|refine AS_call1 (f:=187) rfl rfl (hG2) rfl rfl rfl ?_);simp [vl, NetD.cells, AutoD.cells, hlt, hlt', ha, w1])
 |(refine Split.by2 (fun h=>?_) (fun h=>?_)<;>(simp [h, vl, NetD.cells, AutoD.cells, hlt, hlt', ha, w1]))
 |(apply hK;clear hK K)|refine AWh (by assumption) ?_)
        refine ⟨by rw [← hF]; rfl, ?_⟩; apply Weak.mk' <;> simp [vl, NetD.cells]
    · intro hF
      repeat' (first
 |refine AW_seq_k fun K hK=>?_|refine Step.by1 ?_|refine SBlock_exit_ne (by decide) ?_|refine cz rfl ?_|refine Fork.by2 (fun h=>?_) fun h=>?_
 |(refine AW_region_AO ?_;simp [vl, NetD.cells])
 |(refine Split.by2 (fun h=>?_) (fun h=>?_)<;>(simp [h, vl, NetD.cells]))
 |(apply hK;clear hK K)|refine AWh (by assumption) ?_)
      exact retq1 (conv_eq (by rw [← hF, hE0]; rfl) rfl)
theorem small_sizes {n : NetD} (h : sizesE n = 0) : Small n := by
  unfold sizesE at h
  split at h
  · cases h
  · rename_i h'; exact small_of (by simpa using h')
theorem anyL_len (n : NetD) (hn : n.ok) : ∀ a ∈ n.autos, a.locs.length ≤ 1099511627776 := fun a ha => by have := (hn.2.2.2.2 a ha).2.1.1; omega
set_option maxRecDepth 20000 in
set_option maxHeartbeats 16000000 in
theorem c_Whole (n : NetD) (hn : n.ok) : PC 58 [.agg n.cells] (.int .i64 (wholeE n)) := by
  have l1 := hn.2.2.2.1
  have l2 := hn.2.1.1
  have h0 := c_someE n (by omega)
  have h1 := c_sizes n hn
  have h2 := c_names n hn
  have h3 := c_varE n (by omega)
  have h4 := c_locs n (by omega) (anyL_len n hn)
  have h5 := c_edges n hn
  have h6 : sizesE n = 0 → PC 134 [.agg n.cells] (.int .i64 (clocksE n)) := fun h => c_clocks n (small_sizes h)
  have h7 : sizesE n = 0 → PC 135 [.agg n.cells] (.int .i64 (formsE n)) := fun h => c_forms n (small_sizes h)
  have h8 : sizesE n = 0 → PC 136 [.agg n.cells] (.int .i64 (testsE n)) := fun h => c_tests n hn (small_sizes h)
  obtain ⟨r, hr⟩ : ∃ r, wholeE n = r := ⟨_, rfl⟩
  rw [hr]
  unfold wholeE at hr
  generalize someE n = e0 at *
  generalize sizesE n = e1 at *
  generalize namesE n = e2 at *
  generalize varE n.vars = e3 at *
  generalize locsE n.autos = e4 at *
  generalize edgesE n n.autos = e5 at *
  generalize clocksE n = e6 at *
  generalize formsE n = e7 at *
  generalize testsE n = e8 at *
  simp only [vl, NetD.cells] at h0 h1 h2 h3 h4 h5 h6 h7 h8
  refine PCall_body Tryz.func58 rfl (by decide) Tryz.ntmps58 (by simp) Tryz.results58 ?_
  repeat' (first
 |refine AW_seq_k fun K hK=>?_|refine Step.by1 ?_|refine SBlock_exit_ne (by decide) ?_|refine cz rfl ?_|refine Fork.by2 (fun h=>?_) fun h=>?_
 |(refine AW_region_AO ?_;simp [vl, NetD.cells])
 |(refine Split.by2 (fun h=>?_) (fun h=>?_)<;>(simp [h, vl, NetD.cells]))
 |(apply hK;clear hK K)|refine AWh (by assumption) ?_)
  refine AW_loopL [1, 8, 9] (fun i : Nat => [(10, .int .i64 i)]) (fun _ => [.var n.cells, .row 37 0 0 true [[.fn (.func 128) [] []], [.fn (.func 129) [] []], [.fn (.func 130) [] []], [.fn (.func 131) [] []], [.fn (.func 132) [] []], [.fn (.func 133) [] []], [.fn (.func 134) [] []], [.fn (.func 135) [] []], [.fn (.func 136) [] []]]])
    (fun i => i ≤ 9 ∧ firstE ([e0, e1, e2, e3, e4, e5, e6, e7, e8].drop i) = r ∧ (2 ≤ i → e1 = 0)) (fun i => 9 - i) 0 ⟨Nat.zero_le _, hr, fun h => by omega⟩ (by apply Weak.mk' <;> simp [vl, NetD.cells]) (fun _ _ => rfl) ?_
  rintro i ⟨hi, hF, hz⟩
  have w1 : IntKind.i64.wrap ((i : Int) + 1) = i + 1 := wrap_i64 (by omega) (by omega)
  rcases i with _ | _ | _ | _ | _ | _ | _ | _ | _ | _ | i
  · rw [show [e0, e1, e2, e3, e4, e5, e6, e7, e8].drop 0 = e0 :: [e0, e1, e2, e3, e4, e5, e6, e7, e8].drop 1 from rfl, firstE_cons] at hF
    have hc := h0
    by_cases he : e0 = 0
    · rw [if_neg (by simp [he])] at hF
      rw [he] at hc
      repeat' (first
 |refine AW_seq_k fun K hK=>?_|refine Step.by1 ?_|refine SBlock_exit_ne (by decide) ?_|refine cz rfl ?_|refine Fork.by2 (fun h=>?_) fun h=>?_
 |((first|refine AW_region_AO ?_|refine AS_call1 (f:=128) rfl rfl (hc) rfl rfl rfl ?_);simp [vl, NetD.cells, wrap_i64];try (simp (disch:=omega) only [wrap_i64];try simp [vl, NetD.cells, wrap_i64]))
 |(refine Split.by2 (fun h=>?_) (fun h=>?_)<;>(simp [h, vl, NetD.cells, wrap_i64];try (simp (disch:=omega) only [wrap_i64];try simp [vl, NetD.cells, wrap_i64])))
 |(apply hK;clear hK K)|refine AWh (by assumption) ?_)
      refine ⟨1, ⟨by omega, hF, fun h => by omega⟩, by omega, ?_⟩; apply Weak.mk' <;> simp [vl, NetD.cells]
    · rw [if_pos he] at hF
      subst hF
      repeat' (first
 |refine AW_seq_k fun K hK=>?_|refine Step.by1 ?_|refine SBlock_exit_ne (by decide) ?_|refine cz rfl ?_|refine Fork.by2 (fun h=>?_) fun h=>?_
 |((first|refine AW_region_AO ?_|refine AS_call1 (f:=128) rfl rfl (hc) rfl rfl rfl ?_);simp [vl, NetD.cells, wrap_i64, he];try (simp (disch:=omega) only [wrap_i64];try simp [vl, NetD.cells, wrap_i64, he]))
 |(refine Split.by2 (fun h=>?_) (fun h=>?_)<;>(simp [h, vl, NetD.cells, wrap_i64, he];try (simp (disch:=omega) only [wrap_i64];try simp [vl, NetD.cells, wrap_i64, he])))
 |(apply hK;clear hK K)|refine AWh (by assumption) ?_)
      exact retq1 (conv_eq rfl rfl)
  · rw [show [e0, e1, e2, e3, e4, e5, e6, e7, e8].drop 1 = e1 :: [e0, e1, e2, e3, e4, e5, e6, e7, e8].drop 2 from rfl, firstE_cons] at hF
    have hc := h1
    by_cases he : e1 = 0
    · rw [if_neg (by simp [he])] at hF
      rw [he] at hc
      repeat' (first
 |refine AW_seq_k fun K hK=>?_|refine Step.by1 ?_|refine SBlock_exit_ne (by decide) ?_|refine cz rfl ?_|refine Fork.by2 (fun h=>?_) fun h=>?_
 |((first|refine AW_region_AO ?_|refine AS_call1 (f:=129) rfl rfl (hc) rfl rfl rfl ?_);simp [vl, NetD.cells, wrap_i64];try (simp (disch:=omega) only [wrap_i64];try simp [vl, NetD.cells, wrap_i64]))
 |(refine Split.by2 (fun h=>?_) (fun h=>?_)<;>(simp [h, vl, NetD.cells, wrap_i64];try (simp (disch:=omega) only [wrap_i64];try simp [vl, NetD.cells, wrap_i64])))
 |(apply hK;clear hK K)|refine AWh (by assumption) ?_)
      refine ⟨2, ⟨by omega, hF, fun h => he⟩, by omega, ?_⟩; apply Weak.mk' <;> simp [vl, NetD.cells]
    · rw [if_pos he] at hF
      subst hF
      repeat' (first
 |refine AW_seq_k fun K hK=>?_|refine Step.by1 ?_|refine SBlock_exit_ne (by decide) ?_|refine cz rfl ?_|refine Fork.by2 (fun h=>?_) fun h=>?_
 |((first|refine AW_region_AO ?_|refine AS_call1 (f:=129) rfl rfl (hc) rfl rfl rfl ?_);simp [vl, NetD.cells, wrap_i64, he];try (simp (disch:=omega) only [wrap_i64];try simp [vl, NetD.cells, wrap_i64, he]))
 |(refine Split.by2 (fun h=>?_) (fun h=>?_)<;>(simp [h, vl, NetD.cells, wrap_i64, he];try (simp (disch:=omega) only [wrap_i64];try simp [vl, NetD.cells, wrap_i64, he])))
 |(apply hK;clear hK K)|refine AWh (by assumption) ?_)
      exact retq1 (conv_eq rfl rfl)
  · rw [show [e0, e1, e2, e3, e4, e5, e6, e7, e8].drop 2 = e2 :: [e0, e1, e2, e3, e4, e5, e6, e7, e8].drop 3 from rfl, firstE_cons] at hF
    have hc := h2
    by_cases he : e2 = 0
    · rw [if_neg (by simp [he])] at hF
      rw [he] at hc
      repeat' (first
 |refine AW_seq_k fun K hK=>?_|refine Step.by1 ?_|refine SBlock_exit_ne (by decide) ?_|refine cz rfl ?_|refine Fork.by2 (fun h=>?_) fun h=>?_
 |((first|refine AW_region_AO ?_|refine AS_call1 (f:=130) rfl rfl (hc) rfl rfl rfl ?_);simp [vl, NetD.cells, wrap_i64];try (simp (disch:=omega) only [wrap_i64];try simp [vl, NetD.cells, wrap_i64]))
 |(refine Split.by2 (fun h=>?_) (fun h=>?_)<;>(simp [h, vl, NetD.cells, wrap_i64];try (simp (disch:=omega) only [wrap_i64];try simp [vl, NetD.cells, wrap_i64])))
 |(apply hK;clear hK K)|refine AWh (by assumption) ?_)
      refine ⟨3, ⟨by omega, hF, fun h => hz (by omega)⟩, by omega, ?_⟩; apply Weak.mk' <;> simp [vl, NetD.cells]
    · rw [if_pos he] at hF
      subst hF
      repeat' (first
 |refine AW_seq_k fun K hK=>?_|refine Step.by1 ?_|refine SBlock_exit_ne (by decide) ?_|refine cz rfl ?_|refine Fork.by2 (fun h=>?_) fun h=>?_
 |((first|refine AW_region_AO ?_|refine AS_call1 (f:=130) rfl rfl (hc) rfl rfl rfl ?_);simp [vl, NetD.cells, wrap_i64, he];try (simp (disch:=omega) only [wrap_i64];try simp [vl, NetD.cells, wrap_i64, he]))
 |(refine Split.by2 (fun h=>?_) (fun h=>?_)<;>(simp [h, vl, NetD.cells, wrap_i64, he];try (simp (disch:=omega) only [wrap_i64];try simp [vl, NetD.cells, wrap_i64, he])))
 |(apply hK;clear hK K)|refine AWh (by assumption) ?_)
      exact retq1 (conv_eq rfl rfl)
  · rw [show [e0, e1, e2, e3, e4, e5, e6, e7, e8].drop 3 = e3 :: [e0, e1, e2, e3, e4, e5, e6, e7, e8].drop 4 from rfl, firstE_cons] at hF
    have hc := h3
    by_cases he : e3 = 0
    · rw [if_neg (by simp [he])] at hF
      rw [he] at hc
      repeat' (first
 |refine AW_seq_k fun K hK=>?_|refine Step.by1 ?_|refine SBlock_exit_ne (by decide) ?_|refine cz rfl ?_|refine Fork.by2 (fun h=>?_) fun h=>?_
 |((first|refine AW_region_AO ?_|refine AS_call1 (f:=131) rfl rfl (hc) rfl rfl rfl ?_);simp [vl, NetD.cells, wrap_i64];try (simp (disch:=omega) only [wrap_i64];try simp [vl, NetD.cells, wrap_i64]))
 |(refine Split.by2 (fun h=>?_) (fun h=>?_)<;>(simp [h, vl, NetD.cells, wrap_i64];try (simp (disch:=omega) only [wrap_i64];try simp [vl, NetD.cells, wrap_i64])))
 |(apply hK;clear hK K)|refine AWh (by assumption) ?_)
      refine ⟨4, ⟨by omega, hF, fun h => hz (by omega)⟩, by omega, ?_⟩; apply Weak.mk' <;> simp [vl, NetD.cells]
    · rw [if_pos he] at hF
      subst hF
      repeat' (first
 |refine AW_seq_k fun K hK=>?_|refine Step.by1 ?_|refine SBlock_exit_ne (by decide) ?_|refine cz rfl ?_|refine Fork.by2 (fun h=>?_) fun h=>?_
 |((first|refine AW_region_AO ?_|refine AS_call1 (f:=131) rfl rfl (hc) rfl rfl rfl ?_);simp [vl, NetD.cells, wrap_i64, he];try (simp (disch:=omega) only [wrap_i64];try simp [vl, NetD.cells, wrap_i64, he]))
 |(refine Split.by2 (fun h=>?_) (fun h=>?_)<;>(simp [h, vl, NetD.cells, wrap_i64, he];try (simp (disch:=omega) only [wrap_i64];try simp [vl, NetD.cells, wrap_i64, he])))
 |(apply hK;clear hK K)|refine AWh (by assumption) ?_)
      exact retq1 (conv_eq rfl rfl)
  · rw [show [e0, e1, e2, e3, e4, e5, e6, e7, e8].drop 4 = e4 :: [e0, e1, e2, e3, e4, e5, e6, e7, e8].drop 5 from rfl, firstE_cons] at hF
    have hc := h4
    by_cases he : e4 = 0
    · rw [if_neg (by simp [he])] at hF
      rw [he] at hc
      repeat' (first
 |refine AW_seq_k fun K hK=>?_|refine Step.by1 ?_|refine SBlock_exit_ne (by decide) ?_|refine cz rfl ?_|refine Fork.by2 (fun h=>?_) fun h=>?_
 |((first|refine AW_region_AO ?_|refine AS_call1 (f:=132) rfl rfl (hc) rfl rfl rfl ?_);simp [vl, NetD.cells, wrap_i64];try (simp (disch:=omega) only [wrap_i64];try simp [vl, NetD.cells, wrap_i64]))
 |(refine Split.by2 (fun h=>?_) (fun h=>?_)<;>(simp [h, vl, NetD.cells, wrap_i64];try (simp (disch:=omega) only [wrap_i64];try simp [vl, NetD.cells, wrap_i64])))
 |(apply hK;clear hK K)|refine AWh (by assumption) ?_)
      refine ⟨5, ⟨by omega, hF, fun h => hz (by omega)⟩, by omega, ?_⟩; apply Weak.mk' <;> simp [vl, NetD.cells]
    · rw [if_pos he] at hF
      subst hF
      repeat' (first
 |refine AW_seq_k fun K hK=>?_|refine Step.by1 ?_|refine SBlock_exit_ne (by decide) ?_|refine cz rfl ?_|refine Fork.by2 (fun h=>?_) fun h=>?_
 |((first|refine AW_region_AO ?_|refine AS_call1 (f:=132) rfl rfl (hc) rfl rfl rfl ?_);simp [vl, NetD.cells, wrap_i64, he];try (simp (disch:=omega) only [wrap_i64];try simp [vl, NetD.cells, wrap_i64, he]))
 |(refine Split.by2 (fun h=>?_) (fun h=>?_)<;>(simp [h, vl, NetD.cells, wrap_i64, he];try (simp (disch:=omega) only [wrap_i64];try simp [vl, NetD.cells, wrap_i64, he])))
 |(apply hK;clear hK K)|refine AWh (by assumption) ?_)
      exact retq1 (conv_eq rfl rfl)
  · rw [show [e0, e1, e2, e3, e4, e5, e6, e7, e8].drop 5 = e5 :: [e0, e1, e2, e3, e4, e5, e6, e7, e8].drop 6 from rfl, firstE_cons] at hF
    have hc := h5
    by_cases he : e5 = 0
    · rw [if_neg (by simp [he])] at hF
      rw [he] at hc
      repeat' (first
 |refine AW_seq_k fun K hK=>?_|refine Step.by1 ?_|refine SBlock_exit_ne (by decide) ?_|refine cz rfl ?_|refine Fork.by2 (fun h=>?_) fun h=>?_
 |((first|refine AW_region_AO ?_|refine AS_call1 (f:=133) rfl rfl (hc) rfl rfl rfl ?_);simp [vl, NetD.cells, wrap_i64];try (simp (disch:=omega) only [wrap_i64];try simp [vl, NetD.cells, wrap_i64]))
 |(refine Split.by2 (fun h=>?_) (fun h=>?_)<;>(simp [h, vl, NetD.cells, wrap_i64];try (simp (disch:=omega) only [wrap_i64];try simp [vl, NetD.cells, wrap_i64])))
 |(apply hK;clear hK K)|refine AWh (by assumption) ?_)
      refine ⟨6, ⟨by omega, hF, fun h => hz (by omega)⟩, by omega, ?_⟩; apply Weak.mk' <;> simp [vl, NetD.cells]
    · rw [if_pos he] at hF
      subst hF
      repeat' (first
 |refine AW_seq_k fun K hK=>?_|refine Step.by1 ?_|refine SBlock_exit_ne (by decide) ?_|refine cz rfl ?_|refine Fork.by2 (fun h=>?_) fun h=>?_
 |((first|refine AW_region_AO ?_|refine AS_call1 (f:=133) rfl rfl (hc) rfl rfl rfl ?_);simp [vl, NetD.cells, wrap_i64, he];try (simp (disch:=omega) only [wrap_i64];try simp [vl, NetD.cells, wrap_i64, he]))
 |(refine Split.by2 (fun h=>?_) (fun h=>?_)<;>(simp [h, vl, NetD.cells, wrap_i64, he];try (simp (disch:=omega) only [wrap_i64];try simp [vl, NetD.cells, wrap_i64, he])))
 |(apply hK;clear hK K)|refine AWh (by assumption) ?_)
      exact retq1 (conv_eq rfl rfl)
  · rw [show [e0, e1, e2, e3, e4, e5, e6, e7, e8].drop 6 = e6 :: [e0, e1, e2, e3, e4, e5, e6, e7, e8].drop 7 from rfl, firstE_cons] at hF
    have hc := h6 (hz (by omega))
    by_cases he : e6 = 0
    · rw [if_neg (by simp [he])] at hF
      rw [he] at hc
      repeat' (first
 |refine AW_seq_k fun K hK=>?_|refine Step.by1 ?_|refine SBlock_exit_ne (by decide) ?_|refine cz rfl ?_|refine Fork.by2 (fun h=>?_) fun h=>?_
 |((first|refine AW_region_AO ?_|refine AS_call1 (f:=134) rfl rfl (hc) rfl rfl rfl ?_);simp [vl, NetD.cells, wrap_i64];try (simp (disch:=omega) only [wrap_i64];try simp [vl, NetD.cells, wrap_i64]))
 |(refine Split.by2 (fun h=>?_) (fun h=>?_)<;>(simp [h, vl, NetD.cells, wrap_i64];try (simp (disch:=omega) only [wrap_i64];try simp [vl, NetD.cells, wrap_i64])))
 |(apply hK;clear hK K)|refine AWh (by assumption) ?_)
      refine ⟨7, ⟨by omega, hF, fun h => hz (by omega)⟩, by omega, ?_⟩; apply Weak.mk' <;> simp [vl, NetD.cells]
    · rw [if_pos he] at hF
      subst hF
      repeat' (first
 |refine AW_seq_k fun K hK=>?_|refine Step.by1 ?_|refine SBlock_exit_ne (by decide) ?_|refine cz rfl ?_|refine Fork.by2 (fun h=>?_) fun h=>?_
 |((first|refine AW_region_AO ?_|refine AS_call1 (f:=134) rfl rfl (hc) rfl rfl rfl ?_);simp [vl, NetD.cells, wrap_i64, he];try (simp (disch:=omega) only [wrap_i64];try simp [vl, NetD.cells, wrap_i64, he]))
 |(refine Split.by2 (fun h=>?_) (fun h=>?_)<;>(simp [h, vl, NetD.cells, wrap_i64, he];try (simp (disch:=omega) only [wrap_i64];try simp [vl, NetD.cells, wrap_i64, he])))
 |(apply hK;clear hK K)|refine AWh (by assumption) ?_)
      exact retq1 (conv_eq rfl rfl)
  · rw [show [e0, e1, e2, e3, e4, e5, e6, e7, e8].drop 7 = e7 :: [e0, e1, e2, e3, e4, e5, e6, e7, e8].drop 8 from rfl, firstE_cons] at hF
    have hc := h7 (hz (by omega))
    by_cases he : e7 = 0
    · rw [if_neg (by simp [he])] at hF
      rw [he] at hc
      repeat' (first
 |refine AW_seq_k fun K hK=>?_|refine Step.by1 ?_|refine SBlock_exit_ne (by decide) ?_|refine cz rfl ?_|refine Fork.by2 (fun h=>?_) fun h=>?_
 |((first|refine AW_region_AO ?_|refine AS_call1 (f:=135) rfl rfl (hc) rfl rfl rfl ?_);simp [vl, NetD.cells, wrap_i64];try (simp (disch:=omega) only [wrap_i64];try simp [vl, NetD.cells, wrap_i64]))
 |(refine Split.by2 (fun h=>?_) (fun h=>?_)<;>(simp [h, vl, NetD.cells, wrap_i64];try (simp (disch:=omega) only [wrap_i64];try simp [vl, NetD.cells, wrap_i64])))
 |(apply hK;clear hK K)|refine AWh (by assumption) ?_)
      refine ⟨8, ⟨by omega, hF, fun h => hz (by omega)⟩, by omega, ?_⟩; apply Weak.mk' <;> simp [vl, NetD.cells]
    · rw [if_pos he] at hF
      subst hF
      repeat' (first
 |refine AW_seq_k fun K hK=>?_|refine Step.by1 ?_|refine SBlock_exit_ne (by decide) ?_|refine cz rfl ?_|refine Fork.by2 (fun h=>?_) fun h=>?_
 |((first|refine AW_region_AO ?_|refine AS_call1 (f:=135) rfl rfl (hc) rfl rfl rfl ?_);simp [vl, NetD.cells, wrap_i64, he];try (simp (disch:=omega) only [wrap_i64];try simp [vl, NetD.cells, wrap_i64, he]))
 |(refine Split.by2 (fun h=>?_) (fun h=>?_)<;>(simp [h, vl, NetD.cells, wrap_i64, he];try (simp (disch:=omega) only [wrap_i64];try simp [vl, NetD.cells, wrap_i64, he])))
 |(apply hK;clear hK K)|refine AWh (by assumption) ?_)
      exact retq1 (conv_eq rfl rfl)
  · rw [show [e0, e1, e2, e3, e4, e5, e6, e7, e8].drop 8 = e8 :: [e0, e1, e2, e3, e4, e5, e6, e7, e8].drop 9 from rfl, firstE_cons] at hF
    have hc := h8 (hz (by omega))
    by_cases he : e8 = 0
    · rw [if_neg (by simp [he])] at hF
      rw [he] at hc
      repeat' (first
 |refine AW_seq_k fun K hK=>?_|refine Step.by1 ?_|refine SBlock_exit_ne (by decide) ?_|refine cz rfl ?_|refine Fork.by2 (fun h=>?_) fun h=>?_
 |((first|refine AW_region_AO ?_|refine AS_call1 (f:=136) rfl rfl (hc) rfl rfl rfl ?_);simp [vl, NetD.cells, wrap_i64];try (simp (disch:=omega) only [wrap_i64];try simp [vl, NetD.cells, wrap_i64]))
 |(refine Split.by2 (fun h=>?_) (fun h=>?_)<;>(simp [h, vl, NetD.cells, wrap_i64];try (simp (disch:=omega) only [wrap_i64];try simp [vl, NetD.cells, wrap_i64])))
 |(apply hK;clear hK K)|refine AWh (by assumption) ?_)
      refine ⟨9, ⟨by omega, hF, fun h => hz (by omega)⟩, by omega, ?_⟩; apply Weak.mk' <;> simp [vl, NetD.cells]
    · rw [if_pos he] at hF
      subst hF
      repeat' (first
 |refine AW_seq_k fun K hK=>?_|refine Step.by1 ?_|refine SBlock_exit_ne (by decide) ?_|refine cz rfl ?_|refine Fork.by2 (fun h=>?_) fun h=>?_
 |((first|refine AW_region_AO ?_|refine AS_call1 (f:=136) rfl rfl (hc) rfl rfl rfl ?_);simp [vl, NetD.cells, wrap_i64, he];try (simp (disch:=omega) only [wrap_i64];try simp [vl, NetD.cells, wrap_i64, he]))
 |(refine Split.by2 (fun h=>?_) (fun h=>?_)<;>(simp [h, vl, NetD.cells, wrap_i64, he];try (simp (disch:=omega) only [wrap_i64];try simp [vl, NetD.cells, wrap_i64, he])))
 |(apply hK;clear hK K)|refine AWh (by assumption) ?_)
      exact retq1 (conv_eq rfl rfl)
  · repeat' (first
 |refine AW_seq_k fun K hK=>?_|refine Step.by1 ?_|refine SBlock_exit_ne (by decide) ?_|refine cz rfl ?_|refine Fork.by2 (fun h=>?_) fun h=>?_
 |(refine AW_region_AO ?_;simp [vl, NetD.cells])
 |(refine Split.by2 (fun h=>?_) (fun h=>?_)<;>(simp [h, vl, NetD.cells]))
 |(apply hK;clear hK K)|refine AWh (by assumption) ?_)
    exact retq1 (conv_eq (by rw [← hF]; rfl) rfl)
  · omega
end Go.Proofs.YtgmlimipejcpgaaGreatDoor
end

section
set_option linter.unusedVariables false
set_option linter.unusedSimpArgs false
namespace Go.Proofs.YtgmlimipejcpgaaGreatDoor
open Go Go.AM Fx
end Go.Proofs.YtgmlimipejcpgaaGreatDoor
end

section
set_option linter.unusedVariables false
set_option linter.unusedSimpArgs false
namespace Go.Proofs.YtgmlimipejcpgaaGreatDoor
open Go Go.AM Fx
theorem r_digit (c : Int) : PC 238 [.int .u8 c] (.bool (isDigit c)) := by
  refine PCall_body Tryz.func238 rfl (by decide) Tryz.ntmps238 (by simp) Tryz.results238 ?_
  repeat' (first
 |refine AW_seq_k fun K hK=>?_|refine Step.by1 ?_|refine SBlock_exit_ne (by decide) ?_|refine cz rfl ?_|refine Fork.by2 (fun h=>?_) fun h=>?_
 |(refine AW_region_AO ?_;simp)
 |(refine Split.by2 (fun h=>?_) (fun h=>?_)<;>(simp [h]))
 |(apply hK;clear hK K)|refine AWh (by assumption) ?_)
  all_goals first
    | exact retq1 (conv_eq (by simp [isDigit, *]; done) rfl)
    | exact retq1 (conv_eq (by simp [isDigit, *]; omega) rfl)
    | trace_state
theorem r_letter (c : Int) : PC 240 [.int .u8 c] (.bool (isLetter c)) := by
  refine PCall_body Tryz.func240 rfl (by decide) Tryz.ntmps240 (by simp) Tryz.results240 ?_
  repeat' (first
 |refine AW_seq_k fun K hK=>?_|refine Step.by1 ?_|refine SBlock_exit_ne (by decide) ?_|refine cz rfl ?_|refine Fork.by2 (fun h=>?_) fun h=>?_
 |(refine AW_region_AO ?_;simp)
 |(refine Split.by2 (fun h=>?_) (fun h=>?_)<;>(simp [h]))
 |(apply hK;clear hK K)|refine AWh (by assumption) ?_)
  all_goals first
    | exact retq1 (conv_eq (by simp [isLetter, *]; done) rfl)
    | exact retq1 (conv_eq (by simp [isLetter, *]; omega) rfl)
    | (exfalso; omega)
    | trace_state
/-- Where a remark ends that a place lies in. -/
def remE (s : ByteArray) : Nat → Nat → Nat
  | 0, i => i
  | k + 1, i => if i < s.size ∧ byteS s i ≠ 10 then remE s k (i + 1) else i
theorem remE_stop {s : ByteArray} {k i : Nat} (h : ¬ (i < s.size ∧ byteS s i ≠ 10)) : remE s k i = i := by cases k <;> simp only [remE, if_neg h]
/-- The place behind blanks and remarks. -/
def begE (s : ByteArray) : Nat → Nat → Nat
  | 0, i => i
  | k + 1, i => if i < s.size then (if byteS s i = 32 ∨ byteS s i = 9 ∨ byteS s i = 13 ∨ byteS s i = 10 then begE s k (i + 1) else if byteS s i = 35 then begE s k (remE s (s.size - i) i) else i) else i
theorem remE_ge {s : ByteArray} : ∀ (k i : Nat), i ≤ remE s k i ∧ (remE s k i ≤ s.size ∨ remE s k i = i)
  | 0, i => ⟨Nat.le_refl _, .inr rfl⟩
  | k + 1, i => by
    unfold remE
    split
    · rename_i h
      have := remE_ge (s := s) k (i + 1)
      omega
    · exact ⟨Nat.le_refl _, .inr rfl⟩
set_option maxRecDepth 8000 in
set_option maxHeartbeats 4000000 in
theorem r_begin (s : ByteArray) (at0 : Nat) (hs : s.size ≤ 1099511627776) (ha : at0 ≤ s.size) : PC 237 [.str s, .int .i64 at0] (.int .i64 (begE s (s.size + 1 - at0) at0)) := by
  obtain ⟨r, hr⟩ : ∃ r, begE s (s.size + 1 - at0) at0 = r := ⟨_, rfl⟩
  rw [hr]
  refine PCall_body Tryz.func237 rfl (by decide) Tryz.ntmps237 (by simp) Tryz.results237 ?_
  repeat' (first
 |refine AW_seq_k fun K hK=>?_|refine Step.by1 ?_|refine SBlock_exit_ne (by decide) ?_|refine cz rfl ?_|refine Fork.by2 (fun h=>?_) fun h=>?_
 |(refine AW_region_AO ?_;simp)
 |(refine Split.by2 (fun h=>?_) (fun h=>?_)<;>(simp [h]))
 |(apply hK;clear hK K)|refine AWh (by assumption) ?_)
  refine AW_loopL [0] (fun p : Nat => [(1, .int .i64 p)]) (fun _ => []) (fun p => p ≤ s.size ∧ ∃ f, s.size + 1 ≤ f + p ∧ begE s f p = r) (fun p => s.size + 1 - p) at0 ⟨ha, s.size + 1 - at0, by omega, hr⟩ (by apply Weak.mk' <;> simp) (fun _ _ => rfl) ?_
  rintro p ⟨h1, f, h2, h3⟩
  obtain ⟨f', rfl⟩ : ∃ f', f = f' + 1 := ⟨f - 1, by omega⟩
  unfold begE at h3
  by_cases hlt : p < s.size
  · have hlt' : (p : Int) < s.size := by omega
    rw [if_pos hlt] at h3
    obtain ⟨c, hc⟩ : ∃ c, byteS s p = c := ⟨_, rfl⟩
    rw [hc] at h3
    have hda : p < s.data.size := hlt
    have hb : ((s.data[p]).toNat : Int) = c := by rw [← hc]; simp [byteS, Array.getElem?_eq_getElem hda]
    by_cases hblank : c = 32 ∨ c = 9 ∨ c = 13 ∨ c = 10
    · rw [if_pos hblank] at h3
      repeat' (first
 |refine AW_seq_k fun K hK=>?_|refine Step.by1 ?_|refine SBlock_exit_ne (by decide) ?_|refine cz rfl ?_|refine Fork.by2 (fun h=>?_) fun h=>?_
 |(refine AW_region_AO ?_;simp [hlt, hlt', hb, wrap_i64];try (simp (disch:=omega) only [wrap_i64];try simp [hlt, hlt', hb, wrap_i64]))
 |(refine Split.by2 (fun h=>?_) (fun h=>?_)<;>(simp [h, hlt, hlt', hb, wrap_i64];try (simp (disch:=omega) only [wrap_i64];try simp [hlt, hlt', hb, wrap_i64])))
 |(apply hK;clear hK K)|refine AWh (by assumption) ?_)
      all_goals first
        | (refine ⟨p + 1, ⟨by omega, f', by omega, h3⟩, by omega, ?_⟩; apply Weak.mk' <;> simp)
        | (exfalso; omega)
        | trace_state
    · rw [if_neg hblank] at h3
      have e1 : ¬ c = 32 := by omega
      have e2 : ¬ c = 9 := by omega
      have e3 : ¬ c = 13 := by omega
      have e4 : ¬ c = 10 := by omega
      by_cases hrem : c = 35
      · rw [if_pos hrem] at h3
        have hge := remE_ge (s := s) (s.size - p) p
        have hstep : remE s (s.size - p) p = remE s (s.size - (p + 1)) (p + 1) := by
          rw [show s.size - p = (s.size - (p + 1)) + 1 by omega]
          conv => lhs; unfold remE
          rw [if_pos ⟨hlt, by omega⟩]
        have hge2 := remE_ge (s := s) (s.size - (p + 1)) (p + 1)
        obtain ⟨e, he⟩ : ∃ e, remE s (s.size - p) p = e := ⟨_, rfl⟩
        rw [← hstep] at hge2
        rw [he] at h3 hge hge2
        repeat' (first
 |refine AW_seq_k fun K hK=>?_|refine Step.by1 ?_|refine SBlock_exit_ne (by decide) ?_|refine cz rfl ?_|refine Fork.by2 (fun h=>?_) fun h=>?_
 |(refine AW_region_AO ?_;simp [hlt, hlt', hb, e1, e2, e3, e4, hrem, wrap_i64];try (simp (disch:=omega) only [wrap_i64];try simp [hlt, hlt', hb, e1, e2, e3, e4, hrem, wrap_i64]))
 |(refine Split.by2 (fun h=>?_) (fun h=>?_)<;>(simp [h, hlt, hlt', hb, e1, e2, e3, e4, hrem, wrap_i64];try (simp (disch:=omega) only [wrap_i64];try simp [hlt, hlt', hb, e1, e2, e3, e4, hrem, wrap_i64])))
 |(apply hK;clear hK K)|refine AWh (by assumption) ?_)
        refine AW_loopL [0] (fun q : Nat => [(1, .int .i64 q)]) (fun _ => []) (fun q => p ≤ q ∧ q ≤ s.size ∧ remE s (s.size - q) q = e) (fun q => s.size - q) p ⟨Nat.le_refl _, h1, he⟩ (by apply Weak.mk' <;> simp) (fun _ _ => rfl) ?_
        rintro q ⟨k0, k1, k2⟩
        by_cases hq : q < s.size
        · have hq' : (q : Int) < s.size := by omega
          obtain ⟨d, hd⟩ : ∃ d, byteS s q = d := ⟨_, rfl⟩
          have hdq : q < s.data.size := hq
          have hbq : ((s.data[q]).toNat : Int) = d := by rw [← hd]; simp [byteS, Array.getElem?_eq_getElem hdq]
          by_cases hnl : d = 10
          · rw [remE_stop (by rw [hd]; omega)] at k2
            subst k2
            repeat' (first
 |refine AW_seq_k fun K hK=>?_|refine Step.by1 ?_|refine SBlock_exit_ne (by decide) ?_|refine cz rfl ?_|refine Fork.by2 (fun h=>?_) fun h=>?_
 |(refine AW_region_AO ?_;simp [hq, hq', hbq, hnl, wrap_i64];try (simp (disch:=omega) only [wrap_i64];try simp [hq, hq', hbq, hnl, wrap_i64]))
 |(refine Split.by2 (fun h=>?_) (fun h=>?_)<;>(simp [h, hq, hq', hbq, hnl, wrap_i64];try (simp (disch:=omega) only [wrap_i64];try simp [hq, hq', hbq, hnl, wrap_i64])))
 |(apply hK;clear hK K)|refine AWh (by assumption) ?_)
            refine ⟨q, ⟨by omega, f', by omega, h3⟩, by omega, ?_⟩; apply Weak.mk' <;> simp
          · rw [show s.size - q = (s.size - (q + 1)) + 1 by omega] at k2
            unfold remE at k2
            rw [hd, if_pos ⟨hq, hnl⟩] at k2
            repeat' (first
 |refine AW_seq_k fun K hK=>?_|refine Step.by1 ?_|refine SBlock_exit_ne (by decide) ?_|refine cz rfl ?_|refine Fork.by2 (fun h=>?_) fun h=>?_
 |(refine AW_region_AO ?_;simp [hq, hq', hbq, hnl, wrap_i64];try (simp (disch:=omega) only [wrap_i64];try simp [hq, hq', hbq, hnl, wrap_i64]))
 |(refine Split.by2 (fun h=>?_) (fun h=>?_)<;>(simp [h, hq, hq', hbq, hnl, wrap_i64];try (simp (disch:=omega) only [wrap_i64];try simp [hq, hq', hbq, hnl, wrap_i64])))
 |(apply hK;clear hK K)|refine AWh (by assumption) ?_)
            refine ⟨q + 1, ⟨by omega, by omega, k2⟩, by omega, ?_⟩; apply Weak.mk' <;> simp
        · have hq' : ¬ (q : Int) < s.size := by omega
          rw [remE_stop (by omega)] at k2
          subst k2
          repeat' (first
 |refine AW_seq_k fun K hK=>?_|refine Step.by1 ?_|refine SBlock_exit_ne (by decide) ?_|refine cz rfl ?_|refine Fork.by2 (fun h=>?_) fun h=>?_
 |(refine AW_region_AO ?_;simp [hq, hq', wrap_i64];try (simp (disch:=omega) only [wrap_i64];try simp [hq, hq', wrap_i64]))
 |(refine Split.by2 (fun h=>?_) (fun h=>?_)<;>(simp [h, hq, hq', wrap_i64];try (simp (disch:=omega) only [wrap_i64];try simp [hq, hq', wrap_i64])))
 |(apply hK;clear hK K)|refine AWh (by assumption) ?_)
          refine ⟨q, ⟨by omega, f', by omega, h3⟩, by omega, ?_⟩; apply Weak.mk' <;> simp
      · rw [if_neg hrem] at h3
        repeat' (first
 |refine AW_seq_k fun K hK=>?_|refine Step.by1 ?_|refine SBlock_exit_ne (by decide) ?_|refine cz rfl ?_|refine Fork.by2 (fun h=>?_) fun h=>?_
 |(refine AW_region_AO ?_;simp [hlt, hlt', hb, e1, e2, e3, e4, hrem, wrap_i64];try (simp (disch:=omega) only [wrap_i64];try simp [hlt, hlt', hb, e1, e2, e3, e4, hrem, wrap_i64]))
 |(refine Split.by2 (fun h=>?_) (fun h=>?_)<;>(simp [h, hlt, hlt', hb, e1, e2, e3, e4, hrem, wrap_i64];try (simp (disch:=omega) only [wrap_i64];try simp [hlt, hlt', hb, e1, e2, e3, e4, hrem, wrap_i64])))
 |(apply hK;clear hK K)|refine AWh (by assumption) ?_)
        exact retq1 (conv_eq (by simp [h3]) rfl)
  · have hlt' : ¬ (p : Int) < s.size := by omega
    rw [if_neg hlt] at h3
    repeat' (first
 |refine AW_seq_k fun K hK=>?_|refine Step.by1 ?_|refine SBlock_exit_ne (by decide) ?_|refine cz rfl ?_|refine Fork.by2 (fun h=>?_) fun h=>?_
 |(refine AW_region_AO ?_;simp [hlt, hlt'])
 |(refine Split.by2 (fun h=>?_) (fun h=>?_)<;>(simp [h, hlt, hlt']))
 |(apply hK;clear hK K)|refine AWh (by assumption) ?_)
    exact retq1 (conv_eq (by simp [h3]) rfl)
end Go.Proofs.YtgmlimipejcpgaaGreatDoor
end

section
set_option linter.unusedVariables false
set_option linter.unusedSimpArgs false
namespace Go.Proofs.YtgmlimipejcpgaaGreatDoor
open Go Go.AM Fx
theorem retq3ct {P : Program} {st : St} {t u v : Nat} {T : TypeId} {cs : List V} {off : Nat} {r : V} (hp : place st.h (lk st.tm t) = some (cs, off)) (ho : loadOk P T cs off) (hc : Conv st.h (.tup [loadV P T cs off, lk st.tm u, lk st.tm v]) r) : RetQ P #[.cell t T, .tmp u, .tmp v] r .ret st :=
  ⟨.inr rfl, _, ⟨[loadV P T cs off, lk st.tm u, lk st.tm v], rfl, ⟨cs, off, hp, ho, rfl⟩, rfl, rfl, trivial⟩, hc⟩
def numStep (n c : Int) : Int := if n ≤ 2147483648 then IntKind.i64.wrap (IntKind.i64.wrap (IntKind.i64.wrap (n * 10) + IntKind.i64.wrap c) - 48) else n
def numE (s : ByteArray) : Nat → Nat → Int → Nat × Int
  | 0, k, n => (k, n)
  | f + 1, k, n => if k < s.size ∧ isDigit (byteS s k) = true then numE s f (k + 1) (numStep n (byteS s k)) else (k, n)
theorem numE_stop {s : ByteArray} {f k : Nat} {n : Int} (h : ¬ (k < s.size ∧ isDigit (byteS s k) = true)) : numE s f k n = (k, n) := by cases f <;> simp only [numE, if_neg h]
def tokV (kind : Int) (text : ByteArray) (n at_ : Int) : V := .agg [.int .i64 kind, .str text, .int .i64 n, .int .i64 at_]
set_option maxRecDepth 8000 in
set_option maxHeartbeats 4000000 in
theorem r_number (s : ByteArray) (at0 : Nat) (hs : s.size ≤ 1099511627776) (ha : at0 < s.size) : ∃ kind text n at_ k e, PC 239 [.str s, .int .i64 at0] (.tup [tokV kind text n at_, .int .i64 k, .int .i64 e]) ∧ kind ≠ 1 := by
  obtain ⟨⟨k0, n0⟩, hr⟩ : ∃ r, numE s (s.size - at0) at0 0 = r := ⟨_, rfl⟩
  obtain ⟨c0, hc0⟩ : ∃ c, byteS s at0 = c := ⟨_, rfl⟩
  have hda : at0 < s.data.size := ha
  have hb0 : ((s.data[at0]).toNat : Int) = c0 := by rw [← hc0]; simp [byteS, Array.getElem?_eq_getElem hda]
  have ha' : (at0 : Int) < s.size := by omega
  have key : ∀ R : V, (∀ n' : Int, at0 ≤ k0 → k0 ≤ s.size → R = (if (c0 = 48 ∧ (at0 : Int) + 1 < k0) ∨ 2147483647 < n0 then .tup [tokV 0 ⟨#[]⟩ 0 0, .int .i64 at0, .int .i64 91] else .tup [tokV 2 (s.extract at0 k0) n0 at0, .int .i64 k0, .int .i64 0])) →
      PC 239 [.str s, .int .i64 at0] R := by
    intro R hR
    have w1 : IntKind.i64.wrap ((at0 : Int) + 1) = at0 + 1 := wrap_i64 (by omega) (by omega)
    refine PCall_body Tryz.func239 rfl (by decide) Tryz.ntmps239 (by simp) Tryz.results239 ?_
    repeat' (first
 |refine AW_seq_k fun K hK=>?_|refine Step.by1 ?_|refine SBlock_exit_ne (by decide) ?_|refine cz rfl ?_|refine Fork.by2 (fun h=>?_) fun h=>?_
 |(refine AW_region_AO ?_;simp)
 |(refine Split.by2 (fun h=>?_) (fun h=>?_)<;>(simp [h]))
 |(apply hK;clear hK K)|refine AWh (by assumption) ?_)
    refine AW_loopL [0, 1, 4] (fun p : Nat × Int => [(7, .int .i64 p.1), (8, .int .i64 p.2)]) (fun _ => [.var [.int .i64 0, .str ⟨#[]⟩, .int .i64 0, .int .i64 0]]) (fun p => at0 ≤ p.1 ∧ p.1 ≤ s.size ∧ numE s (s.size - p.1) p.1 p.2 = (k0, n0)) (fun p => s.size - p.1) (at0, 0) ⟨Nat.le_refl _, (by simp only; omega), hr⟩ (by apply Weak.mk' <;> simp) (fun _ _ => rfl) ?_
    rintro ⟨p, n⟩ ⟨i1, i2, i3⟩
    simp only at i1 i2 i3
    by_cases hlt : p < s.size
    · have hlt' : (p : Int) < s.size := by omega
      obtain ⟨c, hc⟩ : ∃ c, byteS s p = c := ⟨_, rfl⟩
      have hdp : p < s.data.size := hlt
      have hb : ((s.data[p]).toNat : Int) = c := by rw [← hc]; simp [byteS, Array.getElem?_eq_getElem hdp]
      have hdg := r_digit c
      have w2 : IntKind.i64.wrap ((p : Int) + 1) = p + 1 := wrap_i64 (by omega) (by omega)
      by_cases hd : isDigit c = true
      · rw [show s.size - p = (s.size - (p + 1)) + 1 by omega] at i3
        unfold numE at i3
        rw [hc, if_pos ⟨hlt, hd⟩] at i3
        rw [hd] at hdg
        by_cases hn : n ≤ 2147483648
        · have hst : numStep n c = IntKind.i64.wrap (IntKind.i64.wrap (IntKind.i64.wrap (n * 10) + IntKind.i64.wrap c) - 48) := by unfold numStep; rw [if_pos hn]
          rw [hst] at i3
          repeat' (first
 |refine AW_seq_k fun K hK=>?_|refine Step.by1 ?_|refine SBlock_exit_ne (by decide) ?_|refine cz rfl ?_|refine Fork.by2 (fun h=>?_) fun h=>?_
 |((first|refine AW_region_AO ?_|refine AS_call1 (f:=238) rfl rfl (hdg) rfl rfl rfl ?_);simp [hlt, hlt', hb, hn, w2])
 |(refine Split.by2 (fun h=>?_) (fun h=>?_)<;>(simp [h, hlt, hlt', hb, hn, w2]))
 |(apply hK;clear hK K)|refine AWh (by assumption) ?_)
          refine ⟨p + 1, _, ⟨by omega, by omega, i3⟩, by omega, ?_⟩
          apply Weak.mk' <;> simp
        · have hst : numStep n c = n := by unfold numStep; rw [if_neg hn]
          rw [hst] at i3
          repeat' (first
 |refine AW_seq_k fun K hK=>?_|refine Step.by1 ?_|refine SBlock_exit_ne (by decide) ?_|refine cz rfl ?_|refine Fork.by2 (fun h=>?_) fun h=>?_
 |((first|refine AW_region_AO ?_|refine AS_call1 (f:=238) rfl rfl (hdg) rfl rfl rfl ?_);simp [hlt, hlt', hb, hn, w2])
 |(refine Split.by2 (fun h=>?_) (fun h=>?_)<;>(simp [h, hlt, hlt', hb, hn, w2]))
 |(apply hK;clear hK K)|refine AWh (by assumption) ?_)
          refine ⟨p + 1, n, ⟨by omega, by omega, i3⟩, by omega, ?_⟩
          apply Weak.mk' <;> simp
      · rw [numE_stop (by rw [hc]; exact fun h => hd h.2)] at i3
        cases i3
        have hd' : isDigit c = false := by simpa using hd
        rw [hd'] at hdg
        have hR' := hR 0 i1 i2
        repeat' (first
 |refine AW_seq_k fun K hK=>?_|refine Step.by1 ?_|refine SBlock_exit_ne (by decide) ?_|refine cz rfl ?_|refine Fork.by2 (fun h=>?_) fun h=>?_
 |((first|refine AW_region_AO ?_|refine AS_call1 (f:=238) rfl rfl (hdg) rfl rfl rfl ?_);simp [hlt, hlt', hb, hb0, hda, ha, ha', w1, i1, i2])
 |(refine Split.by2 (fun h=>?_) (fun h=>?_)<;>(simp [h, hlt, hlt', hb, hb0, hda, ha, ha', w1, i1, i2]))
 |(apply hK;clear hK K)|refine AWh (by assumption) ?_)
        all_goals first
          | (rw [hR', if_pos (by omega)]; exact retq3ct rfl (by simp) (conv_eq (by simp [tokV]) (by simp [tokV])))
          | (rw [hR', if_neg (by omega)]; exact retq3ct rfl (by simp) (conv_eq (by simp [tokV]) (by simp [tokV])))
          | trace_state
    · rw [numE_stop (fun h => hlt h.1)] at i3
      cases i3
      have hlt' : ¬ (k0 : Int) < s.size := by omega
      have hR' := hR 0 i1 i2
      repeat' (first
 |refine AW_seq_k fun K hK=>?_|refine Step.by1 ?_|refine SBlock_exit_ne (by decide) ?_|refine cz rfl ?_|refine Fork.by2 (fun h=>?_) fun h=>?_
 |(refine AW_region_AO ?_;simp [hlt, hlt', hb0, hda, ha, ha', w1, i1, i2])
 |(refine Split.by2 (fun h=>?_) (fun h=>?_)<;>(simp [h, hlt, hlt', hb0, hda, ha, ha', w1, i1, i2]))
 |(apply hK;clear hK K)|refine AWh (by assumption) ?_)
      all_goals first
        | (rw [hR', if_pos (by omega)]; exact retq3ct rfl (by simp) (conv_eq (by simp [tokV]) (by simp [tokV])))
        | (rw [hR', if_neg (by omega)]; exact retq3ct rfl (by simp) (conv_eq (by simp [tokV]) (by simp [tokV])))
        | trace_state
  by_cases hcnd : (c0 = 48 ∧ (at0 : Int) + 1 < k0) ∨ 2147483647 < n0
  · exact ⟨0, _, _, _, _, _, key _ (fun _ _ _ => by rw [if_pos hcnd]), by decide⟩
  · exact ⟨2, _, _, _, _, _, key _ (fun _ _ _ => by rw [if_neg hcnd]), by decide⟩
end Go.Proofs.YtgmlimipejcpgaaGreatDoor
end

section
set_option linter.unusedVariables false
set_option linter.unusedSimpArgs false
namespace Go.Proofs.YtgmlimipejcpgaaGreatDoor
open Go Go.AM Fx
theorem begE_le {s : ByteArray} : ∀ (k i : Nat), i ≤ s.size → begE s k i ≤ s.size
  | 0, i, h => h
  | k + 1, i, h => by
    unfold begE
    split
    · split
      · exact begE_le k _ (by omega)
      · split
        · have := remE_ge (s := s) (s.size - i) i
          exact begE_le k _ (by omega)
        · exact h
    · exact h
theorem begE_letter {s : ByteArray} {k : Nat} (h : 0 < s.size) (hl : isLetter (byteS s 0) = true) : begE s k 0 = 0 := by
  cases k with
  | zero => rfl
  | succ k =>
    unfold begE
    simp only [isLetter, decide_eq_true_eq] at hl
    rw [if_pos h, if_neg (by omega), if_neg (by omega)]
theorem wordE_fuel {s : ByteArray} : ∀ (f i : Nat), s.size ≤ f + i → wordE s f i = wordE s (s.size - i) i
  | 0, i, h => by rw [show s.size - i = 0 by omega]
  | f + 1, i, h => by
    by_cases hlt : i < s.size
    · rw [show s.size - i = (s.size - (i + 1)) + 1 by omega]
      unfold wordE
      rw [if_pos hlt, if_pos hlt]
      split
      · exact wordE_fuel f (i + 1) (by omega)
      · rfl
    · rw [wordE_stop hlt, wordE_stop hlt]
theorem wordE_all {s : ByteArray} (h : 0 < s.size) (hl : isLetter (byteS s 0) = true) : wordE s (s.size - 0) 0 = wordN s := by
  unfold wordN
  rw [wordE_fuel s.size 1 (by omega), show s.size - 0 = (s.size - 1) + 1 by omega]
  conv => lhs; unfold wordE
  rw [if_pos h, if_pos (by simp [wordC, hl])]
def twosL : List ByteArray := [⟨#[46, 46]⟩, ⟨#[58, 61]⟩, ⟨#[45, 62]⟩, ⟨#[38, 38]⟩, ⟨#[124, 124]⟩, ⟨#[33, 61]⟩, ⟨#[60, 61]⟩, ⟨#[61, 61]⟩, ⟨#[62, 61]⟩]
def onesB : ByteArray := ⟨#[44, 59, 46, 123, 125, 40, 41, 33, 60, 62, 63, 43, 45, 42]⟩
def oneF (s : ByteArray) (p : Nat) : List Nat → V
  | [] => .tup [tokV 0 ⟨#[]⟩ 0 0, .int .i64 p, .int .i64 90]
  | j :: r => if byteS s p = byteS onesB j then .tup [tokV 3 (onesB.extract j (j + 1)) 0 p, .int .i64 ((p : Int) + 1), .int .i64 0] else oneF s p r
def twoF (s : ByteArray) (p : Nat) : List ByteArray → V
  | [] => oneF s p (List.range 14)
  | x :: r => if p + 2 ≤ s.size ∧ s.extract p (p + 2) = x then .tup [tokV 3 x 0 p, .int .i64 ((p : Int) + 2), .int .i64 0] else twoF s p r
theorem oneF_nil {s : ByteArray} {p : Nat} : oneF s p [] = .tup [tokV 0 ⟨#[]⟩ 0 0, .int .i64 p, .int .i64 90] := rfl
theorem oneF_cons {s : ByteArray} {p j : Nat} {r : List Nat} : oneF s p (j :: r) = if byteS s p = byteS onesB j then .tup [tokV 3 (onesB.extract j (j + 1)) 0 p, .int .i64 ((p : Int) + 1), .int .i64 0] else oneF s p r := rfl
theorem twoF_nil {s : ByteArray} {p : Nat} : twoF s p [] = oneF s p (List.range 14) := rfl
theorem twoF_cons {s : ByteArray} {p : Nat} {x : ByteArray} {r : List ByteArray} : twoF s p (x :: r) = if p + 2 ≤ s.size ∧ s.extract p (p + 2) = x then .tup [tokV 3 x 0 p, .int .i64 ((p : Int) + 2), .int .i64 0] else twoF s p r := rfl
theorem oneF_shape (s : ByteArray) (p : Nat) : ∀ l : List Nat, ∃ kind text n at_ k e, oneF s p l = .tup [tokV kind text n at_, .int .i64 k, .int .i64 e] ∧ kind ≠ 1
  | [] => ⟨0, _, _, _, _, _, rfl, by decide⟩
  | j :: r => by
    rw [oneF_cons]
    split
    · exact ⟨3, _, _, _, _, _, rfl, by decide⟩
    · exact oneF_shape s p r
theorem twoF_shape (s : ByteArray) (p : Nat) : ∀ l : List ByteArray, ∃ kind text n at_ k e, twoF s p l = .tup [tokV kind text n at_, .int .i64 k, .int .i64 e] ∧ kind ≠ 1
  | [] => oneF_shape s p _
  | j :: r => by
    rw [twoF_cons]
    split
    · exact ⟨3, _, _, _, _, _, rfl, by decide⟩
    · exact twoF_shape s p r
theorem twos_get {i : Nat} {x : ByteArray} (h : twosL[i]? = some x) : ([.str ⟨#[46, 46]⟩, .str ⟨#[58, 61]⟩, .str ⟨#[45, 62]⟩, .str ⟨#[38, 38]⟩, .str ⟨#[124, 124]⟩, .str ⟨#[33, 61]⟩, .str ⟨#[60, 61]⟩, .str ⟨#[61, 61]⟩, .str ⟨#[62, 61]⟩, .str ⟨#[]⟩, .str ⟨#[]⟩] : List V)[i]? = some (.str x) := by
  have hi : i < 9 := (List.getElem?_eq_some_iff.1 h).1
  rcases i with _ | _ | _ | _ | _ | _ | _ | _ | _ | i <;> first | (simp [twosL] at h; subst h; rfl) | omega
set_option maxRecDepth 20000 in
set_option maxHeartbeats 8000000 in
theorem r_Next0 (s : ByteArray) (hs : s.size ≤ 1099511627776) : ∃ kind text n at_ k e, PC 236 [.str s, .int .i64 0] (.tup [tokV kind text n at_, .int .i64 k, .int .i64 e]) ∧
    ((e = 0 ∧ kind = 1 ∧ k = s.size ∧ at_ = 0) ↔ (0 < s.size ∧ isLetter (byteS s 0) = true ∧ wordN s = s.size)) := by
  have hbeg := r_begin s 0 hs (Nat.zero_le _)
  have hle := begE_le (s := s) (s.size + 1 - 0) 0 (Nat.zero_le _)
  have hlet := begE_letter (s := s) (k := s.size + 1 - 0)
  obtain ⟨p, hp⟩ : ∃ p, begE s (s.size + 1 - 0) 0 = p := ⟨_, rfl⟩
  rw [hp] at hbeg hle hlet
  simp only [Int.natCast_zero] at hbeg
  have z1 : ¬ (s.size : Int) < 0 := by omega
  by_cases hps : p = s.size
  · -- nothing but blanks and remarks
    refine ⟨0, ⟨#[]⟩, 0, p, p, 0, ?_, ⟨fun h => absurd h.2.1 (by decide), fun h => absurd (hlet h.1 h.2.1) (by omega)⟩⟩
    subst hps
    refine PCall_body Tryz.func236 rfl (by decide) Tryz.ntmps236 (by simp) Tryz.results236 ?_
    repeat' (first
 |refine AW_seq_k fun K hK=>?_|refine Step.by1 ?_|refine SBlock_exit_ne (by decide) ?_|refine cz rfl ?_|refine Fork.by2 (fun h=>?_) fun h=>?_
 |((first|refine AW_region_AO ?_|refine AS_call1 (f:=237) rfl rfl (hbeg) rfl rfl rfl ?_);simp [z1])
 |(refine Split.by2 (fun h=>?_) (fun h=>?_)<;>(simp [h, z1]))
 |(apply hK;clear hK K)|refine AWh (by assumption) ?_)
    exact retq3ct rfl (by simp) (conv_eq (by simp [tokV]) (by simp [tokV]))
  · have hlt : p < s.size := by omega
    have hlt' : (p : Int) < s.size := by omega
    have hne : ¬ (p : Int) = s.size := by omega
    obtain ⟨c, hc⟩ : ∃ c, byteS s p = c := ⟨_, rfl⟩
    have hdp : p < s.data.size := hlt
    have hb : ((s.data[p]).toNat : Int) = c := by rw [← hc]; simp [byteS, Array.getElem?_eq_getElem hdp]
    have hdig := r_digit c
    have hltr := r_letter c
    by_cases hd : isDigit c = true
    · -- a number
      obtain ⟨kind, text, n, at_, k, e, hnum, hk⟩ := r_number s p hs hlt
      refine ⟨kind, text, n, at_, k, e, ?_, ⟨fun h => absurd h.2.1 hk, fun h => ?_⟩⟩
      · rw [hd] at hdig
        simp only [tokV] at hnum ⊢
        refine PCall_body Tryz.func236 rfl (by decide) Tryz.ntmps236 (by simp) Tryz.results236 ?_
        repeat' (first
 |refine AW_seq_k fun K hK=>?_|refine Step.by1 ?_|refine SBlock_exit_ne (by decide) ?_|refine cz rfl ?_|refine Fork.by2 (fun h=>?_) fun h=>?_
 |((first|refine AW_region_AO ?_|refine AS_call1 (f:=237) rfl rfl (hbeg) rfl rfl rfl ?_|refine AS_call1 (f:=238) rfl rfl (hdig) rfl rfl rfl ?_|refine AS_call1 (f:=239) rfl rfl (hnum) rfl rfl rfl ?_);simp [z1, hlt, hlt', hne, hb, hdp])
 |(refine Split.by2 (fun h=>?_) (fun h=>?_)<;>(simp [h, z1, hlt, hlt', hne, hb, hdp]))
 |(apply hK;clear hK K)|refine AWh (by assumption) ?_)
        exact retq3ct rfl (by simp) (conv_eq (by simp [tokV]) (by simp [tokV]))
      · exfalso
        have h0 := hlet h.1 h.2.1
        subst h0
        have hl := h.2.1
        rw [hc] at hl
        simp only [isLetter, isDigit, decide_eq_true_eq] at hd hl
        omega
    · have hd' : isDigit c = false := by simpa using hd
      rw [hd'] at hdig
      by_cases hl : isLetter c = true
      · -- a word
        rw [hl] at hltr
        obtain ⟨r, hr⟩ : ∃ r, wordE s (s.size - p) p = r := ⟨_, rfl⟩
        refine ⟨1, s.extract p r, 0, p, r, 0, ?_, ⟨fun h => ?_, fun h => ?_⟩⟩
        · refine PCall_body Tryz.func236 rfl (by decide) Tryz.ntmps236 (by simp) Tryz.results236 ?_
          repeat' (first
 |refine AW_seq_k fun K hK=>?_|refine Step.by1 ?_|refine SBlock_exit_ne (by decide) ?_|refine cz rfl ?_|refine Fork.by2 (fun h=>?_) fun h=>?_
 |((first|refine AW_region_AO ?_|refine AS_call1 (f:=237) rfl rfl (hbeg) rfl rfl rfl ?_|refine AS_call1 (f:=238) rfl rfl (hdig) rfl rfl rfl ?_|refine AS_call1 (f:=240) rfl rfl (hltr) rfl rfl rfl ?_);simp [z1, hlt, hlt', hne, hb, hdp])
 |(refine Split.by2 (fun h=>?_) (fun h=>?_)<;>(simp [h, z1, hlt, hlt', hne, hb, hdp]))
 |(apply hK;clear hK K)|refine AWh (by assumption) ?_)
          refine AW_loopL [0, 1, 4] (fun k : Nat => [(7, .int .i64 k)]) (fun _ => [.var [.int .i64 0, .str ⟨#[]⟩, .int .i64 0, .int .i64 0]]) (fun k => p ≤ k ∧ k ≤ s.size ∧ wordE s (s.size - k) k = r) (fun k => s.size - k) p ⟨Nat.le_refl _, by omega, hr⟩ (by apply Weak.mk' <;> simp) (fun _ _ => rfl) ?_
          rintro k ⟨h1, h2, h3⟩
          by_cases hk : k < s.size
          · have hk' : (k : Int) < s.size := by omega
            obtain ⟨q, hq⟩ : ∃ q, s.size - k = q + 1 := ⟨s.size - (k + 1), by omega⟩
            rw [hq] at h3
            unfold wordE at h3
            rw [if_pos hk] at h3
            obtain ⟨d, hd2⟩ : ∃ d, byteS s k = d := ⟨_, rfl⟩
            rw [hd2] at h3
            have hL := r_letter d
            have hD := r_digit d
            have hw : wordC d = (isLetter d || (isDigit d || decide (d = 95))) := rfl
            generalize isLetter d = ql at *
            generalize isDigit d = qd at *
            have hdk : k < s.data.size := hk
            have hbk : ((s.data[k]).toNat : Int) = d := by rw [← hd2]; simp [byteS, Array.getElem?_eq_getElem hdk]
            have w1 : IntKind.i64.wrap ((k : Int) + 1) = k + 1 := wrap_i64 (by omega) (by omega)
            have hpk : (p : Int) ≤ k := by omega
            have hk2 : (k : Int) ≤ s.size := by omega
            repeat' (first
 |refine AW_seq_k fun K hK=>?_|refine Step.by1 ?_|refine SBlock_exit_ne (by decide) ?_|refine cz rfl ?_|refine Fork.by2 (fun h=>?_) fun h=>?_
 |((first|refine AW_region_AO ?_|refine AS_call1 (f:=240) rfl rfl (hL) rfl rfl rfl ?_|refine AS_call1 (f:=238) rfl rfl (hD) rfl rfl rfl ?_);simp [hk, hk', hbk, w1, h1, h2, hpk, hk2])
 |(refine Split.by2 (fun h=>?_) (fun h=>?_)<;>(simp [h, hk, hk', hbk, w1, h1, h2, hpk, hk2]))
 |(apply hK;clear hK K)|refine AWh (by assumption) ?_)
            all_goals (try clear hL hD hbeg hdig hltr)
            all_goals first
              | (refine ⟨k + 1, ⟨by omega, by omega, ?_⟩, by omega, ?_⟩
                 · rw [show s.size - (k + 1) = q by omega, ← h3, if_pos]
                   rw [hw]; simp [*]
                 · apply Weak.mk' <;> simp)
              | (have hnw : ¬ wordC d = true := by rw [hw]; simp [*]
                 rw [if_neg hnw] at h3
                 subst h3
                 exact retq3ct rfl (by simp) (conv_eq (by simp [tokV]) (by simp [tokV])))
              | trace_state
          · have hk' : ¬ (k : Int) < s.size := by omega
            rw [wordE_stop hk] at h3
            subst h3
            have hpk : (p : Int) ≤ k := by omega
            have hk2 : (k : Int) ≤ s.size := by omega
            repeat' (first
 |refine AW_seq_k fun K hK=>?_|refine Step.by1 ?_|refine SBlock_exit_ne (by decide) ?_|refine cz rfl ?_|refine Fork.by2 (fun h=>?_) fun h=>?_
 |(refine AW_region_AO ?_;simp [hk, hk', h1, h2, hpk, hk2])
 |(refine Split.by2 (fun h=>?_) (fun h=>?_)<;>(simp [h, hk, hk', h1, h2, hpk, hk2]))
 |(apply hK;clear hK K)|refine AWh (by assumption) ?_)
            exact retq3ct rfl (by simp) (conv_eq (by simp [tokV]) (by simp [tokV]))
        · have h0 : p = 0 := by have := h.2.2.2; omega
          subst h0
          rw [hc]
          refine ⟨by omega, hl, ?_⟩
          rw [← wordE_all (by omega) (by rw [hc]; exact hl), hr]
          have := h.2.2.1; omega
        · have h0 := hlet h.1 h.2.1
          subst h0
          rw [wordE_all h.1 h.2.1] at hr
          have := h.2.2
          exact ⟨rfl, rfl, by omega, rfl⟩
      · -- a sign, or none
        have hl' : isLetter c = false := by simpa using hl
        rw [hl'] at hltr
        obtain ⟨kind, text, n, at_, k, e, hsh, hk⟩ := twoF_shape s p twosL
        refine ⟨kind, text, n, at_, k, e, ?_, ⟨fun h => absurd h.2.1 hk, fun h => ?_⟩⟩
        · have hp2 : IntKind.i64.wrap ((p : Int) + 2) = p + 2 := wrap_i64 (by omega) (by omega)
          have hp1 : IntKind.i64.wrap ((p : Int) + 1) = p + 1 := wrap_i64 (by omega) (by omega)
          obtain ⟨r, hr⟩ : ∃ r, V.tup [tokV kind text n at_, .int .i64 k, .int .i64 e] = r := ⟨_, rfl⟩
          rw [hr] at hsh ⊢
          rw [← hsh]
          clear hr hsh
          refine PCall_body Tryz.func236 rfl (by decide) Tryz.ntmps236 (by simp) Tryz.results236 ?_
          repeat' (first
 |refine AW_seq_k fun K hK=>?_|refine Step.by1 ?_|refine SBlock_exit_ne (by decide) ?_|refine cz rfl ?_|refine Fork.by2 (fun h=>?_) fun h=>?_
 |((first|refine AW_region_AO ?_|refine AS_call1 (f:=237) rfl rfl (hbeg) rfl rfl rfl ?_|refine AS_call1 (f:=238) rfl rfl (hdig) rfl rfl rfl ?_|refine AS_call1 (f:=240) rfl rfl (hltr) rfl rfl rfl ?_);simp [z1, hlt, hlt', hne, hb, hdp])
 |(refine Split.by2 (fun h=>?_) (fun h=>?_)<;>(simp [h, z1, hlt, hlt', hne, hb, hdp]))
 |(apply hK;clear hK K)|refine AWh (by assumption) ?_)
          generalize hcs : ([.str ⟨#[46, 46]⟩, .str ⟨#[58, 61]⟩, .str ⟨#[45, 62]⟩, .str ⟨#[38, 38]⟩, .str ⟨#[124, 124]⟩, .str ⟨#[33, 61]⟩, .str ⟨#[60, 61]⟩, .str ⟨#[61, 61]⟩, .str ⟨#[62, 61]⟩, .str ⟨#[]⟩, .str ⟨#[]⟩] : List V) = cs
          have hcl : cs.length = 11 := by rw [← hcs]; rfl
          have hcg : ∀ (i : Nat) (x : ByteArray), twosL[i]? = some x → cs[i]? = some (.str x) := fun i x h => by rw [← hcs]; exact twos_get h
          have htl : twosL.length = 9 := rfl
          have hlts : ∀ n, V.lts n cs = true := fun n => by rw [← hcs]; rfl
          clear hcs
          refine AW_scan twosL 9 [0, 1, 4, 8] (twoF s p) rfl (by apply Weak.mk' <;> simp [hlts]) ?_ ?_
          · intro i x hx0 hlt2 hx hF
            rw [twoF_cons] at hF
            have h9 : (i : Int) < 9 := by omega
            have h11 : (i : Int) < 11 := by omega
            have hi11 : i < 11 := by omega
            have h0p : 0 ≤ (p : Int) + 2 := by omega
            have hci : i < cs.length := by omega
            have hget' : cs[i] = .str x := by have hget := hcg i x hx0; rw [List.getElem?_eq_getElem hci] at hget; exact Option.some.inj hget
            have hget := hcg i x hx0
            have w1 : IntKind.i64.wrap ((i : Int) + 1) = i + 1 := wrap_i64 (by omega) (by omega)
            by_cases h2 : p + 2 ≤ s.size
            · have h2' : (p : Int) + 2 ≤ s.size := by omega
              have h2n : ((p : Int) + 2).toNat = p + 2 := by omega
              repeat' (first
 |refine AW_seq_k fun K hK=>?_|refine Step.by1 ?_|refine SBlock_exit_ne (by decide) ?_|refine cz rfl ?_|refine Fork.by2 (fun h=>?_) fun h=>?_
 |((first|refine AW_region_AO ?_|refine AW_region_APx (id:=17) 16 mixed (by decide) ?_);simp [h9, h11, hi11, h0p, hcl, hget, hget', hp2, h2', h2n, h2, w1])
 |(refine Split.by2 (fun h=>?_) (fun h=>?_)<;>(simp [h, h9, h11, hi11, h0p, hcl, hget, hget', hp2, h2', h2n, h2, w1]))
 |(apply hK;clear hK K)|refine AWh (by assumption) ?_)
              all_goals first
                | (exact retq3ct rfl (by simp) (conv_eq (by rw [← hF]; simp [tokV, *]) (by simp)))
                | (refine ⟨by rw [← hF]; simp [*], ?_⟩; apply Weak.mk' <;> simp [hlts])
                | trace_state
            · have h2' : ¬ (p : Int) + 2 ≤ s.size := by omega
              repeat' (first
 |refine AW_seq_k fun K hK=>?_|refine Step.by1 ?_|refine SBlock_exit_ne (by decide) ?_|refine cz rfl ?_|refine Fork.by2 (fun h=>?_) fun h=>?_
 |((first|refine AW_region_AO ?_|refine AW_region_APx (id:=17) 16 mixed (by decide) ?_);simp [h9, h11, hi11, h0p, hcl, hget, hget', hp2, h2', h2, w1])
 |(refine Split.by2 (fun h=>?_) (fun h=>?_)<;>(simp [h, h9, h11, hi11, h0p, hcl, hget, hget', hp2, h2', h2, w1]))
 |(apply hK;clear hK K)|refine AWh (by assumption) ?_)
              all_goals first
                | (refine ⟨by rw [← hF]; simp [*], ?_⟩; apply Weak.mk' <;> simp [hlts])
                | trace_state
          · intro hF
            rw [twoF_nil] at hF
            repeat' (first
 |refine AW_seq_k fun K hK=>?_|refine Step.by1 ?_|refine SBlock_exit_ne (by decide) ?_|refine cz rfl ?_|refine Fork.by2 (fun h=>?_) fun h=>?_
 |(refine AW_region_AO ?_;simp [htl])
 |(refine Split.by2 (fun h=>?_) (fun h=>?_)<;>(simp [h, htl]))
 |(apply hK;clear hK K)|refine AWh (by assumption) ?_)
            generalize hob : (⟨#[44, 59, 46, 123, 125, 40, 41, 33, 60, 62, 63, 43, 45, 42]⟩ : ByteArray) = ob
            have hobs : ob.size = 14 := by rw [← hob]; rfl
            have hon : onesB = ob := hob
            clear hob
            have h14 : (List.range 14).length = 14 := by simp
            refine AW_scan (r := twoF s p twosL) (List.range 14) 11 [0, 1, 4, 10] (oneF s p) hF (by apply Weak.mk' <;> simp [hlts]) ?_ ?_
            · intro i j hj0 hlt3 hj hG
              clear hF
              have hij : j = i := by rw [← hj]; simp
              subst hij
              rw [oneF_cons, hon] at hG
              have h14' : (j : Int) < 14 := by omega
              have hdj : j < ob.data.size := by have : ob.data.size = 14 := hobs; omega
              have hbj : ((ob.data[j]).toNat : Int) = byteS ob j := by simp [byteS, Array.getElem?_eq_getElem hdj]
              have w1 : IntKind.i64.wrap ((j : Int) + 1) = j + 1 := wrap_i64 (by omega) (by omega)
              have hj1 : ((j : Int) + 1).toNat = j + 1 := by omega
              have hj2 : (j : Int) + 1 ≤ 14 := by omega
              have hj3 : 0 ≤ (j : Int) + 1 := by omega
              have hj4 : j ≤ 13 := by omega
              have hbj2 : ((ob.data[j]?.getD 0).toNat : Int) = byteS ob j := by rw [Array.getElem?_eq_getElem hdj]; exact hbj
              rw [hc] at hG
              generalize byteS ob j = bj at *
              repeat' (first
 |refine AW_seq_k fun K hK=>?_|refine Step.by1 ?_|refine SBlock_exit_ne (by decide) ?_|refine cz rfl ?_|refine Fork.by2 (fun h=>?_) fun h=>?_
 |((first|refine AW_region_AO ?_|refine AW_region_APx (id:=23) 7 mixed (by decide) ?_);simp [h14', hobs, hdj, hbj, hbj2, hj3, hj4, hb, hdp, hlt, hlt', hp1, w1, hj1, hj2])
 |(refine Split.by2 (fun h=>?_) (fun h=>?_)<;>(simp [h, h14', hobs, hdj, hbj, hbj2, hj3, hj4, hb, hdp, hlt, hlt', hp1, w1, hj1, hj2]))
 |(apply hK;clear hK K)|refine AWh (by assumption) ?_)
              all_goals first
                | (exact retq3ct rfl (by simp) (conv_eq (by rw [← hG]; simp [tokV, *]) (by simp)))
                | (refine ⟨by rw [← hG]; simp [*], ?_⟩; apply Weak.mk' <;> simp [hlts])
                | trace_state
            · intro hG
              rw [oneF_nil] at hG
              repeat' (first
 |refine AW_seq_k fun K hK=>?_|refine Step.by1 ?_|refine SBlock_exit_ne (by decide) ?_|refine cz rfl ?_|refine Fork.by2 (fun h=>?_) fun h=>?_
 |(refine AW_region_AO ?_;simp [h14, hobs])
 |(refine Split.by2 (fun h=>?_) (fun h=>?_)<;>(simp [h, h14, hobs]))
 |(apply hK;clear hK K)|refine AWh (by assumption) ?_)
              exact retq3ct rfl (by simp) (conv_eq (by rw [← hG]; simp [tokV]) (by simp))
        · exfalso
          have h0 := hlet h.1 h.2.1
          subst h0
          have hl2 := h.2.1
          rw [hc] at hl2
          exact hl hl2
end Go.Proofs.YtgmlimipejcpgaaGreatDoor
end
