/-
  YtgmlimipejcpgaaGreatDoorPart09: steps of the proof of a law of the program: what these texts prove holds under the hypotheses that their theorems name, and no others.
-/
import Derived.Test.YtgmlimipejcpgaaGreatDoorPart08
import Derived.Test.YtgmlimipejcpgaaGreatDoorPart07
section
set_option linter.unusedVariables false
set_option linter.unusedSimpArgs false
namespace Go.Proofs.YtgmlimipejcpgaaGreatDoor
open Go Go.AM Fx
set_option maxRecDepth 8000 in
set_option maxHeartbeats 8000000 in
theorem c_sets (n : NetD) (hz : Small n) : PC 192 [.agg n.cells] (vl SetD.cells (setsL n)) := by
  have hgoal : PC 192 [.agg n.cells] (.own 116 ((setsL n).map SetD.cells)) := by
    refine PCall_body Tryz.func192 rfl (by decide) Tryz.ntmps192 (by simp) Tryz.results192 ?_
    repeat' (first
 |refine AW_nilrow 3 116 rfl (by simp) ?_
 |refine AW_seq_k fun K hK=>?_|refine Step.by1 ?_|refine SBlock_exit_ne (by decide) ?_|refine cz rfl ?_|refine Fork.by2 (fun h=>?_) fun h=>?_
 |(refine AW_region_AO ?_;simp [vl, NetD.cells])
 |(refine Split.by2 (fun h=>?_) (fun h=>?_)<;>(simp [h, vl, NetD.cells]))
 |(apply hK;clear hK K)|refine AWh (by assumption) ?_)
    refine AW_range n.autos 11 [9, 10] (fun c : Nat × List SetD => [(3, .ref 1 c.1 0 c.2.length)]) (fun c => [.var n.cells, .row 116 c.1 0 true (c.2.map SetD.cells)]) (fun i c => c.2.length ≤ i * 4096) (catF setsA) (0, []) (r := setsL n)
      (by simp [catF, setsL]) (by simp) (by apply Weak.mk' <;> simp [vl, NetD.cells]) (fun _ _ _ => rfl) ?_ ?_
    · rintro i ⟨g, out⟩ a _ hlt ha hJ hF
      have hm : a ∈ n.autos := ha ▸ List.getElem_mem hlt
      have b1 := hz.autos
      have b3 := hz.edges a hm
      simp only at hJ hF
      repeat' (first
 |refine AW_seq_k fun K hK=>?_|refine Step.by1 ?_|refine SBlock_exit_ne (by decide) ?_|refine cz rfl ?_|refine Fork.by2 (fun h=>?_) fun h=>?_
 |(refine AW_region_AO ?_;simp [vl, AutoD.cells, NetD.cells, hlt, ha, wrap_i64];try (simp (disch:=omega) only [wrap_i64];try simp [vl, AutoD.cells, NetD.cells, hlt, ha, wrap_i64]))
 |(refine Split.by2 (fun h=>?_) (fun h=>?_)<;>(simp [h, vl, AutoD.cells, NetD.cells, hlt, ha, wrap_i64];try (simp (disch:=omega) only [wrap_i64];try simp [vl, AutoD.cells, NetD.cells, hlt, ha, wrap_i64])))
 |(apply hK;clear hK K)|refine AWh (by assumption) ?_)
      obtain ⟨r2, hr2⟩ : ∃ r2, catF EdgeD.sets a.edges (g, out) = r2 := ⟨_, rfl⟩
      refine AW_range a.edges 18 [9, 10, 11, 16, 17] (fun c : Nat × List SetD => [(3, .ref 1 c.1 0 c.2.length)]) (fun c => [.var n.cells, .row 116 c.1 0 true (c.2.map SetD.cells), .var a.cells]) (fun k c => c.2.length ≤ out.length + k * 16) (catF EdgeD.sets) (g, out) hr2
        (by simp) (by apply Weak.mk' <;> simp [vl, NetD.cells, AutoD.cells]) (fun _ _ _ => rfl) ?_ ?_
      · rintro k ⟨g2, o2⟩ x _ hkt hx hK2 hG
        have b4 := hz.sets a hm x (hx ▸ List.getElem_mem hkt)
        simp only at hK2
        rw [catF_cons (g2 + 1)] at hG
        have htk : (x.sets.map SetD.cells).take x.sets.length = x.sets.map SetD.cells := List.take_of_length_le (by simp)
        have hby : (o2.length + x.sets.length) * 48 ≤ 140737488355328 := by omega
        repeat' (first
 |refine AW_seq_k fun K hK=>?_|refine Step.by1 ?_|refine SBlock_exit_ne (by decide) ?_|refine cz rfl ?_|refine Fork.by2 (fun h=>?_) fun h=>?_
 |(refine AW_region_AO ?_;simp [vl, AutoD.cells, EdgeD.cells, NetD.cells, hkt, hx, htk, hby, wrap_i64];try (simp (disch:=omega) only [wrap_i64];try simp [vl, AutoD.cells, EdgeD.cells, NetD.cells, hkt, hx, htk, hby, wrap_i64]))
 |(refine Split.by2 (fun h=>?_) (fun h=>?_)<;>(simp [h, vl, AutoD.cells, EdgeD.cells, NetD.cells, hkt, hx, htk, hby, wrap_i64];try (simp (disch:=omega) only [wrap_i64];try simp [vl, AutoD.cells, EdgeD.cells, NetD.cells, hkt, hx, htk, hby, wrap_i64])))
 |(apply hK;clear hK K)|refine AWh (by assumption) ?_)
        exact ⟨g2 + 1, o2 ++ x.sets, hG, by simp; omega, by apply Weak.mk' <;> simp [vl, NetD.cells, AutoD.cells]⟩
      · rintro ⟨g2, o2⟩ hK2 hG
        rw [catF_nil] at hG
        simp only at hK2 hG
        subst hG
        simp only [catF] at hr2
        rw [catF_cons g2] at hF
        have ho : out ++ setsA a = o2 := by rw [← hr2]; simp [setsA]
        simp only at hF
        rw [ho] at hF
        repeat' (first
 |refine AW_seq_k fun K hK=>?_|refine Step.by1 ?_|refine SBlock_exit_ne (by decide) ?_|refine cz rfl ?_|refine Fork.by2 (fun h=>?_) fun h=>?_
 |(refine AW_region_AO ?_;simp [vl, AutoD.cells, NetD.cells, wrap_i64];try (simp (disch:=omega) only [wrap_i64];try simp [vl, AutoD.cells, NetD.cells, wrap_i64]))
 |(refine Split.by2 (fun h=>?_) (fun h=>?_)<;>(simp [h, vl, AutoD.cells, NetD.cells, wrap_i64];try (simp (disch:=omega) only [wrap_i64];try simp [vl, AutoD.cells, NetD.cells, wrap_i64])))
 |(apply hK;clear hK K)|refine AWh (by assumption) ?_)
        exact ⟨g2, o2, hF, by omega, by apply Weak.mk' <;> simp [vl, NetD.cells]⟩
    · rintro ⟨g, out⟩ hJ hF
      rw [catF_nil] at hF
      simp only at hF
      subst hF
      repeat' (first
 |refine AW_seq_k fun K hK=>?_|refine Step.by1 ?_|refine SBlock_exit_ne (by decide) ?_|refine cz rfl ?_|refine Fork.by2 (fun h=>?_) fun h=>?_
 |(refine AW_region_AO ?_;simp [vl, NetD.cells])
 |(refine Split.by2 (fun h=>?_) (fun h=>?_)<;>(simp [h, vl, NetD.cells]))
 |(apply hK;clear hK K)|refine AWh (by assumption) ?_)
      exact retq1 (.inr (.inl (conv1_own rfl (by simp))))
  have := hgoal.freeze
  simpa [vl] using this
def locNamesL (a : AutoD) : List ByteArray := a.locs.map (·.name)
set_option maxHeartbeats 8000000 in
theorem c_locNames (a : AutoD) (ha : a.locs.length ≤ 1048576) : PC 189 [.agg a.cells] (vl (fun s => [V.str s]) (locNamesL a)) := by
  have hgoal : PC 189 [.agg a.cells] (.own 9 ((locNamesL a).map fun s => [V.str s])) := by
    refine PCall_body Tryz.func189 rfl (by decide) Tryz.ntmps189 (by simp) Tryz.results189 ?_
    repeat' (first
 |refine AW_nilrow 3 9 rfl (by simp) ?_
 |refine AW_seq_k fun K hK=>?_|refine Step.by1 ?_|refine SBlock_exit_ne (by decide) ?_|refine cz rfl ?_|refine Fork.by2 (fun h=>?_) fun h=>?_
 |(refine AW_region_AO ?_;simp [vl, AutoD.cells])
 |(refine Split.by2 (fun h=>?_) (fun h=>?_)<;>(simp [h, vl, AutoD.cells]))
 |(apply hK;clear hK K)|refine AWh (by assumption) ?_)
    refine AW_range a.locs 9 [7, 8] (fun c : Nat × List ByteArray => [(3, .ref 1 c.1 0 c.2.length)]) (fun c => [.var a.cells, .row 9 c.1 0 true (c.2.map fun s => [V.str s])]) (fun i c => c.2.length = i) (catF fun x : LocD => [x.name]) (0, []) (r := locNamesL a)
      (by simp [catF, locNamesL, List.flatMap_singleton']; try exact (List.map_eq_flatMap ..).symm) (by simp) (by apply Weak.mk' <;> simp [vl, AutoD.cells]) (fun _ _ _ => rfl) ?_ ?_
    · rintro i ⟨g, out⟩ x _ hlt hx hJ hF
      simp only at hJ
      rw [catF_cons (g + 1)] at hF
      have hby : (out.length + 1) * 16 ≤ 140737488355328 := by omega
      repeat' (first
 |refine AW_seq_k fun K hK=>?_|refine Step.by1 ?_|refine SBlock_exit_ne (by decide) ?_|refine cz rfl ?_|refine Fork.by2 (fun h=>?_) fun h=>?_
 |(refine AW_region_AO ?_;simp [vl, AutoD.cells, LocD.cells, hlt, hx, hby, wrap_i64];try (simp (disch:=omega) only [wrap_i64];try simp [vl, AutoD.cells, LocD.cells, hlt, hx, hby, wrap_i64]))
 |(refine Split.by2 (fun h=>?_) (fun h=>?_)<;>(simp [h, vl, AutoD.cells, LocD.cells, hlt, hx, hby, wrap_i64];try (simp (disch:=omega) only [wrap_i64];try simp [vl, AutoD.cells, LocD.cells, hlt, hx, hby, wrap_i64])))
 |(apply hK;clear hK K)|refine AWh (by assumption) ?_)
      exact ⟨g + 1, out ++ [x.name], hF, by simp; omega, by apply Weak.mk' <;> simp [vl, AutoD.cells]⟩
    · rintro ⟨g, out⟩ hJ hF
      rw [catF_nil] at hF
      simp only at hF
      subst hF
      repeat' (first
 |refine AW_seq_k fun K hK=>?_|refine Step.by1 ?_|refine SBlock_exit_ne (by decide) ?_|refine cz rfl ?_|refine Fork.by2 (fun h=>?_) fun h=>?_
 |(refine AW_region_AO ?_;simp [vl, AutoD.cells])
 |(refine Split.by2 (fun h=>?_) (fun h=>?_)<;>(simp [h, vl, AutoD.cells]))
 |(apply hK;clear hK K)|refine AWh (by assumption) ?_)
      exact retq1 (.inr (.inl (conv1_own rfl (by simp))))
  have := hgoal.freeze
  simpa [vl] using this
def namesL (n : NetD) : List ByteArray := n.vars.map (·.name)
set_option maxHeartbeats 8000000 in
theorem c_Names (n : NetD) (ha : n.vars.length ≤ 1048576) : PC 218 [.agg n.cells] (vl (fun s => [V.str s]) (namesL n)) := by
  have hgoal : PC 218 [.agg n.cells] (.own 9 ((namesL n).map fun s => [V.str s])) := by
    refine PCall_body Tryz.func218 rfl (by decide) Tryz.ntmps218 (by simp) Tryz.results218 ?_
    repeat' (first
 |refine AW_nilrow 3 9 rfl (by simp) ?_
 |refine AW_seq_k fun K hK=>?_|refine Step.by1 ?_|refine SBlock_exit_ne (by decide) ?_|refine cz rfl ?_|refine Fork.by2 (fun h=>?_) fun h=>?_
 |(refine AW_region_AO ?_;simp [vl, NetD.cells])
 |(refine Split.by2 (fun h=>?_) (fun h=>?_)<;>(simp [h, vl, NetD.cells]))
 |(apply hK;clear hK K)|refine AWh (by assumption) ?_)
    refine AW_range n.vars 9 [7, 8] (fun c : Nat × List ByteArray => [(3, .ref 1 c.1 0 c.2.length)]) (fun c => [.var n.cells, .row 9 c.1 0 true (c.2.map fun s => [V.str s])]) (fun i c => c.2.length = i) (catF fun x : VarD => [x.name]) (0, []) (r := namesL n)
      (by simp [catF, namesL, List.flatMap_singleton']; try exact (List.map_eq_flatMap ..).symm) (by simp) (by apply Weak.mk' <;> simp [vl, NetD.cells]) (fun _ _ _ => rfl) ?_ ?_
    · rintro i ⟨g, out⟩ x _ hlt hx hJ hF
      simp only at hJ
      rw [catF_cons (g + 1)] at hF
      have hby : (out.length + 1) * 16 ≤ 140737488355328 := by omega
      repeat' (first
 |refine AW_seq_k fun K hK=>?_|refine Step.by1 ?_|refine SBlock_exit_ne (by decide) ?_|refine cz rfl ?_|refine Fork.by2 (fun h=>?_) fun h=>?_
 |(refine AW_region_AO ?_;simp [vl, NetD.cells, VarD.cells, hlt, hx, hby, wrap_i64];try (simp (disch:=omega) only [wrap_i64];try simp [vl, NetD.cells, VarD.cells, hlt, hx, hby, wrap_i64]))
 |(refine Split.by2 (fun h=>?_) (fun h=>?_)<;>(simp [h, vl, NetD.cells, VarD.cells, hlt, hx, hby, wrap_i64];try (simp (disch:=omega) only [wrap_i64];try simp [vl, NetD.cells, VarD.cells, hlt, hx, hby, wrap_i64])))
 |(apply hK;clear hK K)|refine AWh (by assumption) ?_)
      exact ⟨g + 1, out ++ [x.name], hF, by simp; omega, by apply Weak.mk' <;> simp [vl, NetD.cells]⟩
    · rintro ⟨g, out⟩ hJ hF
      rw [catF_nil] at hF
      simp only at hF
      subst hF
      repeat' (first
 |refine AW_seq_k fun K hK=>?_|refine Step.by1 ?_|refine SBlock_exit_ne (by decide) ?_|refine cz rfl ?_|refine Fork.by2 (fun h=>?_) fun h=>?_
 |(refine AW_region_AO ?_;simp [vl, NetD.cells])
 |(refine Split.by2 (fun h=>?_) (fun h=>?_)<;>(simp [h, vl, NetD.cells]))
 |(apply hK;clear hK K)|refine AWh (by assumption) ?_)
      exact retq1 (.inr (.inl (conv1_own rfl (by simp))))
  have := hgoal.freeze
  simpa [vl] using this
end Go.Proofs.YtgmlimipejcpgaaGreatDoor
end

section
set_option linter.unusedVariables false
set_option linter.unusedSimpArgs false
namespace Go.Proofs.YtgmlimipejcpgaaGreatDoor
open Go Go.AM Fx
theorem flat_len {α β : Type} {f : α → List β} {c : Nat} : ∀ {l : List α}, (∀ x ∈ l, (f x).length ≤ c) → (l.flatMap f).length ≤ l.length * c
  | [], _ => by simp
  | x :: r, h => by
    have h1 := h x (.head _)
    have h2 := flat_len (f := f) (c := c) (l := r) fun y hy => h y (.tail _ hy)
    simp only [List.flatMap_cons, List.length_append, List.length_cons, Nat.add_mul, Nat.one_mul]; omega
theorem guardsA_len {n : NetD} (hz : Small n) {a : AutoD} (ha : a ∈ n.autos) : (guardsA a).length ≤ 5120 := by
  have h1 := flat_len (f := fun x : LocD => x.inv) (c := 16) (hz.inv a ha)
  have h2 := flat_len (f := fun x : EdgeD => x.guards) (c := 16) (hz.guards a ha)
  have h3 := hz.locs a ha
  have h4 := hz.edges a ha
  unfold guardsA; rw [List.length_append]; omega
theorem guardsL_len {n : NetD} (hz : Small n) : (guardsL n).length ≤ 40960 := by
  have h1 := flat_len (f := guardsA) (c := 5120) (fun a ha => guardsA_len hz ha)
  have := hz.autos
  unfold guardsL; omega
theorem setsL_len {n : NetD} (hz : Small n) : (setsL n).length ≤ 32768 := by
  have h1 := flat_len (l := n.autos) (f := setsA) (c := 4096) (fun a ha => by
    have h2 := flat_len (f := fun x : EdgeD => x.sets) (c := 16) (hz.sets a ha)
    have h4 := hz.edges a ha
    unfold setsA; omega)
  have := hz.autos
  unfold setsL; omega
def clkS (n : NetD) (s : SetD) : Bool := decide (s.clock ≠ 0) && !isClk n s.clock
def clocksE (n : NetD) : Int := if clkE n (guardsL n) ≠ 0 then clkE n (guardsL n) else if anyL (clkS n) (setsL n) = true then 12 else 0
set_option maxRecDepth 8000 in
set_option maxHeartbeats 8000000 in
theorem c_clocks (n : NetD) (hz : Small n) : PC 134 [.agg n.cells] (.int .i64 (clocksE n)) := by
  have hg := c_guards n hz
  have hs := c_sets n hz
  have hk := c_clkE n (guardsL n) (by have := guardsL_len hz; omega)
  have hsl := setsL_len hz
  by_cases h0 : clkE n (guardsL n) = 0
  · have hr : clocksE n = if anyL (clkS n) (setsL n) = true then 12 else 0 := by simp [clocksE, h0]
    rw [hr]
    rw [h0] at hk
    obtain ⟨E, hE⟩ : ∃ E : List SetD → Int, E = fun l => if anyL (clkS n) l = true then 12 else 0 := ⟨_, rfl⟩
    have hEc : ∀ a l, E (a :: l) = if clkS n a = true then 12 else E l := fun a l => by subst hE; by_cases h : clkS n a = true <;> simp [anyL_cons, h]
    have hEn : (if anyL (clkS n) (setsL n) = true then (12 : Int) else 0) = E (setsL n) := by subst hE; rfl
    have hE0 : E [] = 0 := by subst hE; rfl
    rw [hEn]
    generalize setsL n = ss at *
    generalize guardsL n = gs at *
    simp only [NetD.cells, vl] at hg hs hk
    refine PCall_body Tryz.func134 rfl (by decide) Tryz.ntmps134 (by simp) Tryz.results134 ?_
    repeat' (first
 |refine AW_seq_k fun K hK=>?_|refine Step.by1 ?_|refine SBlock_exit_ne (by decide) ?_|refine cz rfl ?_|refine Fork.by2 (fun h=>?_) fun h=>?_
 |((first|refine AW_region_AO ?_|refine AW_region_APx (id:=1) 5 mixed (by decide) ?_|refine AS_call1 (f:=191) rfl rfl (hg) rfl rfl rfl ?_|refine AP_call1 (f:=191) rfl rfl (hg) rfl rfl rfl ?_|refine AP_call1 (f:=148) rfl rfl (hk) rfl rfl rfl ?_|refine AS_call1 (f:=148) rfl rfl (hk) rfl rfl rfl ?_|refine AS_call1 (f:=192) rfl rfl (hs) rfl rfl rfl ?_);simp [vl, NetD.cells])
 |(refine Split.by2 (fun h=>?_) (fun h=>?_)<;>(simp [h, vl, NetD.cells]))
 |(apply hK;clear hK K)|refine AWh (by assumption) ?_)
    refine AW_scan (ss) 16 [1, 14, 15] (E) rfl (by apply Weak.mk' <;> simp [vl]) ?_ ?_
    · intro i x _ hlt hx hF
      rw [hEc] at hF
      have hc1 := c_isClock n x.clock
      simp only [NetD.cells, vl] at hc1
      generalize hk1 : isClk n x.clock = k1 at hc1
      repeat' (first
 |refine AW_seq_k fun K hK=>?_|refine Step.by1 ?_|refine SBlock_exit_ne (by decide) ?_|refine cz rfl ?_|refine Fork.by2 (fun h=>?_) fun h=>?_
 |((first|refine AW_region_AO ?_|refine AS_call1 (f:=193) rfl rfl (hc1) rfl rfl rfl ?_);simp [vl, SetD.cells, NetD.cells, hlt, hx, wrap_i64];try (simp (disch:=omega) only [wrap_i64];try simp [vl, SetD.cells, NetD.cells, hlt, hx, wrap_i64]))
 |(refine Split.by2 (fun h=>?_) (fun h=>?_)<;>(simp [h, vl, SetD.cells, NetD.cells, hlt, hx, wrap_i64];try (simp (disch:=omega) only [wrap_i64];try simp [vl, SetD.cells, NetD.cells, hlt, hx, wrap_i64])))
 |(apply hK;clear hK K)|refine AWh (by assumption) ?_)
      all_goals first
        | exact retq1 (conv_eq (by rw [← hF]; simp [clkS, *]) rfl)
        | (refine ⟨by rw [← hF]; simp [clkS, *], ?_⟩; apply Weak.mk' <;> simp [vl, NetD.cells])
        | trace_state
    · intro hF
      repeat' (first
 |refine AW_seq_k fun K hK=>?_|refine Step.by1 ?_|refine SBlock_exit_ne (by decide) ?_|refine cz rfl ?_|refine Fork.by2 (fun h=>?_) fun h=>?_
 |(refine AW_region_AO ?_;simp [vl, NetD.cells])
 |(refine Split.by2 (fun h=>?_) (fun h=>?_)<;>(simp [h, vl, NetD.cells]))
 |(apply hK;clear hK K)|refine AWh (by assumption) ?_)
      exact retq1 (conv_eq (by rw [← hF, hE0]; simp) rfl)
  · have hr : clocksE n = clkE n (guardsL n) := by simp [clocksE, h0]
    rw [hr]
    generalize clkE n (guardsL n) = k at *
    generalize guardsL n = gs at *
    simp only [NetD.cells, vl] at hg hk
    refine PCall_body Tryz.func134 rfl (by decide) Tryz.ntmps134 (by simp) Tryz.results134 ?_
    repeat' (first
 |refine AW_seq_k fun K hK=>?_|refine Step.by1 ?_|refine SBlock_exit_ne (by decide) ?_|refine cz rfl ?_|refine Fork.by2 (fun h=>?_) fun h=>?_
 |((first|refine AW_region_AO ?_|refine AW_region_APx (id:=1) 5 mixed (by decide) ?_|refine AS_call1 (f:=191) rfl rfl (hg) rfl rfl rfl ?_|refine AP_call1 (f:=191) rfl rfl (hg) rfl rfl rfl ?_|refine AP_call1 (f:=148) rfl rfl (hk) rfl rfl rfl ?_|refine AS_call1 (f:=148) rfl rfl (hk) rfl rfl rfl ?_);simp [vl, NetD.cells, h0])
 |(refine Split.by2 (fun h=>?_) (fun h=>?_)<;>(simp [h, vl, NetD.cells, h0]))
 |(apply hK;clear hK K)|refine AWh (by assumption) ?_)
    exact retq1 (conv_eq rfl rfl)
def formS (s : SetD) : Bool := decide (s.clock = 0 ∧ s.n ≠ 0 ∨ s.clock ≠ 0 ∧ (s.var ≠ 0 ∨ 0 < s.expr.length))
def formsE (n : NetD) : Int := if cmpE (guardsL n) ≠ 0 then cmpE (guardsL n) else if anyL formS (setsL n) = true then 7 else 0
set_option maxRecDepth 8000 in
set_option maxHeartbeats 8000000 in
theorem c_forms (n : NetD) (hz : Small n) : PC 135 [.agg n.cells] (.int .i64 (formsE n)) := by
  have hg := c_guards n hz
  have hs := c_sets n hz
  have hk := c_cmpE (guardsL n) (by have := guardsL_len hz; omega)
  have hsl := setsL_len hz
  by_cases h0 : cmpE (guardsL n) = 0
  · have hr : formsE n = if anyL formS (setsL n) = true then 7 else 0 := by simp [formsE, h0]
    rw [hr]
    rw [h0] at hk
    obtain ⟨E, hE⟩ : ∃ E : List SetD → Int, E = fun l => if anyL formS l = true then 7 else 0 := ⟨_, rfl⟩
    have hEc : ∀ a l, E (a :: l) = if formS a = true then 7 else E l := fun a l => by subst hE; by_cases h : formS a = true <;> simp [anyL_cons, h]
    have hEn : (if anyL formS (setsL n) = true then (7 : Int) else 0) = E (setsL n) := by subst hE; rfl
    have hE0 : E [] = 0 := by subst hE; rfl
    rw [hEn]
    generalize setsL n = ss at *
    generalize guardsL n = gs at *
    simp only [NetD.cells, vl] at hg hs hk
    refine PCall_body Tryz.func135 rfl (by decide) Tryz.ntmps135 (by simp) Tryz.results135 ?_
    repeat' (first
 |refine AW_seq_k fun K hK=>?_|refine Step.by1 ?_|refine SBlock_exit_ne (by decide) ?_|refine cz rfl ?_|refine Fork.by2 (fun h=>?_) fun h=>?_
 |((first|refine AW_region_AO ?_|refine AS_call1 (f:=191) rfl rfl (hg) rfl rfl rfl ?_|refine AS_call1 (f:=150) rfl rfl (hk) rfl rfl rfl ?_|refine AS_call1 (f:=192) rfl rfl (hs) rfl rfl rfl ?_);simp [vl, NetD.cells])
 |(refine Split.by2 (fun h=>?_) (fun h=>?_)<;>(simp [h, vl, NetD.cells]))
 |(apply hK;clear hK K)|refine AWh (by assumption) ?_)
    refine AW_scan (ss) 15 [13, 14] (E) rfl (by apply Weak.mk' <;> simp [vl]) ?_ ?_
    · intro i x _ hlt hx hF
      rw [hEc] at hF
      repeat' (first
 |refine AW_seq_k fun K hK=>?_|refine Step.by1 ?_|refine SBlock_exit_ne (by decide) ?_|refine cz rfl ?_|refine Fork.by2 (fun h=>?_) fun h=>?_
 |(refine AW_region_AO ?_;simp [vl, SetD.cells, NetD.cells, hlt, hx, wrap_i64];try (simp (disch:=omega) only [wrap_i64];try simp [vl, SetD.cells, NetD.cells, hlt, hx, wrap_i64]))
 |(refine Split.by2 (fun h=>?_) (fun h=>?_)<;>(simp [h, vl, SetD.cells, NetD.cells, hlt, hx, wrap_i64];try (simp (disch:=omega) only [wrap_i64];try simp [vl, SetD.cells, NetD.cells, hlt, hx, wrap_i64])))
 |(apply hK;clear hK K)|refine AWh (by assumption) ?_)
      all_goals first
        | exact retq1 (conv_eq (by rw [← hF]; simp [formS, *]) rfl)
        | exact retq1 (conv_eq (by rw [← hF]; simp [formS, *]; omega) rfl)
        | (refine ⟨by rw [← hF]; simp [formS, *]; done, ?_⟩; apply Weak.mk' <;> simp [vl, NetD.cells])
        | (refine ⟨by rw [← hF]; simp [formS, *]; omega, ?_⟩; apply Weak.mk' <;> simp [vl, NetD.cells])
        | trace_state
    · intro hF
      repeat' (first
 |refine AW_seq_k fun K hK=>?_|refine Step.by1 ?_|refine SBlock_exit_ne (by decide) ?_|refine cz rfl ?_|refine Fork.by2 (fun h=>?_) fun h=>?_
 |(refine AW_region_AO ?_;simp [vl, NetD.cells])
 |(refine Split.by2 (fun h=>?_) (fun h=>?_)<;>(simp [h, vl, NetD.cells]))
 |(apply hK;clear hK K)|refine AWh (by assumption) ?_)
      exact retq1 (conv_eq (by rw [← hF, hE0]; simp) rfl)
  · have hr : formsE n = cmpE (guardsL n) := by simp [formsE, h0]
    rw [hr]
    generalize cmpE (guardsL n) = k at *
    generalize guardsL n = gs at *
    simp only [NetD.cells, vl] at hg hk
    refine PCall_body Tryz.func135 rfl (by decide) Tryz.ntmps135 (by simp) Tryz.results135 ?_
    repeat' (first
 |refine AW_seq_k fun K hK=>?_|refine Step.by1 ?_|refine SBlock_exit_ne (by decide) ?_|refine cz rfl ?_|refine Fork.by2 (fun h=>?_) fun h=>?_
 |((first|refine AW_region_AO ?_|refine AS_call1 (f:=191) rfl rfl (hg) rfl rfl rfl ?_|refine AS_call1 (f:=150) rfl rfl (hk) rfl rfl rfl ?_);simp [vl, NetD.cells, h0])
 |(refine Split.by2 (fun h=>?_) (fun h=>?_)<;>(simp [h, vl, NetD.cells, h0]))
 |(apply hK;clear hK K)|refine AWh (by assumption) ?_)
    exact retq1 (conv_eq rfl rfl)
end Go.Proofs.YtgmlimipejcpgaaGreatDoor
end

section
set_option linter.unusedVariables false
set_option linter.unusedSimpArgs false
namespace Go.Proofs.YtgmlimipejcpgaaGreatDoor
open Go Go.AM Fx
def isLoc (a : AutoD) (c : Int) : Bool := decide (0 ≤ c ∧ c < a.locs.length)
theorem c_edgesIs (a : AutoD) (c : Int) (hp : List B) (b : Nat) (hb : hp[b]? = some (.var a.cells)) : GCall Tryz.prog GV 190 [.int .i64 c, .ptr b 0] hp (fun v h' => v = .bool (isLoc a c) ∧ h' = hp) := by
  simp only [AutoD.cells, vl] at hb
  refine GCall_body Tryz.func190 rfl (by decide) Tryz.ntmps190 (by simp) Tryz.results190 ?_
  repeat' (first
 |refine AW_seq_k fun K hK=>?_|refine Step.by1 ?_|refine SBlock_exit_ne (by decide) ?_|refine cz rfl ?_|refine Fork.by2 (fun h=>?_) fun h=>?_
 |(refine AW_region_AO ?_;simp [hb])
 |(refine Split.by2 (fun h=>?_) (fun h=>?_)<;>(simp [h, hb]))
 |(apply hK;clear hK K)|refine AWh (by assumption) ?_)
  all_goals first
    | exact retg1 (h' := hp) ⟨by simp [isLoc, *], rfl⟩ rfl Leaves.refl
    | trace_state
def edgeB (n : NetD) (a : AutoD) (e : EdgeD) : Bool := !isLoc a e.frm || (!isLoc a e.to || (decide (e.chan < 0 ∨ n.chans.length < e.chan) || (e.send && decide (e.chan = 0))))
def edgesE (n : NetD) (l : List AutoD) : Int := if anyL (fun a => anyL (edgeB n a) a.edges) l then 123 else 0
theorem edgesE_cons {n : NetD} {a : AutoD} {l : List AutoD} : edgesE n (a :: l) = if anyL (edgeB n a) a.edges = true then 123 else edgesE n l := by
  by_cases h : anyL (edgeB n a) a.edges = true <;> simp [edgesE, anyL_cons, h]
set_option maxRecDepth 8000 in
set_option maxHeartbeats 8000000 in
theorem c_edges (n : NetD) (hn : n.ok) : PC 133 [.agg n.cells] (.int .i64 (edgesE n n.autos)) := by
  obtain ⟨⟨h1, _⟩, ⟨h2, _⟩, ⟨h3, _⟩, h4, h5⟩ := hn
  refine PCall_body Tryz.func133 rfl (by decide) Tryz.ntmps133 (by simp) Tryz.results133 ?_
  repeat' (first
 |refine AW_seq_k fun K hK=>?_|refine Step.by1 ?_|refine SBlock_exit_ne (by decide) ?_|refine cz rfl ?_|refine Fork.by2 (fun h=>?_) fun h=>?_
 |(refine AW_region_AO ?_;simp [vl, NetD.cells])
 |(refine Split.by2 (fun h=>?_) (fun h=>?_)<;>(simp [h, vl, NetD.cells]))
 |(apply hK;clear hK K)|refine AWh (by assumption) ?_)
  refine AW_scan (n.autos) 11 [1, 9, 10] (edgesE n) rfl (by apply Weak.mk' <;> simp [vl]) ?_ ?_
  · intro i a _ hlt ha hF
    have hoa := h5 a (ha ▸ List.getElem_mem hlt)
    obtain ⟨_, ⟨hl1, hl2⟩, he1, he2⟩ := hoa
    rw [edgesE_cons] at hF
    repeat' (first
 |refine AW_seq_k fun K hK=>?_|refine Step.by1 ?_|refine SBlock_exit_ne (by decide) ?_|refine cz rfl ?_|refine Fork.by2 (fun h=>?_) fun h=>?_
 |(refine AW_region_AO ?_;simp [vl, AutoD.cells, hlt, ha, wrap_i64];try (simp (disch:=omega) only [wrap_i64];try simp [vl, AutoD.cells, hlt, ha, wrap_i64]))
 |(refine Split.by2 (fun h=>?_) (fun h=>?_)<;>(simp [h, vl, AutoD.cells, hlt, ha, wrap_i64];try (simp (disch:=omega) only [wrap_i64];try simp [vl, AutoD.cells, hlt, ha, wrap_i64])))
 |(apply hK;clear hK K)|refine AWh (by assumption) ?_)
    refine AW_scan (a.edges) 19 [1, 5, 9, 10, 11, 17, 18] (anyL (edgeB n a)) rfl (by apply Weak.mk' <;> simp [vl]) ?_ ?_
    · intro m y _ hmt hy hM
      rw [anyL_cons] at hM
      have hg1 := c_edgesIs a y.frm
      have hg2 := c_edgesIs a y.to
      simp only [AutoD.cells, vl] at hg1 hg2
      generalize hk1 : isLoc a y.frm = k1 at hg1
      generalize hk2 : isLoc a y.to = k2 at hg2
      repeat' (first
 |refine AW_seq_k fun K hK=>?_|refine Step.by1 ?_|refine SBlock_exit_ne (by decide) ?_|refine cz rfl ?_|refine Fork.by2 (fun h=>?_) fun h=>?_
 |(refine AW_region_AO ?_;simp [vl, EdgeD.cells, hmt, hy, wrap_i64];try (simp (disch:=omega) only [wrap_i64];try simp [vl, EdgeD.cells, hmt, hy, wrap_i64]))
 |(refine Split.by2 (fun h=>?_) (fun h=>?_)<;>(simp [h, vl, EdgeD.cells, hmt, hy, wrap_i64];try (simp (disch:=omega) only [wrap_i64];try simp [vl, EdgeD.cells, hmt, hy, wrap_i64])))
 |(refine AS_callG (f := 190) rfl rfl (hg1 _ 1 rfl) rfl (fun v h' hq => ?_); obtain ⟨rfl, rfl⟩ := hq; simp [vl])
 |(refine AS_callG (f := 190) rfl rfl (hg2 _ 1 rfl) rfl (fun v h' hq => ?_); obtain ⟨rfl, rfl⟩ := hq; simp [vl])
 |(apply hK;clear hK K)|refine AWh (by assumption) ?_)
      all_goals first
        | exact retq1 (conv_eq (by rw [← hF, ← hM]; simp [edgeB, *]) rfl)
        | (refine ⟨by rw [← hM]; simp [edgeB, *]; done, ?_⟩; apply Weak.mk' <;> simp [vl, AutoD.cells])
        | (refine ⟨by rw [← hM]; simp [edgeB, *]; omega, ?_⟩; apply Weak.mk' <;> simp [vl, AutoD.cells])
        | trace_state
    · intro hM
      rw [← hM, anyL_nil] at hF
      repeat' (first
 |refine AW_seq_k fun K hK=>?_|refine Step.by1 ?_|refine SBlock_exit_ne (by decide) ?_|refine cz rfl ?_|refine Fork.by2 (fun h=>?_) fun h=>?_
 |(refine AW_region_AO ?_;simp [vl, wrap_i64];try (simp (disch:=omega) only [wrap_i64];try simp [vl, wrap_i64]))
 |(refine Split.by2 (fun h=>?_) (fun h=>?_)<;>(simp [h, vl, wrap_i64];try (simp (disch:=omega) only [wrap_i64];try simp [vl, wrap_i64])))
 |(apply hK;clear hK K)|refine AWh (by assumption) ?_)
      all_goals first
        | (refine ⟨by simpa using hF, ?_⟩; apply Weak.mk' <;> simp [vl])
        | trace_state
  · intro hF
    repeat' (first
 |refine AW_seq_k fun K hK=>?_|refine Step.by1 ?_|refine SBlock_exit_ne (by decide) ?_|refine cz rfl ?_|refine Fork.by2 (fun h=>?_) fun h=>?_
 |(refine AW_region_AO ?_;simp [vl])
 |(refine Split.by2 (fun h=>?_) (fun h=>?_)<;>(simp [h, vl]))
 |(apply hK;clear hK K)|refine AWh (by assumption) ?_)
    exact retq1 (conv_eq (by rw [← hF]; simp [edgesE, anyL_nil]) rfl)
end Go.Proofs.YtgmlimipejcpgaaGreatDoor
end

section
set_option linter.unusedVariables false
set_option linter.unusedSimpArgs false
namespace Go.Proofs.YtgmlimipejcpgaaGreatDoor
open Go Go.AM Fx
end Go.Proofs.YtgmlimipejcpgaaGreatDoor
end

section
set_option linter.unusedVariables false
set_option linter.unusedSimpArgs false
namespace Go.Proofs.YtgmlimipejcpgaaGreatDoor
open Go Go.AM Fx
def kindT : Nat → Int × Bool × Bool × ByteArray × Int
  | 0 => (0, false, false, ⟨#[]⟩, 0)
  | 1 => (0, false, false, ⟨#[]⟩, 9)
  | 2 => (0, false, false, ⟨#[]⟩, 9)
  | 3 => (1, false, false, ⟨#[45]⟩, 6)
  | 4 => (2, false, false, ⟨#[43]⟩, 4)
  | 5 => (2, false, false, ⟨#[45]⟩, 4)
  | 6 => (2, false, false, ⟨#[42]⟩, 5)
  | 7 => (0, true, false, ⟨#[116, 114, 117, 101]⟩, 9)
  | 8 => (2, true, false, ⟨#[60]⟩, 3)
  | 9 => (2, true, false, ⟨#[60, 61]⟩, 3)
  | 10 => (2, true, false, ⟨#[61, 61]⟩, 3)
  | 11 => (2, true, false, ⟨#[33, 61]⟩, 3)
  | 12 => (1, true, true, ⟨#[33]⟩, 9)
  | 13 => (2, true, true, ⟨#[38, 38]⟩, 2)
  | 14 => (2, true, true, ⟨#[124, 124]⟩, 1)
  | _ => (0, false, false, ⟨#[]⟩, 0)
def known (o : Int) : Bool := decide (1 ≤ o ∧ o ≤ 14)
def kindO (o : Int) : Int × Bool × Bool × ByteArray × Int := if known o = true then kindT o.toNat else (0, false, false, ⟨#[]⟩, 0)
def kparts (o : Int) : Int := (kindO o).1
def ktruth (o : Int) : Bool := (kindO o).2.1
def ktakes (o : Int) : Bool := (kindO o).2.2.1
def ksign (o : Int) : ByteArray := (kindO o).2.2.2.1
def kbinds (o : Int) : Int := (kindO o).2.2.2.2
def kcells (o : Int) : List V := [.int .i64 (kparts o), .bool (ktruth o), .bool (ktakes o), .str (ksign o), .int .i64 (kbinds o)]
theorem kinds_at : ∀ j : Nat, 1 ≤ j → j ≤ 14 → (kindsV.drop (j * 5)).take 5 = kcells j := by
  intro j h1 h2
  match j, h1, h2 with
  | 1, _, _ => rfl
  | 2, _, _ => rfl
  | 3, _, _ => rfl
  | 4, _, _ => rfl
  | 5, _, _ => rfl
  | 6, _, _ => rfl
  | 7, _, _ => rfl
  | 8, _, _ => rfl
  | 9, _, _ => rfl
  | 10, _, _ => rfl
  | 11, _, _ => rfl
  | 12, _, _ => rfl
  | 13, _, _ => rfl
  | 14, _, _ => rfl
  | j + 15, _, h => omega
set_option maxRecDepth 8000 in
theorem c_of (o : Int) (ho : 0 ≤ o ∧ o ≤ 255) : PC 220 [.int .u8 o] (.tup [.agg (kcells o), .bool (known o)]) := by
  by_cases hk : 1 ≤ o ∧ o ≤ 14
  · obtain ⟨j, rfl⟩ := Int.eq_ofNat_of_zero_le ho.1
    have hat := kinds_at j (by omega) (by omega)
    have k1 : ¬ (j : Int) < 1 := by omega
    have k2 : ¬ (14 : Int) < j := by omega
    have k3 : (j : Int) < 15 := by omega
    have k4 : j * 5 + 5 ≤ 75 := by omega
    have hlen : kindsV.length = 75 := rfl
    have hkn : known (j : Int) = true := by simp [known]; omega
    have hkl : (kcells (j : Int)).length = 5 := rfl
    have k5 : min 5 (75 - j * 5) = 5 := by omega
    rw [hkn]
    refine PCall_body Tryz.func220 rfl (by decide) Tryz.ntmps220 (by simp) Tryz.results220 ?_
    repeat' (first
 |refine AW_seq_k fun K hK=>?_|refine Step.by1 ?_|refine SBlock_exit_ne (by decide) ?_|refine cz rfl ?_|refine Fork.by2 (fun h=>?_) fun h=>?_
 |(refine AW_region_AO ?_;simp [k1, k2, k3, k4, hlen, k5, hat, hkl])
 |(refine Split.by2 (fun h=>?_) (fun h=>?_)<;>(simp [h, k1, k2, k3, k4, hlen, k5, hat, hkl]))
 |(apply hK;clear hK K)|refine AWh (by assumption) ?_)
    exact retq2ct rfl (by simp [kcells]) (conv_eq (by simp [kcells]) (by simp [kcells]))
  · have hkn : known o = false := by simpa [known] using hk
    have hkc : kcells o = [.int .i64 0, .bool false, .bool false, .str ⟨#[]⟩, .int .i64 0] := by simp [kcells, kparts, ktruth, ktakes, ksign, kbinds, kindO, hkn]
    rw [hkc, hkn]
    refine PCall_body Tryz.func220 rfl (by decide) Tryz.ntmps220 (by simp) Tryz.results220 ?_
    by_cases h1 : o < 1
    · repeat' (first
 |refine AW_seq_k fun K hK=>?_|refine Step.by1 ?_|refine SBlock_exit_ne (by decide) ?_|refine cz rfl ?_|refine Fork.by2 (fun h=>?_) fun h=>?_
 |(refine AW_region_AO ?_;simp [h1])
 |(refine Split.by2 (fun h=>?_) (fun h=>?_)<;>(simp [h, h1]))
 |(apply hK;clear hK K)|refine AWh (by assumption) ?_)
      exact retq2ct rfl (by simp) (conv_eq (by simp) (by simp))
    · have h2 : 14 < o := by omega
      repeat' (first
 |refine AW_seq_k fun K hK=>?_|refine Step.by1 ?_|refine SBlock_exit_ne (by decide) ?_|refine cz rfl ?_|refine Fork.by2 (fun h=>?_) fun h=>?_
 |(refine AW_region_AO ?_;simp [h1, h2])
 |(refine Split.by2 (fun h=>?_) (fun h=>?_)<;>(simp [h, h1, h2]))
 |(apply hK;clear hK K)|refine AWh (by assumption) ?_)
      exact retq2ct rfl (by simp) (conv_eq (by simp) (by simp))
end Go.Proofs.YtgmlimipejcpgaaGreatDoor
end

section
set_option linter.unusedVariables false
set_option linter.unusedSimpArgs false
namespace Go.Proofs.YtgmlimipejcpgaaGreatDoor
open Go Go.AM Fx
theorem kparts_le (o : Int) : 0 ≤ kparts o ∧ kparts o ≤ 2 := by
  unfold kparts kindO
  split
  · unfold kindT; split <;> decide
  · decide
/-- The place behind so many trees, from a place on; 0: there are not so many. -/
def endL : List NodeD → Int → Int → Int
  | [], _, _ => 0
  | x :: r, need, at_ => if need + kparts x.op - 1 = 0 then at_ + 1 else endL r (need + kparts x.op - 1) (at_ + 1)
def endAt (l : List NodeD) (at_ : Nat) : Int := endL (l.drop at_) 1 at_
set_option maxRecDepth 8000 in
set_option maxHeartbeats 4000000 in
theorem c_End (l : List NodeD) (hl : l.length ≤ 1048576 ∧ ∀ x ∈ l, x.ok) (at0 : Nat) (ha : at0 ≤ 1099511627776) : PC 219 [vl NodeD.cells l, .int .i64 at0] (.int .i64 (endAt l at0)) := by
  obtain ⟨hl1, hl2⟩ := hl
  obtain ⟨r, hr⟩ : ∃ r, endAt l at0 = r := ⟨_, rfl⟩
  rw [hr]
  have hneg : ¬ (at0 : Int) < 0 := by omega
  refine PCall_body Tryz.func219 rfl (by decide) Tryz.ntmps219 (by simp) Tryz.results219 ?_
  repeat' (first
 |refine AW_seq_k fun K hK=>?_|refine Step.by1 ?_|refine SBlock_exit_ne (by decide) ?_|refine cz rfl ?_|refine Fork.by2 (fun h=>?_) fun h=>?_
 |(refine AW_region_AO ?_;simp [vl, hneg])
 |(refine Split.by2 (fun h=>?_) (fun h=>?_)<;>(simp [h, vl, hneg]))
 |(apply hK;clear hK K)|refine AWh (by assumption) ?_)
  refine AW_loopL [0] (fun s : Nat × Int => [(1, .int .i64 (s.1 : Int)), (5, .int .i64 s.2)]) (fun _ => []) (fun s => 0 ≤ s.2 ∧ s.2 ≤ s.1 * 2 + 1 ∧ s.1 ≤ at0 + l.length ∧ (if s.2 = 0 then (s.1 : Int) = r else endL (l.drop s.1) s.2 s.1 = r)) (fun s => at0 + l.length + 1 - s.1) (at0, 1) ⟨(by decide : (0 : Int) ≤ 1), (by simp only; omega), (by simp only; omega), (by simpa [endAt] using hr)⟩ (by apply Weak.mk' <;> simp [vl]) (fun _ _ => rfl) ?_
  rintro ⟨p, need⟩ ⟨i1, i2, i3, i4⟩
  simp only at i1 i2 i3 i4
  by_cases hn0 : need = 0
  · subst hn0
    rw [if_pos rfl] at i4
    repeat' (first
 |refine AW_seq_k fun K hK=>?_|refine Step.by1 ?_|refine SBlock_exit_ne (by decide) ?_|refine cz rfl ?_|refine Fork.by2 (fun h=>?_) fun h=>?_
 |(refine AW_region_AO ?_;simp [vl])
 |(refine Split.by2 (fun h=>?_) (fun h=>?_)<;>(simp [h, vl]))
 |(apply hK;clear hK K)|refine AWh (by assumption) ?_)
    exact retq1 (conv_eq (by simp [i4]) rfl)
  · rw [if_neg hn0] at i4
    have hnp : 0 < need := by omega
    by_cases hlt : p < l.length
    · have hlt' : (p : Int) < l.length := by omega
      have hlt2 : ¬ (l.length : Int) ≤ p := by omega
      have hlt3 : ¬ l.length ≤ p := by omega
      obtain ⟨x, hx⟩ : ∃ x, l[p] = x := ⟨_, rfl⟩
      have hxo := hl2 x (hx ▸ List.getElem_mem hlt)
      have hc := c_of x.op hxo.1
      have hk := kparts_le x.op
      rw [List.drop_eq_getElem_cons hlt, hx] at i4
      unfold endL at i4
      simp only [kcells] at hc
      generalize kparts x.op = kp at *
      repeat' (first
 |refine AW_seq_k fun K hK=>?_|refine Step.by1 ?_|refine SBlock_exit_ne (by decide) ?_|refine cz rfl ?_|refine Fork.by2 (fun h=>?_) fun h=>?_
 |((first|refine AW_region_AO ?_|refine AS_call1 (f:=220) rfl rfl (hc) rfl rfl rfl ?_);simp [vl, NodeD.cells, hlt, hlt', hlt2, hlt3, hnp, hx, wrap_i64];try (simp (disch:=omega) only [wrap_i64];try simp [vl, NodeD.cells, hlt, hlt', hlt2, hlt3, hnp, hx, wrap_i64]))
 |(refine Split.by2 (fun h=>?_) (fun h=>?_)<;>(simp [h, vl, NodeD.cells, hlt, hlt', hlt2, hlt3, hnp, hx, wrap_i64];try (simp (disch:=omega) only [wrap_i64];try simp [vl, NodeD.cells, hlt, hlt', hlt2, hlt3, hnp, hx, wrap_i64])))
 |(apply hK;clear hK K)|refine AWh (by assumption) ?_)
      refine ⟨p + 1, need + kp - 1, ⟨by omega, by omega, by omega, ?_⟩, by omega, ?_⟩
      · by_cases hc0 : need + kp - 1 = 0
        · rw [if_pos hc0] at i4 ⊢; push_cast; exact i4
        · rw [if_neg hc0] at i4 ⊢; push_cast; exact i4
      · apply Weak.mk' <;> simp [vl]
    · have hge : (l.length : Int) ≤ p := by omega
      have hge3 : l.length ≤ p := by omega
      rw [List.drop_eq_nil_of_le (by omega)] at i4
      unfold endL at i4
      repeat' (first
 |refine AW_seq_k fun K hK=>?_|refine Step.by1 ?_|refine SBlock_exit_ne (by decide) ?_|refine cz rfl ?_|refine Fork.by2 (fun h=>?_) fun h=>?_
 |(refine AW_region_AO ?_;simp [vl, hge, hge3, hnp])
 |(refine Split.by2 (fun h=>?_) (fun h=>?_)<;>(simp [h, vl, hge, hge3, hnp]))
 |(apply hK;clear hK K)|refine AWh (by assumption) ?_)
      exact retq1 (conv_eq (by simp [i4]) rfl)
theorem c_IsTruth (l : List NodeD) (hl : ∀ x ∈ l, x.ok) : PC 195 [vl NodeD.cells l] (.bool (match l with | [] => false | x :: _ => ktruth x.op)) := by
  cases l with
  | nil =>
    refine PCall_body Tryz.func195 rfl (by decide) Tryz.ntmps195 (by simp) Tryz.results195 ?_
    repeat' (first
 |refine AW_seq_k fun K hK=>?_|refine Step.by1 ?_|refine SBlock_exit_ne (by decide) ?_|refine cz rfl ?_|refine Fork.by2 (fun h=>?_) fun h=>?_
 |(refine AW_region_AO ?_;simp [vl])
 |(refine Split.by2 (fun h=>?_) (fun h=>?_)<;>(simp [h, vl]))
 |(apply hK;clear hK K)|refine AWh (by assumption) ?_)
    exact retq1 (conv_eq rfl rfl)
  | cons x r =>
    have hc := c_of x.op (hl x (.head _)).1
    simp only [kcells] at hc
    have h1 : ¬ (r.length : Int) + 1 = 0 := by omega
    have h2 : (0 : Int) < (r.length : Int) + 1 := by omega
    refine PCall_body Tryz.func195 rfl (by decide) Tryz.ntmps195 (by simp) Tryz.results195 ?_
    repeat' (first
 |refine AW_seq_k fun K hK=>?_|refine Step.by1 ?_|refine SBlock_exit_ne (by decide) ?_|refine cz rfl ?_|refine Fork.by2 (fun h=>?_) fun h=>?_
 |((first|refine AW_region_AO ?_|refine AS_call1 (f:=220) rfl rfl (hc) rfl rfl rfl ?_);simp [vl, NodeD.cells, h1, h2])
 |(refine Split.by2 (fun h=>?_) (fun h=>?_)<;>(simp [h, vl, NodeD.cells, h1, h2]))
 |(apply hK;clear hK K)|refine AWh (by assumption) ?_)
    exact retq1 (conv_eq rfl rfl)
end Go.Proofs.YtgmlimipejcpgaaGreatDoor
end

section
set_option linter.unusedVariables false
set_option linter.unusedSimpArgs false
namespace Go.Proofs.YtgmlimipejcpgaaGreatDoor
open Go Go.AM Fx
theorem known_cases {o : Int} (h : 1 ≤ o ∧ o ≤ 14) : o = 1 ∨ o = 2 ∨ o = 3 ∨ o = 4 ∨ o = 5 ∨ o = 6 ∨ o = 7 ∨ o = 8 ∨ o = 9 ∨ o = 10 ∨ o = 11 ∨ o = 12 ∨ o = 13 ∨ o = 14 := by omega
theorem kparts_no {o : Int} (h : ¬ (1 ≤ o ∧ o ≤ 14)) : kparts o = 0 := by
  have : known o = false := by simpa [known] using h
  simp [kparts, kindO, this]
theorem ktruth_eq (o : Int) : ktruth o = decide (7 ≤ o ∧ o ≤ 14) := by
  by_cases h : 1 ≤ o ∧ o ≤ 14
  · rcases known_cases h with rfl | rfl | rfl | rfl | rfl | rfl | rfl | rfl | rfl | rfl | rfl | rfl | rfl | rfl <;> decide
  · have hk : known o = false := by simpa [known] using h
    have : ¬ (7 ≤ o ∧ o ≤ 14) := by omega
    simp [ktruth, kindO, hk, this]
def knum (o : Int) : Bool := decide (o = 3 ∨ o = 4 ∨ o = 5 ∨ o = 6 ∨ (8 ≤ o ∧ o ≤ 11))
theorem ktakes_knum {o : Int} (h : 0 < kparts o) : ktakes o = !knum o := by
  by_cases hk : 1 ≤ o ∧ o ≤ 14
  · rcases known_cases hk with rfl | rfl | rfl | rfl | rfl | rfl | rfl | rfl | rfl | rfl | rfl | rfl | rfl | rfl <;> first | (exfalso; revert h; decide) | decide
  · rw [kparts_no hk] at h; omega
set_option maxHeartbeats 4000000 in
theorem r_parts (o : Int) : PC 224 [.int .u8 o] (.int .i64 (kparts o)) := by
  by_cases h : 1 ≤ o ∧ o ≤ 14
  · rcases known_cases h with rfl | rfl | rfl | rfl | rfl | rfl | rfl | rfl | rfl | rfl | rfl | rfl | rfl | rfl
    all_goals
      refine PCall_body Tryz.func224 rfl (by decide) Tryz.ntmps224 (by simp) Tryz.results224 ?_
      repeat' (first
 |refine AW_seq_k fun K hK=>?_|refine Step.by1 ?_|refine SBlock_exit_ne (by decide) ?_|refine cz rfl ?_|refine Fork.by2 (fun h=>?_) fun h=>?_
 |(refine AW_region_AO ?_;simp)
 |(refine Split.by2 (fun h=>?_) (fun h=>?_)<;>(simp [h]))
 |(apply hK;clear hK K)|refine AWh (by assumption) ?_)
      exact retq1 (conv_eq (by simp; decide) rfl)
  · rw [kparts_no h]
    have e3 : ¬ o = 3 := by omega
    have e4 : ¬ o = 4 := by omega
    have e5 : ¬ o = 5 := by omega
    have e6 : ¬ o = 6 := by omega
    have e8 : ¬ o = 8 := by omega
    have e9 : ¬ o = 9 := by omega
    have e10 : ¬ o = 10 := by omega
    have e11 : ¬ o = 11 := by omega
    have e12 : ¬ o = 12 := by omega
    have e13 : ¬ o = 13 := by omega
    have e14 : ¬ o = 14 := by omega
    refine PCall_body Tryz.func224 rfl (by decide) Tryz.ntmps224 (by simp) Tryz.results224 ?_
    repeat' (first
 |refine AW_seq_k fun K hK=>?_|refine Step.by1 ?_|refine SBlock_exit_ne (by decide) ?_|refine cz rfl ?_|refine Fork.by2 (fun h=>?_) fun h=>?_
 |(refine AW_region_AO ?_;simp [e3, e4, e5, e6, e8, e9, e10, e11, e12, e13, e14])
 |(refine Split.by2 (fun h=>?_) (fun h=>?_)<;>(simp [h, e3, e4, e5, e6, e8, e9, e10, e11, e12, e13, e14]))
 |(apply hK;clear hK K)|refine AWh (by assumption) ?_)
    exact retq1 (conv_eq rfl rfl)
theorem r_truth (o : Int) : PC 225 [.int .u8 o] (.bool (ktruth o)) := by
  have he := ktruth_eq o
  generalize ktruth o = k at *
  refine PCall_body Tryz.func225 rfl (by decide) Tryz.ntmps225 (by simp) Tryz.results225 ?_
  repeat' (first
 |refine AW_seq_k fun K hK=>?_|refine Step.by1 ?_|refine SBlock_exit_ne (by decide) ?_|refine cz rfl ?_|refine Fork.by2 (fun h=>?_) fun h=>?_
 |(refine AW_region_AO ?_;simp)
 |(refine Split.by2 (fun h=>?_) (fun h=>?_)<;>(simp [h]))
 |(apply hK;clear hK K)|refine AWh (by assumption) ?_)
  all_goals exact retq1 (conv_eq (by simp [he, *]) rfl)
theorem r_numbers (o : Int) : PC 226 [.int .u8 o] (.bool (knum o)) := by
  refine PCall_body Tryz.func226 rfl (by decide) Tryz.ntmps226 (by simp) Tryz.results226 ?_
  repeat' (first
 |refine AW_seq_k fun K hK=>?_|refine Step.by1 ?_|refine SBlock_exit_ne (by decide) ?_|refine cz rfl ?_|refine Fork.by2 (fun h=>?_) fun h=>?_
 |(refine AW_region_AO ?_;simp)
 |(refine Split.by2 (fun h=>?_) (fun h=>?_)<;>(simp [h]))
 |(apply hK;clear hK K)|refine AWh (by assumption) ?_)
  all_goals first
    | exact retq1 (conv_eq (by simp [knum, *]; done) rfl)
    | exact retq1 (conv_eq (by simp [knum, *]; omega) rfl)
    | trace_state
set_option maxRecDepth 8000 in
set_option maxHeartbeats 4000000 in
theorem r_End (l : List NodeD) (hl : l.length ≤ 1048576) (at0 : Nat) (ha : at0 ≤ 1099511627776) : PC 223 [vl NodeD.cells l, .int .i64 at0] (.int .i64 (endAt l at0)) := by
  obtain ⟨r, hr⟩ : ∃ r, endAt l at0 = r := ⟨_, rfl⟩
  rw [hr]
  have hneg : ¬ (at0 : Int) < 0 := by omega
  by_cases h0 : l.length ≤ at0
  · have h0' : (l.length : Int) ≤ at0 := by omega
    have hr0 : r = 0 := by rw [← hr, endAt, List.drop_eq_nil_of_le h0]; rfl
    refine PCall_body Tryz.func223 rfl (by decide) Tryz.ntmps223 (by simp) Tryz.results223 ?_
    repeat' (first
 |refine AW_seq_k fun K hK=>?_|refine Step.by1 ?_|refine SBlock_exit_ne (by decide) ?_|refine cz rfl ?_|refine Fork.by2 (fun h=>?_) fun h=>?_
 |(refine AW_region_AO ?_;simp [vl, hneg, h0, h0'])
 |(refine Split.by2 (fun h=>?_) (fun h=>?_)<;>(simp [h, vl, hneg, h0, h0']))
 |(apply hK;clear hK K)|refine AWh (by assumption) ?_)
    exact retq1 (conv_eq (by simp [hr0]) rfl)
  · have h0' : ¬ (l.length : Int) ≤ at0 := by omega
    refine PCall_body Tryz.func223 rfl (by decide) Tryz.ntmps223 (by simp) Tryz.results223 ?_
    repeat' (first
 |refine AW_seq_k fun K hK=>?_|refine Step.by1 ?_|refine SBlock_exit_ne (by decide) ?_|refine cz rfl ?_|refine Fork.by2 (fun h=>?_) fun h=>?_
 |(refine AW_region_AO ?_;simp [vl, hneg, h0, h0'])
 |(refine Split.by2 (fun h=>?_) (fun h=>?_)<;>(simp [h, vl, hneg, h0, h0']))
 |(apply hK;clear hK K)|refine AWh (by assumption) ?_)
    refine AW_loopL [0] (fun s : Nat × Int => [(6, .int .i64 (s.1 : Int)), (5, .int .i64 s.2)]) (fun _ => []) (fun s => 0 < s.2 ∧ s.2 ≤ s.1 * 2 + 1 ∧ s.1 ≤ l.length ∧ endL (l.drop s.1) s.2 s.1 = r) (fun s => l.length - s.1) (at0, 1) ⟨(by decide : (0 : Int) < 1), (by simp only; omega), (by simp only; omega), (by simpa [endAt] using hr)⟩ (by apply Weak.mk' <;> simp [vl]) (fun _ _ => rfl) ?_
    rintro ⟨p, need⟩ ⟨i1, i2, i3, i4⟩
    simp only at i1 i2 i3 i4
    by_cases hlt : p < l.length
    · have hlt' : (p : Int) < l.length := by omega
      obtain ⟨x, hx⟩ : ∃ x, l[p] = x := ⟨_, rfl⟩
      have hc := r_parts x.op
      have hk := kparts_le x.op
      rw [List.drop_eq_getElem_cons hlt, hx] at i4
      unfold endL at i4
      generalize kparts x.op = kp at *
      have w1 : IntKind.i64.wrap (kp - 1) = kp - 1 := wrap_i64 (by omega) (by omega)
      have w2 : IntKind.i64.wrap (need + (kp - 1)) = need + kp - 1 := by rw [wrap_i64 (by omega) (by omega)]; omega
      by_cases hc0 : need + kp - 1 = 0
      · rw [if_pos hc0] at i4
        repeat' (first
 |refine AW_seq_k fun K hK=>?_|refine Step.by1 ?_|refine SBlock_exit_ne (by decide) ?_|refine cz rfl ?_|refine Fork.by2 (fun h=>?_) fun h=>?_
 |((first|refine AW_region_AO ?_|refine AS_call1 (f:=224) rfl rfl (hc) rfl rfl rfl ?_);simp [vl, NodeD.cells, hlt, hlt', hx, w1, w2, hc0, wrap_i64];try (simp (disch:=omega) only [wrap_i64];try simp [vl, NodeD.cells, hlt, hlt', hx, w1, w2, hc0, wrap_i64]))
 |(refine Split.by2 (fun h=>?_) (fun h=>?_)<;>(simp [h, vl, NodeD.cells, hlt, hlt', hx, w1, w2, hc0, wrap_i64];try (simp (disch:=omega) only [wrap_i64];try simp [vl, NodeD.cells, hlt, hlt', hx, w1, w2, hc0, wrap_i64])))
 |(apply hK;clear hK K)|refine AWh (by assumption) ?_)
        exact retq1 (conv_eq (by simp [i4]) rfl)
      · rw [if_neg hc0] at i4
        repeat' (first
 |refine AW_seq_k fun K hK=>?_|refine Step.by1 ?_|refine SBlock_exit_ne (by decide) ?_|refine cz rfl ?_|refine Fork.by2 (fun h=>?_) fun h=>?_
 |((first|refine AW_region_AO ?_|refine AS_call1 (f:=224) rfl rfl (hc) rfl rfl rfl ?_);simp [vl, NodeD.cells, hlt, hlt', hx, w1, w2, hc0, wrap_i64];try (simp (disch:=omega) only [wrap_i64];try simp [vl, NodeD.cells, hlt, hlt', hx, w1, w2, hc0, wrap_i64]))
 |(refine Split.by2 (fun h=>?_) (fun h=>?_)<;>(simp [h, vl, NodeD.cells, hlt, hlt', hx, w1, w2, hc0, wrap_i64];try (simp (disch:=omega) only [wrap_i64];try simp [vl, NodeD.cells, hlt, hlt', hx, w1, w2, hc0, wrap_i64])))
 |(apply hK;clear hK K)|refine AWh (by assumption) ?_)
        refine ⟨p + 1, need + kp - 1, ⟨by omega, by omega, by omega, by push_cast; exact i4⟩, by omega, ?_⟩
        apply Weak.mk' <;> simp [vl]
    · have hlt' : ¬ (p : Int) < l.length := by omega
      rw [List.drop_eq_nil_of_le (by omega)] at i4
      unfold endL at i4
      repeat' (first
 |refine AW_seq_k fun K hK=>?_|refine Step.by1 ?_|refine SBlock_exit_ne (by decide) ?_|refine cz rfl ?_|refine Fork.by2 (fun h=>?_) fun h=>?_
 |(refine AW_region_AO ?_;simp [vl, hlt, hlt'])
 |(refine Split.by2 (fun h=>?_) (fun h=>?_)<;>(simp [h, vl, hlt, hlt']))
 |(apply hK;clear hK K)|refine AWh (by assumption) ?_)
      exact retq1 (conv_eq (by simp [i4]) rfl)
theorem r_IsTruth (l : List NodeD) : PC 203 [vl NodeD.cells l] (.bool (match l with | [] => false | x :: _ => ktruth x.op)) := by
  cases l with
  | nil =>
    refine PCall_body Tryz.func203 rfl (by decide) Tryz.ntmps203 (by simp) Tryz.results203 ?_
    repeat' (first
 |refine AW_seq_k fun K hK=>?_|refine Step.by1 ?_|refine SBlock_exit_ne (by decide) ?_|refine cz rfl ?_|refine Fork.by2 (fun h=>?_) fun h=>?_
 |(refine AW_region_AO ?_;simp [vl])
 |(refine Split.by2 (fun h=>?_) (fun h=>?_)<;>(simp [h, vl]))
 |(apply hK;clear hK K)|refine AWh (by assumption) ?_)
    exact retq1 (conv_eq rfl rfl)
  | cons x r =>
    have hc := r_truth x.op
    have h2 : (0 : Int) < (r.length : Int) + 1 := by omega
    refine PCall_body Tryz.func203 rfl (by decide) Tryz.ntmps203 (by simp) Tryz.results203 ?_
    repeat' (first
 |refine AW_seq_k fun K hK=>?_|refine Step.by1 ?_|refine SBlock_exit_ne (by decide) ?_|refine cz rfl ?_|refine Fork.by2 (fun h=>?_) fun h=>?_
 |((first|refine AW_region_AO ?_|refine AS_call1 (f:=225) rfl rfl (hc) rfl rfl rfl ?_);simp [vl, NodeD.cells, h2])
 |(refine Split.by2 (fun h=>?_) (fun h=>?_)<;>(simp [h, vl, NodeD.cells, h2]))
 |(apply hK;clear hK K)|refine AWh (by assumption) ?_)
    exact retq1 (conv_eq rfl rfl)
end Go.Proofs.YtgmlimipejcpgaaGreatDoor
end

section
set_option linter.unusedVariables false
set_option linter.unusedSimpArgs false
namespace Go.Proofs.YtgmlimipejcpgaaGreatDoor
open Go Go.AM Fx
def wgt (x : NodeD) : Int := kparts x.op - 1
def sumL : List NodeD → Int
  | [] => 0
  | x :: r => wgt x + sumL r
theorem sumL_append : ∀ (a b : List NodeD), sumL (a ++ b) = sumL a + sumL b
  | [], b => by simp [sumL]
  | x :: r, b => by simp [sumL, sumL_append r b]; omega
theorem endL_spec : ∀ (l : List NodeD) (need at_ : Int), 1 ≤ need →
    (∃ m : Nat, 1 ≤ m ∧ m ≤ l.length ∧ endL l need at_ = at_ + m ∧ need + sumL (l.take m) = 0 ∧ ∀ k, k < m → 0 < need + sumL (l.take k)) ∨ (endL l need at_ = 0 ∧ ∀ k, k ≤ l.length → 0 < need + sumL (l.take k))
  | [], need, at_, h => .inr ⟨rfl, fun k hk => by simp at hk; subst hk; simp [sumL]; omega⟩
  | x :: r, need, at_, h => by
    have hk := kparts_le x.op
    unfold endL
    by_cases h0 : need + kparts x.op - 1 = 0
    · rw [if_pos h0]
      refine .inl ⟨1, by omega, by simp, by simp, by simp [sumL, wgt]; omega, fun k hk => ?_⟩
      have : k = 0 := by omega
      subst this; simp [sumL]; omega
    · rw [if_neg h0]
      have hstep : ∀ k, 0 < k → need + sumL ((x :: r).take k) = need + kparts x.op - 1 + sumL (r.take (k - 1)) := fun k hk => by
        obtain ⟨j, rfl⟩ : ∃ j, k = j + 1 := ⟨k - 1, by omega⟩
        simp [sumL, wgt]; omega
      have hz : need + sumL ((x :: r).take 0) = need := by simp [sumL]
      rcases endL_spec r (need + kparts x.op - 1) (at_ + 1) (by omega) with ⟨m, h1, h2, h3, h4, h5⟩ | ⟨h3, h5⟩
      · refine .inl ⟨m + 1, by omega, by simp; omega, by rw [h3]; push_cast; omega, by rw [hstep _ (by omega)]; simpa using h4, fun k hk => ?_⟩
        rcases Nat.eq_zero_or_pos k with h | h
        · subst h; rw [hz]; omega
        · rw [hstep k h]; exact h5 (k - 1) (by omega)
      · refine .inr ⟨h3, fun k hk => ?_⟩
        rcases Nat.eq_zero_or_pos k with h | h
        · subst h; rw [hz]; omega
        · rw [hstep k h]; exact h5 (k - 1) (by simp at hk; omega)
def numN (l : List NodeD) (j : Nat) : Int := 1 + sumL (l.take j)
theorem numN_succ {l : List NodeD} {j : Nat} (h : j < l.length) : numN l (j + 1) = numN l j + kparts l[j].op - 1 := by
  unfold numN
  rw [List.take_add_one, List.getElem?_eq_getElem h, sumL_append]
  simp [sumL, wgt]; omega
structure WholeL (l : List NodeD) : Prop where
  pos : ∀ j, j < l.length → 0 < numN l j
  zero : numN l l.length = 0
theorem whole_of {l : List NodeD} (h0 : 0 < l.length) (h : endAt l 0 = l.length) : WholeL l := by
  unfold endAt at h
  simp only [List.drop_zero] at h
  rcases endL_spec l 1 ((0 : Nat) : Int) (by omega) with ⟨m, h1, h2, h3, h4, h5⟩ | ⟨h3, _⟩
  · have hm : m = l.length := by rw [h] at h3; omega
    subst hm
    exact ⟨fun j hj => h5 j hj, h4⟩
  · rw [h3] at h; omega
theorem whole_end {l : List NodeD} (w : WholeL l) {j : Nat} (hj : j < l.length) : ∃ e : Nat, endAt l j = e ∧ j < e ∧ e ≤ l.length ∧ numN l e = numN l j - 1 := by
  have hsum : ∀ k, sumL (l.take (j + k)) = sumL (l.take j) + sumL ((l.drop j).take k) := fun k => by rw [List.take_add, sumL_append]
  rcases endL_spec (l.drop j) 1 (j : Int) (by omega) with ⟨m, h1, h2, h3, h4, h5⟩ | ⟨h3, h5⟩
  · rw [List.length_drop] at h2
    refine ⟨j + m, by unfold endAt; rw [h3]; push_cast; rfl, by omega, by omega, ?_⟩
    unfold numN; rw [hsum]; omega
  · exfalso
    have h6 := h5 (l.length - j) (by simp)
    have h7 := w.zero
    have h8 := w.pos j hj
    unfold numN at h7 h8
    have h9 := hsum (l.length - j)
    rw [show j + (l.length - j) = l.length by omega] at h9
    omega
/-- What is wrong with a node by itself; with its parts. -/
def nodeBad (k : Int) (x : NodeD) : Bool := !known x.op || decide (x.n < 0 ∨ (if x.op = 1 then 1048576 else if x.op = 2 then (if k < 0 then 0 else k) - 1 else 0) < x.n)
def kidsBad (l : List NodeD) (tk : Bool) : Nat → Nat → Bool
  | 0, _ => false
  | q + 1, at_ => (ktruth (l.getD at_ default).op != tk) || kidsBad l tk q (endAt l at_).toNat
def rightAt (l : List NodeD) (k : Int) (i : Nat) : Bool := nodeBad k (l.getD i default) || kidsBad l (ktakes (l.getD i default).op) (kparts (l.getD i default).op).toNat (i + 1)
def rightE (l : List NodeD) (k : Int) : Int := if l.length = 0 ∨ 64 < l.length ∨ endAt l 0 ≠ l.length then 121 else if (List.range l.length).any (rightAt l k) then 121 else 0
theorem rightE_bad {l : List NodeD} {k : Int} {i : Nat} (hi : i < l.length) (h : rightAt l k i = true) : rightE l k = 121 := by
  unfold rightE
  split
  · rfl
  · rw [if_pos (List.any_eq_true.2 ⟨i, List.mem_range.2 hi, h⟩)]
theorem rightE_good {l : List NodeD} {k : Int} (h0 : ¬ (l.length = 0 ∨ 64 < l.length ∨ endAt l 0 ≠ l.length)) (h : ∀ i, i < l.length → rightAt l k i = false) : rightE l k = 0 := by
  unfold rightE
  rw [if_neg h0, if_neg]
  rw [List.any_eq_true]
  rintro ⟨i, hi, hb⟩
  rw [h i (List.mem_range.1 hi)] at hb; cases hb
end Go.Proofs.YtgmlimipejcpgaaGreatDoor
end

section
set_option linter.unusedVariables false
set_option linter.unusedSimpArgs false
namespace Go.Proofs.YtgmlimipejcpgaaGreatDoor
open Go Go.AM Fx
theorem kidsBad_succ {l : List NodeD} {tk : Bool} {q a : Nat} : kidsBad l tk (q + 1) a = ((ktruth (l.getD a default).op != tk) || kidsBad l tk q (endAt l a).toNat) := rfl
set_option maxRecDepth 40000 in
set_option maxHeartbeats 8000000 in
theorem c_Right (l : List NodeD) (k : Int) (hl : l.length ≤ 1048576 ∧ ∀ x ∈ l, x.ok) (hk64 : I64 k) : PC 194 [vl NodeD.cells l, .int .i64 k] (.int .i64 (rightE l k)) := by
  have hend := c_End l hl 0 (by omega)
  obtain ⟨hl1, hl2⟩ := hl
  have hb121 := fun i hi h => rightE_bad (l := l) (k := k) (i := i) hi h
  have hg0 := rightE_good (l := l) (k := k)
  have hend' := fun j (hj : j ≤ 1099511627776) => c_End l ⟨hl1, hl2⟩ j hj
  by_cases hs : l.length = 0 ∨ 64 < l.length ∨ endAt l 0 ≠ l.length
  · have hr : rightE l k = 121 := by unfold rightE; rw [if_pos hs]
    rw [hr]
    simp only [vl] at hend
    generalize endAt l 0 = e0 at *
    refine PCall_body Tryz.func194 rfl (by decide) Tryz.ntmps194 (by simp) Tryz.results194 ?_
    repeat' (first
 |refine AW_seq_k fun K hK=>?_|refine Step.by1 ?_|refine SBlock_exit_ne (by decide) ?_|refine cz rfl ?_|refine Fork.by2 (fun h=>?_) fun h=>?_
 |((first|refine AW_region_AO ?_|refine AS_call1 (f:=219) rfl rfl (hend) rfl rfl rfl ?_);simp [vl])
 |(refine Split.by2 (fun h=>?_) (fun h=>?_)<;>(simp [h, vl]))
 |(apply hK;clear hK K)|refine AWh (by assumption) ?_)
    all_goals first
      | exact retq1 (conv_eq rfl rfl)
      | (exfalso; omega)
      | (exfalso; rcases hs with h' | h' | h'; exact absurd (List.eq_nil_of_length_eq_zero h') (by assumption); omega; omega)
      | trace_state
  · have hg := hg0 hs
    obtain ⟨s1, s2, s3⟩ : ¬ (l.length : Int) = 0 ∧ ¬ (64 : Int) < l.length ∧ endAt l 0 = l.length := by
      refine ⟨by omega, by omega, ?_⟩
      by_cases h : endAt l 0 = l.length
      · exact h
      · exact absurd (.inr (.inr h)) hs
    have w := whole_of (by omega) s3
    rw [s3] at hend
    simp only [vl] at hend hend'
    obtain ⟨r, hr⟩ : ∃ r, rightE l k = r := ⟨_, rfl⟩
    rw [hr] at hb121 hg ⊢
    have s4 : ¬ l.length = 0 := by omega
    have s5 : ¬ 64 < l.length := by omega
    refine PCall_body Tryz.func194 rfl (by decide) Tryz.ntmps194 (by simp) Tryz.results194 ?_
    repeat' (first
 |refine AW_seq_k fun K hK=>?_|refine Step.by1 ?_|refine SBlock_exit_ne (by decide) ?_|refine cz rfl ?_|refine Fork.by2 (fun h=>?_) fun h=>?_
 |((first|refine AW_region_AO ?_|refine AS_call1 (f:=219) rfl rfl (hend) rfl rfl rfl ?_);simp [vl, s1, s2, s4, s5])
 |(refine Split.by2 (fun h=>?_) (fun h=>?_)<;>(simp [h, vl, s1, s2, s4, s5]))
 |(apply hK;clear hK K)|refine AWh (by assumption) ?_)
    refine AW_loopL [0, 1, 28, 29] (fun i : Nat => [(30, .int .i64 i)]) (fun _ => []) (fun i => i ≤ l.length ∧ ∀ j, j < i → rightAt l k j = false) (fun i => l.length - i) 0 ⟨Nat.zero_le _, fun j hj => by omega⟩ (by apply Weak.mk' <;> simp [vl]) (fun _ _ => rfl) ?_
    rintro i ⟨hi, hpre⟩
    by_cases hlt : i < l.length
    · have hbad := hb121 i hlt
      have hN := w.pos i hlt
      have hN1 := numN_succ hlt
      obtain ⟨x, hx⟩ : ∃ x, l[i] = x := ⟨_, rfl⟩
      have hxo := hl2 x (hx ▸ List.getElem_mem hlt)
      have hgd : l.getD i default = x := by simp [List.getD, hlt, hx]
      have hra : rightAt l k i = (nodeBad k x || kidsBad l (ktakes x.op) (kparts x.op).toNat (i + 1)) := by unfold rightAt; rw [hgd]
      have hc := c_of x.op hxo.1
      have hkp := kparts_le x.op
      rw [hx] at hN1
      simp only [kcells] at hc
      have hnb : nodeBad k x = (!known x.op || decide (x.n < 0 ∨ (if x.op = 1 then 1048576 else if x.op = 2 then (if k < 0 then 0 else k) - 1 else 0) < x.n)) := rfl
      generalize hkn : known x.op = kn at *
      obtain ⟨m, hm⟩ : ∃ m, (if x.op = 1 then (1048576 : Int) else if x.op = 2 then (if k < 0 then 0 else k) - 1 else 0) = m := ⟨_, rfl⟩
      rw [hm] at hnb
      have hw1 : IntKind.i64.wrap ((if k < 0 then 0 else k) - 1) = (if k < 0 then 0 else k) - 1 := wrap_i64 (by unfold I64 at hk64; split <;> omega) (by unfold I64 at hk64; split <;> omega)
      repeat' (first
 |refine AW_seq_k fun K hK=>?_|refine Step.by1 ?_|refine SBlock_exit_ne (by decide) ?_|refine cz rfl ?_|refine Fork.by2 (fun h=>?_) fun h=>?_
 |((first|refine AW_region_AO ?_|refine AS_call1 (f:=220) rfl rfl (hc) rfl rfl rfl ?_);simp [vl, NodeD.cells, hlt, hx, hw1, wrap_i64];try (simp (disch:=omega) only [wrap_i64];try simp [vl, NodeD.cells, hlt, hx, hw1, wrap_i64]))
 |(refine Split.by2 (fun h=>?_) (fun h=>?_)<;>(simp [h, vl, NodeD.cells, hlt, hx, hw1, wrap_i64];try (simp (disch:=omega) only [wrap_i64];try simp [vl, NodeD.cells, hlt, hx, hw1, wrap_i64])))
 |(apply hK;clear hK K)|refine AWh (by assumption) ?_)
      all_goals first
        | exact retq1 (conv_eq (by simp; exact (hbad (by rw [hra, hnb, ← hm]; simp [*])).symm) rfl)
        | skip
      all_goals
        have hnf : nodeBad k x = false := by rw [hnb, ← hm]; simp [*]; try omega
        rw [hnf, Bool.false_or] at hra
        obtain ⟨p, hp⟩ := Int.eq_ofNat_of_zero_le hkp.1
        rw [hp] at hN1 hra
        simp only [Int.toNat_natCast] at hra
        obtain ⟨tk, htk⟩ : ∃ tk, ktakes x.op = tk := ⟨_, rfl⟩
        rw [htk] at hra
        rw [hp, htk]
        refine AW_loopL [0, 1, 7, 28, 29, 30, 66] (fun s : Nat × Nat => [(67, .int .i64 (s.1 : Int)), (10, .int .i64 (s.2 : Int))]) (fun _ => [.var x.cells, .var [.int .i64 (p : Int), .bool (ktruth x.op), .bool tk, .str (ksign x.op), .int .i64 (kbinds x.op)]]) (fun s => s.1 ≤ p ∧ s.2 ≤ l.length ∧ ((p : Int) - s.1) ≤ numN l s.2 ∧ kidsBad l tk (p - s.1) s.2 = kidsBad l tk p (i + 1)) (fun s => p - s.1) (0, i + 1) ⟨Nat.zero_le _, (by simp only; omega), (by simp only; omega), rfl⟩ (by apply Weak.mk' <;> simp [vl, NodeD.cells]) (fun _ _ => rfl) ?_
        rintro ⟨q, a⟩ ⟨j1, j2, j3, j4⟩
        simp only at j1 j2 j3 j4
        by_cases hq : q < p
        · have hq' : (q : Int) < p := by omega
          have hal : a < l.length := by
            rcases Nat.lt_or_ge a l.length with h' | h'
            · exact h'
            · have h2 := w.zero
              rw [show a = l.length by omega] at j3
              omega
          obtain ⟨e, he1, he2, he3, he4⟩ := whole_end w hal
          have hce := hend' a (by omega)
          rw [he1] at hce
          obtain ⟨y, hy⟩ : ∃ y, l[a] = y := ⟨_, rfl⟩
          have hyo := hl2 y (hy ▸ List.getElem_mem hal)
          have hcy := c_of y.op hyo.1
          simp only [kcells] at hcy
          rw [show p - q = (p - (q + 1)) + 1 by omega] at j4
          rw [kidsBad_succ] at j4
          rw [show l.getD a default = y by simp [List.getD, hal, hy], he1, Int.toNat_natCast] at j4
          have hal' : (a : Int) < l.length := by omega
          by_cases hty : ktruth y.op = tk
          · have hbt : (ktruth y.op == tk) = true := by simp [hty]
            rw [show (ktruth y.op != tk) = false by simp [hty], Bool.false_or] at j4
            repeat' (first
 |refine AW_seq_k fun K hK=>?_|refine Step.by1 ?_|refine SBlock_exit_ne (by decide) ?_|refine cz rfl ?_|refine Fork.by2 (fun h=>?_) fun h=>?_
 |((first|refine AW_region_AO ?_|refine AS_call1 (f:=220) rfl rfl (hcy) rfl rfl rfl ?_|refine AS_call1 (f:=219) rfl rfl (hce) rfl rfl rfl ?_);simp [vl, NodeD.cells, hq, hq', hal, hal', hy, hbt, wrap_i64];try (simp (disch:=omega) only [wrap_i64];try simp [vl, NodeD.cells, hq, hq', hal, hal', hy, hbt, wrap_i64]))
 |(refine Split.by2 (fun h=>?_) (fun h=>?_)<;>(simp [h, vl, NodeD.cells, hq, hq', hal, hal', hy, hbt, wrap_i64];try (simp (disch:=omega) only [wrap_i64];try simp [vl, NodeD.cells, hq, hq', hal, hal', hy, hbt, wrap_i64])))
 |(apply hK;clear hK K)|refine AWh (by assumption) ?_)
            refine ⟨q + 1, e, ⟨by omega, he3, by push_cast; omega, j4⟩, by omega, ?_⟩
            apply Weak.mk' <;> simp [vl, NodeD.cells]
          · have hbt : (ktruth y.op == tk) = false := by simp [hty]
            rw [show (ktruth y.op != tk) = true by simp [hty], Bool.true_or] at j4
            rw [← j4] at hra
            have hr1 := hbad hra
            repeat' (first
 |refine AW_seq_k fun K hK=>?_|refine Step.by1 ?_|refine SBlock_exit_ne (by decide) ?_|refine cz rfl ?_|refine Fork.by2 (fun h=>?_) fun h=>?_
 |((first|refine AW_region_AO ?_|refine AS_call1 (f:=220) rfl rfl (hcy) rfl rfl rfl ?_);simp [vl, NodeD.cells, hq, hq', hal, hal', hy, hbt, wrap_i64];try (simp (disch:=omega) only [wrap_i64];try simp [vl, NodeD.cells, hq, hq', hal, hal', hy, hbt, wrap_i64]))
 |(refine Split.by2 (fun h=>?_) (fun h=>?_)<;>(simp [h, vl, NodeD.cells, hq, hq', hal, hal', hy, hbt, wrap_i64];try (simp (disch:=omega) only [wrap_i64];try simp [vl, NodeD.cells, hq, hq', hal, hal', hy, hbt, wrap_i64])))
 |(apply hK;clear hK K)|refine AWh (by assumption) ?_)
            exact retq1 (conv_eq (by simp [hr1]) rfl)
        · have hqe : q = p := by omega
          subst hqe
          rw [Nat.sub_self] at j4
          rw [← j4] at hra
          have hra' : rightAt l k i = false := hra
          repeat' (first
 |refine AW_seq_k fun K hK=>?_|refine Step.by1 ?_|refine SBlock_exit_ne (by decide) ?_|refine cz rfl ?_|refine Fork.by2 (fun h=>?_) fun h=>?_
 |(refine AW_region_AO ?_;simp [vl, NodeD.cells, wrap_i64];try (simp (disch:=omega) only [wrap_i64];try simp [vl, NodeD.cells, wrap_i64]))
 |(refine Split.by2 (fun h=>?_) (fun h=>?_)<;>(simp [h, vl, NodeD.cells, wrap_i64];try (simp (disch:=omega) only [wrap_i64];try simp [vl, NodeD.cells, wrap_i64])))
 |(apply hK;clear hK K)|refine AWh (by assumption) ?_)
          refine ⟨i + 1, ⟨by omega, fun j hj => ?_⟩, by omega, ?_⟩
          · rcases Nat.lt_or_ge j i with h' | h'
            · exact hpre j h'
            · rw [show j = i by omega]; exact hra'
          · apply Weak.mk' <;> simp [vl]
    · have hie : i = l.length := by omega
      subst hie
      have hr0 := hg hpre
      repeat' (first
 |refine AW_seq_k fun K hK=>?_|refine Step.by1 ?_|refine SBlock_exit_ne (by decide) ?_|refine cz rfl ?_|refine Fork.by2 (fun h=>?_) fun h=>?_
 |(refine AW_region_AO ?_;simp [vl, hlt])
 |(refine Split.by2 (fun h=>?_) (fun h=>?_)<;>(simp [h, vl, hlt]))
 |(apply hK;clear hK K)|refine AWh (by assumption) ?_)
      exact retq1 (conv_eq (by simp [hr0]) rfl)
end Go.Proofs.YtgmlimipejcpgaaGreatDoor
end
