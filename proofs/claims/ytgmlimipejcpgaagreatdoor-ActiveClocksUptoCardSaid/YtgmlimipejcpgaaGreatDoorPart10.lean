/-
  YtgmlimipejcpgaaGreatDoorPart10: steps of the proof of a law of the program: what these texts prove holds under the hypotheses that their theorems name, and no others.
-/
import Derived.Test.YtgmlimipejcpgaaGreatDoorPart08
import Derived.Test.YtgmlimipejcpgaaGreatDoorPart06
import Derived.Test.YtgmlimipejcpgaaGreatDoorPart07
import Derived.Test.YtgmlimipejcpgaaGreatDoorPart09
section
set_option linter.unusedVariables false
set_option linter.unusedSimpArgs false
namespace Go.Proofs.YtgmlimipejcpgaaGreatDoor
open Go Go.AM Fx
theorem kidsBad_succ' {l : List NodeD} {tk : Bool} {q a : Nat} : kidsBad l tk (q + 1) a = ((ktruth (l.getD a default).op != tk) || kidsBad l tk q (endAt l a).toNat) := rfl
theorem nodeBad_iff (k : Int) (x : NodeD) : nodeBad k x = true ↔ (x.op < 1 ∨ 14 < x.op ∨ (x.op = 1 ∧ (x.n < 0 ∨ 1048576 < x.n)) ∨ (x.op = 2 ∧ (x.n < 0 ∨ k ≤ x.n)) ∨ (x.op ≠ 1 ∧ x.op ≠ 2 ∧ x.n ≠ 0)) := by
  unfold nodeBad known
  simp only [Bool.or_eq_true, Bool.not_eq_true', decide_eq_false_iff_not, decide_eq_true_eq]
  by_cases h1 : x.op = 1
  · rw [if_pos h1]; omega
  · rw [if_neg h1]
    by_cases h2 : x.op = 2
    · rw [if_pos h2]; split <;> omega
    · rw [if_neg h2]; omega
set_option maxRecDepth 40000 in
set_option maxHeartbeats 8000000 in
theorem r_Right (l : List NodeD) (k : Int) (hl : l.length ≤ 1048576) : PC 202 [vl NodeD.cells l, .int .i64 k] (.int .i64 (rightE l k)) := by
  have hend := r_End l hl 0 (by omega)
  have hb121 := fun i hi h => rightE_bad (l := l) (k := k) (i := i) hi h
  have hg0 := rightE_good (l := l) (k := k)
  have hend' := fun j (hj : j ≤ 1099511627776) => r_End l hl j hj
  by_cases hs : l.length = 0 ∨ 64 < l.length ∨ endAt l 0 ≠ l.length
  · have hr : rightE l k = 121 := by unfold rightE; rw [if_pos hs]
    rw [hr]
    simp only [vl] at hend
    generalize endAt l 0 = e0 at *
    refine PCall_body Tryz.func202 rfl (by decide) Tryz.ntmps202 (by simp) Tryz.results202 ?_
    repeat' (first
 |refine AW_seq_k fun K hK=>?_|refine Step.by1 ?_|refine SBlock_exit_ne (by decide) ?_|refine cz rfl ?_|refine Fork.by2 (fun h=>?_) fun h=>?_
 |((first|refine AW_region_AO ?_|refine AS_call1 (f:=223) rfl rfl (hend) rfl rfl rfl ?_);simp [vl])
 |(refine Split.by2 (fun h=>?_) (fun h=>?_)<;>(simp [h, vl]))
 |(apply hK;clear hK K)|refine AWh (by assumption) ?_)
    all_goals first
      | exact retq1 (conv_eq rfl rfl)
      | (exfalso; omega)
      | (exfalso; rcases hs with h' | h' | h'; exact absurd (List.eq_nil_of_length_eq_zero h') (by assumption); omega; omega)
      | trace_state
  · have hg := hg0 hs
    obtain ⟨s1, s2, s3⟩ : ¬ (l.length : Int) = 0 ∧ ¬ (64 : Int) < l.length ∧ endAt l 0 = l.length := by
      refine ⟨by omega, by omega, ?_⟩
      by_cases h : endAt l 0 = l.length
      · exact h
      · exact absurd (.inr (.inr h)) hs
    have w := whole_of (by omega) s3
    rw [s3] at hend
    simp only [vl] at hend hend'
    obtain ⟨r, hr⟩ : ∃ r, rightE l k = r := ⟨_, rfl⟩
    rw [hr] at hb121 hg ⊢
    have s4 : ¬ l.length = 0 := by omega
    have s5 : ¬ 64 < l.length := by omega
    refine PCall_body Tryz.func202 rfl (by decide) Tryz.ntmps202 (by simp) Tryz.results202 ?_
    repeat' (first
 |refine AW_seq_k fun K hK=>?_|refine Step.by1 ?_|refine SBlock_exit_ne (by decide) ?_|refine cz rfl ?_|refine Fork.by2 (fun h=>?_) fun h=>?_
 |((first|refine AW_region_AO ?_|refine AS_call1 (f:=223) rfl rfl (hend) rfl rfl rfl ?_);simp [vl, s1, s2, s4, s5])
 |(refine Split.by2 (fun h=>?_) (fun h=>?_)<;>(simp [h, vl, s1, s2, s4, s5]))
 |(apply hK;clear hK K)|refine AWh (by assumption) ?_)
    refine AW_loopL [0, 1] (fun i : Nat => [(5, .int .i64 i)]) (fun _ => []) (fun i => i ≤ l.length ∧ ∀ j, j < i → rightAt l k j = false) (fun i => l.length - i) 0 ⟨Nat.zero_le _, fun j hj => by omega⟩ (by apply Weak.mk' <;> simp [vl]) (fun _ _ => rfl) ?_
    rintro i ⟨hi, hpre⟩
    by_cases hlt : i < l.length
    · have hbad := hb121 i hlt
      have hN := w.pos i hlt
      have hN1 := numN_succ hlt
      obtain ⟨x, hx⟩ : ∃ x, l[i] = x := ⟨_, rfl⟩
      have hgd : l.getD i default = x := by simp [List.getD, hlt, hx]
      have hra : rightAt l k i = (nodeBad k x || kidsBad l (ktakes x.op) (kparts x.op).toNat (i + 1)) := by unfold rightAt; rw [hgd]
      have hkp := kparts_le x.op
      have hnb := nodeBad_iff k x
      rw [hx] at hN1
      have hlt' : (i : Int) < l.length := by omega
      by_cases hB : nodeBad k x = true
      · have hr1 := hbad (by rw [hra, hB]; rfl)
        have hB' := hnb.1 hB
        repeat' (first
 |refine AW_seq_k fun K hK=>?_|refine Step.by1 ?_|refine SBlock_exit_ne (by decide) ?_|refine cz rfl ?_|refine Fork.by2 (fun h=>?_) fun h=>?_
 |(refine AW_region_AO ?_;simp [vl, NodeD.cells, hlt, hlt', hx, wrap_i64];try (simp (disch:=omega) only [wrap_i64];try simp [vl, NodeD.cells, hlt, hlt', hx, wrap_i64]))
 |(refine Split.by2 (fun h=>?_) (fun h=>?_)<;>(simp [h, vl, NodeD.cells, hlt, hlt', hx, wrap_i64];try (simp (disch:=omega) only [wrap_i64];try simp [vl, NodeD.cells, hlt, hlt', hx, wrap_i64])))
 |(apply hK;clear hK K)|refine AWh (by assumption) ?_)
        all_goals first
          | exact retq1 (conv_eq (by simp [hr1]) rfl)
          | (exfalso; omega)
          | trace_state
      · have hB' := mt hnb.2 hB
        have hnf : nodeBad k x = false := by simpa using hB
        rw [hnf, Bool.false_or] at hra
        have hpt := r_parts x.op
        have hnm := r_numbers x.op
        have htn := ktakes_knum (o := x.op)
        obtain ⟨p, hp⟩ := Int.eq_ofNat_of_zero_le hkp.1
        rw [hp] at hN1 hra hpt htn
        simp only [Int.toNat_natCast] at hra
        obtain ⟨tk, htk⟩ : ∃ tk, ktakes x.op = tk := ⟨_, rfl⟩
        rw [htk] at hra htn
        repeat' (first
 |refine AW_mid (id := 10) ⟨102, [(0, vl NodeD.cells l), (1, .int .i64 k), (5, .int .i64 i), (6, .int .u8 x.op)], []⟩ (Hold.mk ?_) (Hold.mk ?_)
 |refine AW_seq_k fun K hK=>?_|refine Step.by1 ?_|refine SBlock_exit_ne (by decide) ?_|refine cz rfl ?_|refine Fork.by2 (fun h=>?_) fun h=>?_
 |(refine AW_region_AO ?_;simp [vl, NodeD.cells, hlt, hlt', hx, wrap_i64];try (simp (disch:=omega) only [wrap_i64];try simp [vl, NodeD.cells, hlt, hlt', hx, wrap_i64]))
 |(refine Split.by2 (fun h=>?_) (fun h=>?_)<;>(simp [h, vl, NodeD.cells, hlt, hlt', hx, wrap_i64];try (simp (disch:=omega) only [wrap_i64];try simp [vl, NodeD.cells, hlt, hlt', hx, wrap_i64])))
 |(apply hK;clear hK K)|refine AWh (by assumption) ?_)
        all_goals (try (exfalso; omega))
        · refine Hold.out ?_
          repeat' (first
 |refine AW_seq_k fun K hK=>?_|refine Step.by1 ?_|refine SBlock_exit_ne (by decide) ?_|refine cz rfl ?_|refine Fork.by2 (fun h=>?_) fun h=>?_
 |(refine AW_region_AO ?_;simp [vl])
 |(refine Split.by2 (fun h=>?_) (fun h=>?_)<;>(simp [h, vl]))
 |refine SMeet_ret ?_
 |refine SMeet_exit ?_
 |(apply hK;clear hK K)|refine AWh (by assumption) ?_)
          all_goals first
            | (exfalso; omega)
            | (refine SMeet_normal ?_ rfl; apply Weak.mk' <;> simp [vl] <;> omega)
            | trace_state
        · refine Hold.out ?_
          have w1 : IntKind.i64.wrap ((i : Int) + 1) = i + 1 := wrap_i64 (by omega) (by omega)
          repeat' (first
 |refine AW_seq_k fun K hK=>?_|refine Step.by1 ?_|refine SBlock_exit_ne (by decide) ?_|refine cz rfl ?_|refine Fork.by2 (fun h=>?_) fun h=>?_
 |(refine AW_region_AO ?_;simp [vl, w1])
 |(refine Split.by2 (fun h=>?_) (fun h=>?_)<;>(simp [h, vl, w1]))
 |(apply hK;clear hK K)|refine AWh (by assumption) ?_)
          refine AW_loopL [0, 1, 5, 6] (fun s : Nat × Nat => [(9, .int .i64 (s.1 : Int)), (8, .int .i64 (s.2 : Int))]) (fun _ => []) (fun s => s.1 ≤ p ∧ s.2 ≤ l.length ∧ ((p : Int) - s.1) ≤ numN l s.2 ∧ kidsBad l tk (p - s.1) s.2 = kidsBad l tk p (i + 1)) (fun s => p - s.1) (0, i + 1) ⟨Nat.zero_le _, (by simp only; omega), (by simp only; omega), rfl⟩ (by apply Weak.mk' <;> simp [vl]) (fun _ _ => rfl) ?_
          rintro ⟨q, a⟩ ⟨j1, j2, j3, j4⟩
          simp only at j1 j2 j3 j4
          by_cases hq : q < p
          · have hq' : (q : Int) < p := by omega
            have hal : a < l.length := by
              rcases Nat.lt_or_ge a l.length with h' | h'
              · exact h'
              · have h2 := w.zero
                rw [show a = l.length by omega] at j3
                omega
            obtain ⟨e, he1, he2, he3, he4⟩ := whole_end w hal
            have hce := hend' a (by omega)
            rw [he1] at hce
            obtain ⟨y, hy⟩ : ∃ y, l[a] = y := ⟨_, rfl⟩
            have hcy := r_truth y.op
            rw [show p - q = (p - (q + 1)) + 1 by omega] at j4
            rw [kidsBad_succ'] at j4
            rw [show l.getD a default = y by simp [List.getD, hal, hy], he1, Int.toNat_natCast] at j4
            have hal' : (a : Int) < l.length := by omega
            have htk2 : tk = !knum x.op := htn (by omega)
            generalize knum x.op = kn at *
            generalize ktruth y.op = ty at *
            by_cases hty : ty = tk
            · have hbt : (ty == kn) = false := by rw [hty, htk2]; cases kn <;> rfl
              rw [show (ty != tk) = false by simp [hty], Bool.false_or] at j4
              repeat' (first
 |refine AW_seq_k fun K hK=>?_|refine Step.by1 ?_|refine SBlock_exit_ne (by decide) ?_|refine cz rfl ?_|refine Fork.by2 (fun h=>?_) fun h=>?_
 |((first|refine AW_region_AO ?_|refine AW_region_APx (id:=16) 9 mixed (by decide) ?_|refine AP_call1 (f:=225) rfl rfl (hcy) rfl rfl rfl ?_|refine AP_call1 (f:=226) rfl rfl (hnm) rfl rfl rfl ?_|refine AS_call1 (f:=225) rfl rfl (hcy) rfl rfl rfl ?_|refine AS_call1 (f:=226) rfl rfl (hnm) rfl rfl rfl ?_|refine AS_call1 (f:=224) rfl rfl (hpt) rfl rfl rfl ?_|refine AS_call1 (f:=223) rfl rfl (hce) rfl rfl rfl ?_);simp [vl, NodeD.cells, hq, hq', hal, hal', hy, hbt, wrap_i64];try (simp (disch:=omega) only [wrap_i64];try simp [vl, NodeD.cells, hq, hq', hal, hal', hy, hbt, wrap_i64]))
 |(refine Split.by2 (fun h=>?_) (fun h=>?_)<;>(simp [h, vl, NodeD.cells, hq, hq', hal, hal', hy, hbt, wrap_i64];try (simp (disch:=omega) only [wrap_i64];try simp [vl, NodeD.cells, hq, hq', hal, hal', hy, hbt, wrap_i64])))
 |(apply hK;clear hK K)|refine AWh (by assumption) ?_)
              refine ⟨q + 1, e, ⟨by omega, he3, by push_cast; omega, j4⟩, by omega, ?_⟩
              apply Weak.mk' <;> simp [vl]
            · have hbt : (ty == kn) = true := by rw [htk2] at hty; cases kn <;> cases ty <;> simp_all
              rw [show (ty != tk) = true by simp [hty], Bool.true_or] at j4
              rw [← j4] at hra
              have hr1 := hbad hra
              repeat' (first
 |refine AW_seq_k fun K hK=>?_|refine Step.by1 ?_|refine SBlock_exit_ne (by decide) ?_|refine cz rfl ?_|refine Fork.by2 (fun h=>?_) fun h=>?_
 |((first|refine AW_region_AO ?_|refine AW_region_APx (id:=16) 9 mixed (by decide) ?_|refine AP_call1 (f:=225) rfl rfl (hcy) rfl rfl rfl ?_|refine AP_call1 (f:=226) rfl rfl (hnm) rfl rfl rfl ?_|refine AS_call1 (f:=225) rfl rfl (hcy) rfl rfl rfl ?_|refine AS_call1 (f:=226) rfl rfl (hnm) rfl rfl rfl ?_|refine AS_call1 (f:=224) rfl rfl (hpt) rfl rfl rfl ?_);simp [vl, NodeD.cells, hq, hq', hal, hal', hy, hbt, wrap_i64];try (simp (disch:=omega) only [wrap_i64];try simp [vl, NodeD.cells, hq, hq', hal, hal', hy, hbt, wrap_i64]))
 |(refine Split.by2 (fun h=>?_) (fun h=>?_)<;>(simp [h, vl, NodeD.cells, hq, hq', hal, hal', hy, hbt, wrap_i64];try (simp (disch:=omega) only [wrap_i64];try simp [vl, NodeD.cells, hq, hq', hal, hal', hy, hbt, wrap_i64])))
 |(apply hK;clear hK K)|refine AWh (by assumption) ?_)
              exact retq1 (conv_eq (by simp [hr1]) rfl)
          · have hqe : q = p := by omega
            subst hqe
            rw [Nat.sub_self] at j4
            rw [← j4] at hra
            have hra' : rightAt l k i = false := hra
            repeat' (first
 |refine AW_seq_k fun K hK=>?_|refine Step.by1 ?_|refine SBlock_exit_ne (by decide) ?_|refine cz rfl ?_|refine Fork.by2 (fun h=>?_) fun h=>?_
 |((first|refine AW_region_AO ?_|refine AS_call1 (f:=224) rfl rfl (hpt) rfl rfl rfl ?_);simp [vl, NodeD.cells, wrap_i64];try (simp (disch:=omega) only [wrap_i64];try simp [vl, NodeD.cells, wrap_i64]))
 |(refine Split.by2 (fun h=>?_) (fun h=>?_)<;>(simp [h, vl, NodeD.cells, wrap_i64];try (simp (disch:=omega) only [wrap_i64];try simp [vl, NodeD.cells, wrap_i64])))
 |(apply hK;clear hK K)|refine AWh (by assumption) ?_)
            refine ⟨i + 1, ⟨by omega, fun j hj => ?_⟩, by omega, ?_⟩
            · rcases Nat.lt_or_ge j i with h' | h'
              · exact hpre j h'
              · rw [show j = i by omega]; exact hra'
            · apply Weak.mk' <;> simp [vl]
    · have hie : i = l.length := by omega
      subst hie
      have hr0 := hg hpre
      repeat' (first
 |refine AW_seq_k fun K hK=>?_|refine Step.by1 ?_|refine SBlock_exit_ne (by decide) ?_|refine cz rfl ?_|refine Fork.by2 (fun h=>?_) fun h=>?_
 |(refine AW_region_AO ?_;simp [vl, hlt])
 |(refine Split.by2 (fun h=>?_) (fun h=>?_)<;>(simp [h, vl, hlt]))
 |(apply hK;clear hK K)|refine AWh (by assumption) ?_)
      exact retq1 (conv_eq (by simp [hr0]) rfl)
end Go.Proofs.YtgmlimipejcpgaaGreatDoor
end

section
set_option linter.unusedVariables false
set_option linter.unusedSimpArgs false
namespace Go.Proofs.YtgmlimipejcpgaaGreatDoor
open Go Go.AM Fx
/-! How much there is, by the reference. -/
set_option maxRecDepth 8000 in
set_option maxHeartbeats 8000000 in
theorem r_long (n : NetD) (hn : n.ok) : PC 137 [.agg n.cells] (.bool (sizeNet n)) := by
  obtain ⟨⟨h1, _⟩, ⟨h2, _⟩, ⟨h3, _⟩, h4, h5⟩ := hn
  refine PCall_body Tryz.func137 rfl (by decide) Tryz.ntmps137 (by simp) Tryz.results137 ?_
  by_cases h0 : 8 < n.clocks.length ∨ 16 < n.vars.length ∨ 16 < n.chans.length ∨ 8 < n.autos.length
  · have hs : sizeNet n = true := by simp [sizeNet, h0]
    repeat' (first
 |refine AW_seq_k fun K hK=>?_|refine Step.by1 ?_|refine SBlock_exit_ne (by decide) ?_|refine cz rfl ?_|refine Fork.by2 (fun h=>?_) fun h=>?_
 |(refine AW_region_AO ?_;simp [vl, NetD.cells])
 |(refine Split.by2 (fun h=>?_) (fun h=>?_)<;>(simp [h, vl, NetD.cells]))
 |(apply hK;clear hK K)|refine AWh (by assumption) ?_)
    all_goals first
      | exact retq1 (conv_eq (by simp [hs]) rfl)
      | (exfalso; omega)
      | trace_state
  · have hs : sizeNet n = anyL sizeAuto n.autos := by simp [sizeNet, h0]
    have k1 : ¬ (8 : Int) < n.clocks.length := by omega
    have k2 : ¬ (16 : Int) < n.vars.length := by omega
    have k3 : ¬ (16 : Int) < n.chans.length := by omega
    have k4 : ¬ (8 : Int) < n.autos.length := by omega
    rw [hs]
    repeat' (first
 |refine AW_seq_k fun K hK=>?_|refine Step.by1 ?_|refine SBlock_exit_ne (by decide) ?_|refine cz rfl ?_|refine Fork.by2 (fun h=>?_) fun h=>?_
 |(refine AW_region_AO ?_;simp [vl, NetD.cells, k1, k2, k3, k4])
 |(refine Split.by2 (fun h=>?_) (fun h=>?_)<;>(simp [h, vl, NetD.cells, k1, k2, k3, k4]))
 |(apply hK;clear hK K)|refine AWh (by assumption) ?_)
    refine AW_scan (n.autos) 3 [1] (anyL sizeAuto) rfl (by apply Weak.mk' <;> simp [vl]) ?_ ?_
    · intro i a _ hlt ha hF
      have hoa := h5 a (ha ▸ List.getElem_mem hlt)
      obtain ⟨_, ⟨hl1, hl2⟩, he1, he2⟩ := hoa
      rw [anyL_cons] at hF
      by_cases hA : 64 < a.locs.length ∨ 256 < a.edges.length
      · have hA' : sizeAuto a = true := by simp [sizeAuto, hA]
        rw [hA', Bool.true_or] at hF
        repeat' (first
 |refine AW_seq_k fun K hK=>?_|refine Step.by1 ?_|refine SBlock_exit_ne (by decide) ?_|refine cz rfl ?_|refine Fork.by2 (fun h=>?_) fun h=>?_
 |(refine AW_region_AO ?_;simp [vl, AutoD.cells, hlt, ha, wrap_i64];try (simp (disch:=omega) only [wrap_i64];try simp [vl, AutoD.cells, hlt, ha, wrap_i64]))
 |(refine Split.by2 (fun h=>?_) (fun h=>?_)<;>(simp [h, vl, AutoD.cells, hlt, ha, wrap_i64];try (simp (disch:=omega) only [wrap_i64];try simp [vl, AutoD.cells, hlt, ha, wrap_i64])))
 |(apply hK;clear hK K)|refine AWh (by assumption) ?_)
        all_goals first
          | exact retq1 (conv_eq (by rw [← hF]; rfl) rfl)
          | (exfalso; omega)
          | trace_state
      · have hA' : sizeAuto a = (anyL sizeLoc a.locs || anyL sizeEdge a.edges) := by simp [sizeAuto, hA]
        have j1 : ¬ (64 : Int) < a.locs.length := by omega
        have j2 : ¬ (256 : Int) < a.edges.length := by omega
        rw [hA'] at hF
        repeat' (first
 |refine AW_seq_k fun K hK=>?_|refine Step.by1 ?_|refine SBlock_exit_ne (by decide) ?_|refine cz rfl ?_|refine Fork.by2 (fun h=>?_) fun h=>?_
 |(refine AW_region_AO ?_;simp [vl, AutoD.cells, hlt, ha, j1, j2, wrap_i64];try (simp (disch:=omega) only [wrap_i64];try simp [vl, AutoD.cells, hlt, ha, j1, j2, wrap_i64]))
 |(refine Split.by2 (fun h=>?_) (fun h=>?_)<;>(simp [h, vl, AutoD.cells, hlt, ha, j1, j2, wrap_i64];try (simp (disch:=omega) only [wrap_i64];try simp [vl, AutoD.cells, hlt, ha, j1, j2, wrap_i64])))
 |(apply hK;clear hK K)|refine AWh (by assumption) ?_)
        refine AW_scan (a.locs) 5 [1, 3, 4] (anyL sizeLoc) rfl (by apply Weak.mk' <;> simp [vl]) ?_ ?_
        · intro k x _ hkt hx hG
          rw [anyL_cons] at hG
          repeat' (first
 |refine AW_seq_k fun K hK=>?_|refine Step.by1 ?_|refine SBlock_exit_ne (by decide) ?_|refine cz rfl ?_|refine Fork.by2 (fun h=>?_) fun h=>?_
 |(refine AW_region_AO ?_;simp [vl, LocD.cells, hkt, hx, wrap_i64];try (simp (disch:=omega) only [wrap_i64];try simp [vl, LocD.cells, hkt, hx, wrap_i64]))
 |(refine Split.by2 (fun h=>?_) (fun h=>?_)<;>(simp [h, vl, LocD.cells, hkt, hx, wrap_i64];try (simp (disch:=omega) only [wrap_i64];try simp [vl, LocD.cells, hkt, hx, wrap_i64])))
 |(apply hK;clear hK K)|refine AWh (by assumption) ?_)
          all_goals first
            | exact retq1 (conv_eq (by rw [← hF, ← hG]; simp [sizeLoc]; omega) rfl)
            | (refine ⟨by rw [← hG]; simp [sizeLoc]; omega, ?_⟩; apply Weak.mk' <;> simp [vl])
            | trace_state
        · intro hG
          rw [← hG, anyL_nil, Bool.false_or] at hF
          repeat' (first
 |refine AW_seq_k fun K hK=>?_|refine Step.by1 ?_|refine SBlock_exit_ne (by decide) ?_|refine cz rfl ?_|refine Fork.by2 (fun h=>?_) fun h=>?_
 |(refine AW_region_AO ?_;simp [vl, wrap_i64];try (simp (disch:=omega) only [wrap_i64];try simp [vl, wrap_i64]))
 |(refine Split.by2 (fun h=>?_) (fun h=>?_)<;>(simp [h, vl, wrap_i64];try (simp (disch:=omega) only [wrap_i64];try simp [vl, wrap_i64])))
 |(apply hK;clear hK K)|refine AWh (by assumption) ?_)
          refine AW_scan (a.edges) 6 [1, 3, 4] (anyL sizeEdge) rfl (by apply Weak.mk' <;> simp [vl]) ?_ ?_
          · intro m y _ hmt hy hM
            have hoy := he2 y (hy ▸ List.getElem_mem hmt)
            have ok7 := hoy.2.2.2.2.2.2.1
            rw [anyL_cons] at hM
            by_cases hY : 16 < y.guards.length ∨ 16 < y.sets.length ∨ 64 < y.test.length
            · have hY' : sizeEdge y = true := by simp [sizeEdge, hY]
              rw [hY', Bool.true_or] at hM
              rw [← hM] at hF
              repeat' (first
 |refine AW_seq_k fun K hK=>?_|refine Step.by1 ?_|refine SBlock_exit_ne (by decide) ?_|refine cz rfl ?_|refine Fork.by2 (fun h=>?_) fun h=>?_
 |(refine AW_region_AO ?_;simp [vl, EdgeD.cells, hmt, hy, wrap_i64];try (simp (disch:=omega) only [wrap_i64];try simp [vl, EdgeD.cells, hmt, hy, wrap_i64]))
 |(refine Split.by2 (fun h=>?_) (fun h=>?_)<;>(simp [h, vl, EdgeD.cells, hmt, hy, wrap_i64];try (simp (disch:=omega) only [wrap_i64];try simp [vl, EdgeD.cells, hmt, hy, wrap_i64])))
 |(apply hK;clear hK K)|refine AWh (by assumption) ?_)
              all_goals first
                | exact retq1 (conv_eq (by rw [← hF]; simp) rfl)
                | (exfalso; omega)
                | trace_state
            · have hY' : sizeEdge y = anyL sizeSet y.sets := by simp [sizeEdge, hY]
              have i1 : ¬ (16 : Int) < y.guards.length := by omega
              have i2 : ¬ (16 : Int) < y.sets.length := by omega
              have i3 : ¬ (64 : Int) < y.test.length := by omega
              rw [hY'] at hM
              repeat' (first
 |refine AW_seq_k fun K hK=>?_|refine Step.by1 ?_|refine SBlock_exit_ne (by decide) ?_|refine cz rfl ?_|refine Fork.by2 (fun h=>?_) fun h=>?_
 |(refine AW_region_AO ?_;simp [vl, EdgeD.cells, hmt, hy, i1, i2, i3, wrap_i64];try (simp (disch:=omega) only [wrap_i64];try simp [vl, EdgeD.cells, hmt, hy, i1, i2, i3, wrap_i64]))
 |(refine Split.by2 (fun h=>?_) (fun h=>?_)<;>(simp [h, vl, EdgeD.cells, hmt, hy, i1, i2, i3, wrap_i64];try (simp (disch:=omega) only [wrap_i64];try simp [vl, EdgeD.cells, hmt, hy, i1, i2, i3, wrap_i64])))
 |(apply hK;clear hK K)|refine AWh (by assumption) ?_)
              refine AW_scan (y.sets) 8 [1, 3, 4, 6, 7] (anyL sizeSet) rfl (by apply Weak.mk' <;> simp [vl]) ?_ ?_
              · intro q z _ hqt hz hQ
                rw [anyL_cons] at hQ
                repeat' (first
 |refine AW_seq_k fun K hK=>?_|refine Step.by1 ?_|refine SBlock_exit_ne (by decide) ?_|refine cz rfl ?_|refine Fork.by2 (fun h=>?_) fun h=>?_
 |(refine AW_region_AO ?_;simp [vl, SetD.cells, hqt, hz, wrap_i64];try (simp (disch:=omega) only [wrap_i64];try simp [vl, SetD.cells, hqt, hz, wrap_i64]))
 |(refine Split.by2 (fun h=>?_) (fun h=>?_)<;>(simp [h, vl, SetD.cells, hqt, hz, wrap_i64];try (simp (disch:=omega) only [wrap_i64];try simp [vl, SetD.cells, hqt, hz, wrap_i64])))
 |(apply hK;clear hK K)|refine AWh (by assumption) ?_)
                all_goals first
                  | exact retq1 (conv_eq (by rw [← hF, ← hM, ← hQ]; simp [sizeSet]; omega) rfl)
                  | (refine ⟨by rw [← hQ]; simp [sizeSet]; omega, ?_⟩; apply Weak.mk' <;> simp [vl])
                  | trace_state
              · intro hQ
                rw [← hQ, anyL_nil, Bool.false_or] at hM
                repeat' (first
 |refine AW_seq_k fun K hK=>?_|refine Step.by1 ?_|refine SBlock_exit_ne (by decide) ?_|refine cz rfl ?_|refine Fork.by2 (fun h=>?_) fun h=>?_
 |(refine AW_region_AO ?_;simp [vl, wrap_i64];try (simp (disch:=omega) only [wrap_i64];try simp [vl, wrap_i64]))
 |(refine Split.by2 (fun h=>?_) (fun h=>?_)<;>(simp [h, vl, wrap_i64];try (simp (disch:=omega) only [wrap_i64];try simp [vl, wrap_i64])))
 |(apply hK;clear hK K)|refine AWh (by assumption) ?_)
                all_goals first
                  | (refine ⟨hM, ?_⟩; apply Weak.mk' <;> simp [vl])
                  | trace_state
          · intro hM
            rw [← hM, anyL_nil, Bool.false_or] at hF
            repeat' (first
 |refine AW_seq_k fun K hK=>?_|refine Step.by1 ?_|refine SBlock_exit_ne (by decide) ?_|refine cz rfl ?_|refine Fork.by2 (fun h=>?_) fun h=>?_
 |(refine AW_region_AO ?_;simp [vl, wrap_i64];try (simp (disch:=omega) only [wrap_i64];try simp [vl, wrap_i64]))
 |(refine Split.by2 (fun h=>?_) (fun h=>?_)<;>(simp [h, vl, wrap_i64];try (simp (disch:=omega) only [wrap_i64];try simp [vl, wrap_i64])))
 |(apply hK;clear hK K)|refine AWh (by assumption) ?_)
            all_goals first
              | (refine ⟨hF, ?_⟩; apply Weak.mk' <;> simp [vl])
              | trace_state
    · intro hF
      repeat' (first
 |refine AW_seq_k fun K hK=>?_|refine Step.by1 ?_|refine SBlock_exit_ne (by decide) ?_|refine cz rfl ?_|refine Fork.by2 (fun h=>?_) fun h=>?_
 |(refine AW_region_AO ?_;simp [vl])
 |(refine Split.by2 (fun h=>?_) (fun h=>?_)<;>(simp [h, vl]))
 |(apply hK;clear hK K)|refine AWh (by assumption) ?_)
      exact retq1 (conv_eq (by rw [← hF]; rfl) rfl)
end Go.Proofs.YtgmlimipejcpgaaGreatDoor
end

section
set_option linter.unusedVariables false
set_option linter.unusedSimpArgs false
namespace Go.Proofs.YtgmlimipejcpgaaGreatDoor
open Go Go.AM Fx
/-! The reference's look at a whole network. -/
theorem r_IsTruthB (l : List NodeD) : PC 203 [vl NodeD.cells l] (.bool (isTruthB l)) := by
  have := r_IsTruth l
  cases l <;> exact this
set_option maxHeartbeats 4000000 in
theorem r_testless (n : NetD) (l : List NodeD) (hl : l.length ≤ 1048576) : PC 154 [.agg n.cells, vl NodeD.cells l] (.bool (truthBad n l)) := by
  have hR := r_Right l n.vars.length hl
  have hT := r_IsTruthB l
  obtain ⟨r, hr⟩ : ∃ r, truthBad n l = r := ⟨_, rfl⟩
  rw [hr]
  unfold truthBad at hr
  simp only [vl] at hR hT
  generalize rightE l n.vars.length = q at *
  generalize isTruthB l = tb at *
  refine PCall_body Tryz.func154 rfl (by decide) Tryz.ntmps154 (by simp) Tryz.results154 ?_
  repeat' (first
 |refine AW_seq_k fun K hK=>?_|refine Step.by1 ?_|refine SBlock_exit_ne (by decide) ?_|refine cz rfl ?_|refine Fork.by2 (fun h=>?_) fun h=>?_
 |((first|refine AW_region_AO ?_|refine AS_call1 (f:=202) rfl rfl (hR) rfl rfl rfl ?_|refine AS_call1 (f:=203) rfl rfl (hT) rfl rfl rfl ?_);simp [vl, NetD.cells])
 |(refine Split.by2 (fun h=>?_) (fun h=>?_)<;>(simp [h, vl, NetD.cells]))
 |(apply hK;clear hK K)|refine AWh (by assumption) ?_)
  all_goals (try clear hR hT)
  all_goals first
    | exact retq1 (conv_eq (by rw [← hr]; simp [*]; done) rfl)
    | exact retq1 (conv_eq (by rw [← hr]; simp [*]; omega) rfl)
    | trace_state
theorem clkS_eq (n : NetD) (s : SetD) : clkS n s = decide (s.clock < 0 ∨ (n.clocks.length : Int) < s.clock) := by
  rw [Bool.eq_iff_iff]
  simp only [clkS, isClk, Bool.and_eq_true, Bool.not_eq_true', decide_eq_true_eq, decide_eq_false_iff_not]
  omega
set_option maxRecDepth 20000 in
set_option maxHeartbeats 16000000 in
theorem r_edge (n : NetD) (a : AutoD) (e : EdgeD) (way : Int) (he : e.ok) : PC 198 [.agg n.cells, .agg a.cells, .agg e.cells, .int .i64 way] (.bool (edgeW n a way e)) := by
  obtain ⟨_, _, _, ⟨ht1, ht2⟩, _, _, hs1, hs2⟩ := he
  obtain ⟨r, hr⟩ : ∃ r, edgeW n a way e = r := ⟨_, rfl⟩
  rw [hr]
  unfold edgeW at hr
  by_cases h123 : way = 123
  · subst h123
    rw [if_pos rfl] at hr
    have hE : edgeB n a e = decide (e.frm < 0 ∨ (a.locs.length : Int) ≤ e.frm ∨ e.to < 0 ∨ (a.locs.length : Int) ≤ e.to ∨ e.chan < 0 ∨ (n.chans.length : Int) < e.chan ∨ (e.chan = 0 ∧ e.send = true)) := by
      rw [Bool.eq_iff_iff]
      simp only [edgeB, isLoc, Bool.or_eq_true, Bool.and_eq_true, Bool.not_eq_true', decide_eq_true_eq, decide_eq_false_iff_not]
      constructor
      · rintro (h | h | h | h)
        · omega
        · omega
        · omega
        · exact .inr (.inr (.inr (.inr (.inr (.inr ⟨h.2, h.1⟩)))))
      · rintro (h | h | h | h | h | h | h)
        · left; omega
        · left; omega
        · right; left; omega
        · right; left; omega
        · right; right; left; omega
        · right; right; left; omega
        · right; right; right; exact ⟨h.2, h.1⟩
    rw [hE] at hr
    refine PCall_body Tryz.func198 rfl (by decide) Tryz.ntmps198 (by simp) Tryz.results198 ?_
    have hnn : ¬ (n.chans.length : Int) < 0 := by omega
    repeat' (first
 |refine AW_seq_k fun K hK=>?_|refine Step.by1 ?_|refine SBlock_exit_ne (by decide) ?_|refine cz rfl ?_|refine Fork.by2 (fun h=>?_) fun h=>?_
 |(refine AW_region_AO ?_;simp [vl, NetD.cells, AutoD.cells, EdgeD.cells])
 |(refine Split.by2 (fun h=>?_) (fun h=>?_)<;>(simp [h, vl, NetD.cells, AutoD.cells, EdgeD.cells]))
 |(apply hK;clear hK K)|refine AWh (by assumption) ?_)
    all_goals first
      | exact retq1 (conv_eq (by rw [← hr]; simp [hnn, *]; done) rfl)
      | exact retq1 (conv_eq (by rw [← hr]; simp [*]; done) rfl)
      | exact retq1 (conv_eq (by rw [← hr]; simp [*]; omega) rfl)
      | trace_state
  · rw [if_neg h123] at hr
    have hc := r_testless n e.test ht1
    simp only [NetD.cells, vl] at hc
    generalize truthBad n e.test = tb at *
    refine PCall_body Tryz.func198 rfl (by decide) Tryz.ntmps198 (by simp) Tryz.results198 ?_
    by_cases htb : way = 121 ∧ tb = true
    · obtain ⟨rfl, rfl⟩ := htb
      repeat' (first
 |refine AW_seq_k fun K hK=>?_|refine Step.by1 ?_|refine SBlock_exit_ne (by decide) ?_|refine cz rfl ?_|refine Fork.by2 (fun h=>?_) fun h=>?_
 |((first|refine AW_region_AO ?_|refine AS_call1 (f:=154) rfl rfl (hc) rfl rfl rfl ?_);simp [vl, NetD.cells, AutoD.cells, EdgeD.cells])
 |(refine Split.by2 (fun h=>?_) (fun h=>?_)<;>(simp [h, vl, NetD.cells, AutoD.cells, EdgeD.cells]))
 |(apply hK;clear hK K)|refine AWh (by assumption) ?_)
      exact retq1 (conv_eq (by rw [← hr]; rfl) rfl)
    · have hr' : anyL (setW n way) e.sets = r := by
        rw [← hr]
        by_cases h1 : way = 121
        · have : tb = false := by cases tb; rfl; exact absurd ⟨h1, rfl⟩ htb
          simp [this]
        · simp [h1]
      clear hr
      by_cases h121 : way = 121
      · subst h121
        have htf : tb = false := by cases tb; rfl; exact absurd ⟨rfl, rfl⟩ htb
        rw [htf] at hc
        repeat' (first
 |refine AW_seq_k fun K hK=>?_|refine Step.by1 ?_|refine SBlock_exit_ne (by decide) ?_|refine cz rfl ?_|refine Fork.by2 (fun h=>?_) fun h=>?_
 |((first|refine AW_region_AO ?_|refine AS_call1 (f:=154) rfl rfl (hc) rfl rfl rfl ?_);simp [vl, NetD.cells, AutoD.cells, EdgeD.cells])
 |(refine Split.by2 (fun h=>?_) (fun h=>?_)<;>(simp [h, vl, NetD.cells, AutoD.cells, EdgeD.cells]))
 |(apply hK;clear hK K)|refine AWh (by assumption) ?_)
        refine AW_scan (r := r) e.sets 9 [3, 4, 6] (anyL (setW n 121)) hr' (by apply Weak.mk' <;> simp [vl, NetD.cells, EdgeD.cells]) ?_ ?_
        · intro i x _ hlt hx hF
          rw [anyL_cons] at hF
          have hxo := hs2 x (hx ▸ List.getElem_mem hlt)
          have hR := r_Right x.expr n.vars.length hxo.2.2.2.1
          have hT := r_IsTruthB x.expr
          have hw : setW n 121 x = (decide (x.clock = 0) && (decide (x.var < 0 ∨ (n.vars.length : Int) ≤ x.var) || (decide (rightE x.expr n.vars.length ≠ 0) || isTruthB x.expr))) := by simp [setW, testS]
          have hlt' : (i : Int) < e.sets.length := by omega
          have w1 : IntKind.i64.wrap ((i : Int) + 1) = i + 1 := wrap_i64 (by omega) (by omega)
          simp only [vl] at hR hT
          generalize rightE x.expr n.vars.length = q at *
          generalize isTruthB x.expr = tb2 at *
          repeat' (first
 |refine AW_seq_k fun K hK=>?_|refine Step.by1 ?_|refine SBlock_exit_ne (by decide) ?_|refine cz rfl ?_|refine Fork.by2 (fun h=>?_) fun h=>?_
 |((first|refine AW_region_AO ?_|refine AS_call1 (f:=202) rfl rfl (hR) rfl rfl rfl ?_|refine AS_call1 (f:=203) rfl rfl (hT) rfl rfl rfl ?_);simp [vl, SetD.cells, NetD.cells, EdgeD.cells, hlt, hlt', hx, w1])
 |(refine Split.by2 (fun h=>?_) (fun h=>?_)<;>(simp [h, vl, SetD.cells, NetD.cells, EdgeD.cells, hlt, hlt', hx, w1]))
 |(apply hK;clear hK K)|refine AWh (by assumption) ?_)
          all_goals (try clear hR hT hc)
          all_goals first
            | exact retq1 (conv_eq (by rw [← hF, hw]; simp [*]; done) rfl)
            | exact retq1 (conv_eq (by rw [← hF, hw]; simp [*]; omega) rfl)
            | (refine ⟨by rw [← hF, hw]; simp [*]; done, ?_⟩; apply Weak.mk' <;> simp [vl, NetD.cells, EdgeD.cells])
            | (refine ⟨by rw [← hF, hw]; simp [*]; omega, ?_⟩; apply Weak.mk' <;> simp [vl, NetD.cells, EdgeD.cells])
            | trace_state
        · intro hF
          repeat' (first
 |refine AW_seq_k fun K hK=>?_|refine Step.by1 ?_|refine SBlock_exit_ne (by decide) ?_|refine cz rfl ?_|refine Fork.by2 (fun h=>?_) fun h=>?_
 |(refine AW_region_AO ?_;simp [vl, NetD.cells, EdgeD.cells])
 |(refine Split.by2 (fun h=>?_) (fun h=>?_)<;>(simp [h, vl, NetD.cells, EdgeD.cells]))
 |(apply hK;clear hK K)|refine AWh (by assumption) ?_)
          exact retq1 (conv_eq (by rw [← hF]; rfl) rfl)
      · repeat' (first
 |refine AW_seq_k fun K hK=>?_|refine Step.by1 ?_|refine SBlock_exit_ne (by decide) ?_|refine cz rfl ?_|refine Fork.by2 (fun h=>?_) fun h=>?_
 |(refine AW_region_AO ?_;simp [vl, NetD.cells, AutoD.cells, EdgeD.cells, h121, h123])
 |(refine Split.by2 (fun h=>?_) (fun h=>?_)<;>(simp [h, vl, NetD.cells, AutoD.cells, EdgeD.cells, h121, h123]))
 |(apply hK;clear hK K)|refine AWh (by assumption) ?_)
        refine AW_scan (r := r) e.sets 9 [3, 4, 6] (anyL (setW n way)) hr' (by apply Weak.mk' <;> simp [vl, NetD.cells, EdgeD.cells]) ?_ ?_
        · intro i x _ hlt hx hF
          rw [anyL_cons] at hF
          have hlt' : (i : Int) < e.sets.length := by omega
          have w1 : IntKind.i64.wrap ((i : Int) + 1) = i + 1 := wrap_i64 (by omega) (by omega)
          by_cases h12 : way = 12
          · subst h12
            have hw : setW n 12 x = decide (x.clock < 0 ∨ (n.clocks.length : Int) < x.clock) := by simp [setW, clkS_eq]
            repeat' (first
 |refine AW_seq_k fun K hK=>?_|refine Step.by1 ?_|refine SBlock_exit_ne (by decide) ?_|refine cz rfl ?_|refine Fork.by2 (fun h=>?_) fun h=>?_
 |(refine AW_region_AO ?_;simp [vl, SetD.cells, NetD.cells, EdgeD.cells, hlt, hlt', hx, w1])
 |(refine Split.by2 (fun h=>?_) (fun h=>?_)<;>(simp [h, vl, SetD.cells, NetD.cells, EdgeD.cells, hlt, hlt', hx, w1]))
 |(apply hK;clear hK K)|refine AWh (by assumption) ?_)
            all_goals first
              | exact retq1 (conv_eq (by rw [← hF, hw]; simp [*]; done) rfl)
              | exact retq1 (conv_eq (by rw [← hF, hw]; simp [*]; omega) rfl)
              | (refine ⟨by rw [← hF, hw]; simp [*]; done, ?_⟩; apply Weak.mk' <;> simp [vl, NetD.cells, EdgeD.cells])
              | (refine ⟨by rw [← hF, hw]; simp [*]; omega, ?_⟩; apply Weak.mk' <;> simp [vl, NetD.cells, EdgeD.cells])
              | trace_state
          · by_cases h7 : way = 7
            · subst h7
              have hw : setW n 7 x = decide (x.clock = 0 ∧ x.n ≠ 0 ∨ x.clock ≠ 0 ∧ (x.var ≠ 0 ∨ 0 < x.expr.length)) := by simp [setW, formS]
              repeat' (first
 |refine AW_seq_k fun K hK=>?_|refine Step.by1 ?_|refine SBlock_exit_ne (by decide) ?_|refine cz rfl ?_|refine Fork.by2 (fun h=>?_) fun h=>?_
 |(refine AW_region_AO ?_;simp [vl, SetD.cells, NetD.cells, EdgeD.cells, hlt, hlt', hx, w1])
 |(refine Split.by2 (fun h=>?_) (fun h=>?_)<;>(simp [h, vl, SetD.cells, NetD.cells, EdgeD.cells, hlt, hlt', hx, w1]))
 |(apply hK;clear hK K)|refine AWh (by assumption) ?_)
              all_goals first
                | exact retq1 (conv_eq (by rw [← hF, hw]; simp [*]; done) rfl)
                | exact retq1 (conv_eq (by rw [← hF, hw]; simp [*]; omega) rfl)
                | (refine ⟨by rw [← hF, hw]; simp [*]; done, ?_⟩; apply Weak.mk' <;> simp [vl, NetD.cells, EdgeD.cells])
                | (refine ⟨by rw [← hF, hw]; simp [*]; omega, ?_⟩; apply Weak.mk' <;> simp [vl, NetD.cells, EdgeD.cells])
                | trace_state
            · have hw : setW n way x = false := by simp [setW, h12, h7, h121]
              rw [hw, Bool.false_or] at hF
              repeat' (first
 |refine AW_seq_k fun K hK=>?_|refine Step.by1 ?_|refine SBlock_exit_ne (by decide) ?_|refine cz rfl ?_|refine Fork.by2 (fun h=>?_) fun h=>?_
 |(refine AW_region_AO ?_;simp [vl, SetD.cells, NetD.cells, EdgeD.cells, hlt, hlt', hx, w1, h12, h7, h121])
 |(refine Split.by2 (fun h=>?_) (fun h=>?_)<;>(simp [h, vl, SetD.cells, NetD.cells, EdgeD.cells, hlt, hlt', hx, w1, h12, h7, h121]))
 |(apply hK;clear hK K)|refine AWh (by assumption) ?_)
              refine ⟨hF, ?_⟩; apply Weak.mk' <;> simp [vl, NetD.cells, EdgeD.cells]
        · intro hF
          repeat' (first
 |refine AW_seq_k fun K hK=>?_|refine Step.by1 ?_|refine SBlock_exit_ne (by decide) ?_|refine cz rfl ?_|refine Fork.by2 (fun h=>?_) fun h=>?_
 |(refine AW_region_AO ?_;simp [vl, NetD.cells, EdgeD.cells])
 |(refine Split.by2 (fun h=>?_) (fun h=>?_)<;>(simp [h, vl, NetD.cells, EdgeD.cells]))
 |(apply hK;clear hK K)|refine AWh (by assumption) ?_)
          exact retq1 (conv_eq (by rw [← hF]; rfl) rfl)
end Go.Proofs.YtgmlimipejcpgaaGreatDoor
end

section
set_option linter.unusedVariables false
set_option linter.unusedSimpArgs false
namespace Go.Proofs.YtgmlimipejcpgaaGreatDoor
open Go Go.AM Fx
set_option maxRecDepth 20000 in
set_option maxHeartbeats 16000000 in
theorem r_wrong (n : NetD) (way : Int) (hn : n.ok) : PC 140 [.agg n.cells, .int .i64 way] (.bool (wrongB n way)) := by
  obtain ⟨_, _, _, h4, h5⟩ := hn
  refine PCall_body Tryz.func140 rfl (by decide) Tryz.ntmps140 (by simp) Tryz.results140 ?_
  repeat' (first
 |refine AW_seq_k fun K hK=>?_|refine Step.by1 ?_|refine SBlock_exit_ne (by decide) ?_|refine cz rfl ?_|refine Fork.by2 (fun h=>?_) fun h=>?_
 |(refine AW_region_AO ?_;simp [vl, NetD.cells])
 |(refine Split.by2 (fun h=>?_) (fun h=>?_)<;>(simp [h, vl, NetD.cells]))
 |(apply hK;clear hK K)|refine AWh (by assumption) ?_)
  refine AW_scan (r := wrongB n way) n.autos 5 [1, 2] (anyL (wrongA n way)) rfl (by apply Weak.mk' <;> simp [vl, NetD.cells]) ?_ ?_
  · intro i a _ hlt ha hF
    have hoa := h5 a (ha ▸ List.getElem_mem hlt)
    obtain ⟨_, ⟨hl1, hl2⟩, he1, he2⟩ := hoa
    rw [anyL_cons] at hF
    have hw : wrongA n way a = (anyL (locW n way) a.locs || anyL (edW n a way) a.edges) := rfl
    rw [hw] at hF
    have hlt' : (i : Int) < n.autos.length := by omega
    have w0 : IntKind.i64.wrap ((i : Int) + 1) = i + 1 := wrap_i64 (by omega) (by omega)
    repeat' (first
 |refine AW_seq_k fun K hK=>?_|refine Step.by1 ?_|refine SBlock_exit_ne (by decide) ?_|refine cz rfl ?_|refine Fork.by2 (fun h=>?_) fun h=>?_
 |(refine AW_region_AO ?_;simp [vl, NetD.cells, AutoD.cells, hlt, hlt', ha])
 |(refine Split.by2 (fun h=>?_) (fun h=>?_)<;>(simp [h, vl, NetD.cells, AutoD.cells, hlt, hlt', ha]))
 |(apply hK;clear hK K)|refine AWh (by assumption) ?_)
    refine AW_scan (r := anyL (locW n way) a.locs) a.locs 7 [1, 2, 5, 6] (anyL (locW n way)) rfl (by apply Weak.mk' <;> simp [vl, NetD.cells, AutoD.cells]) ?_ ?_
    · intro k x _ hkt hx hG
      rw [anyL_cons] at hG
      have hox := hl2 x (hx ▸ List.getElem_mem hkt)
      have hc := r_guards n x.inv way (by have := hox.2.2.1; omega)
      have hlw : locW n way x = (decide (way = 122) && decide (2 < x.kind) || anyL (wayG n way) x.inv) := rfl
      have hkt' : (k : Int) < a.locs.length := by omega
      have w1 : IntKind.i64.wrap ((k : Int) + 1) = k + 1 := wrap_i64 (by omega) (by omega)
      simp only [NetD.cells, vl] at hc
      generalize anyL (wayG n way) x.inv = kb at *
      by_cases h122 : way = 122
      · subst h122
        repeat' (first
 |refine AW_seq_k fun K hK=>?_|refine Step.by1 ?_|refine SBlock_exit_ne (by decide) ?_|refine cz rfl ?_|refine Fork.by2 (fun h=>?_) fun h=>?_
 |((first|refine AW_region_AO ?_|refine AW_region_APx (id:=8) 22 mixed (by decide) ?_|refine AP_call1 (f:=153) rfl rfl (hc) rfl rfl rfl ?_|refine AS_call1 (f:=153) rfl rfl (hc) rfl rfl rfl ?_);simp [vl, NetD.cells, AutoD.cells, LocD.cells, hkt, hkt', hx, w1])
 |(refine Split.by2 (fun h=>?_) (fun h=>?_)<;>(simp [h, vl, NetD.cells, AutoD.cells, LocD.cells, hkt, hkt', hx, w1]))
 |(apply hK;clear hK K)|refine AWh (by assumption) ?_)
        all_goals (try clear hc)
        all_goals first
          | exact retq1 (conv_eq (by rw [← hF, ← hG, hlw]; simp [*]; done) rfl)
          | (refine ⟨by rw [← hG, hlw]; simp [*]; done, ?_⟩; apply Weak.mk' <;> simp [vl, NetD.cells, AutoD.cells])
          | trace_state
      · repeat' (first
 |refine AW_seq_k fun K hK=>?_|refine Step.by1 ?_|refine SBlock_exit_ne (by decide) ?_|refine cz rfl ?_|refine Fork.by2 (fun h=>?_) fun h=>?_
 |((first|refine AW_region_AO ?_|refine AW_region_APx (id:=8) 22 mixed (by decide) ?_|refine AP_call1 (f:=153) rfl rfl (hc) rfl rfl rfl ?_|refine AS_call1 (f:=153) rfl rfl (hc) rfl rfl rfl ?_);simp [vl, NetD.cells, AutoD.cells, LocD.cells, hkt, hkt', hx, w1, h122])
 |(refine Split.by2 (fun h=>?_) (fun h=>?_)<;>(simp [h, vl, NetD.cells, AutoD.cells, LocD.cells, hkt, hkt', hx, w1, h122]))
 |(apply hK;clear hK K)|refine AWh (by assumption) ?_)
        all_goals (try clear hc)
        all_goals first
          | exact retq1 (conv_eq (by rw [← hF, ← hG, hlw]; simp [*]; done) rfl)
          | (refine ⟨by rw [← hG, hlw]; simp [*]; done, ?_⟩; apply Weak.mk' <;> simp [vl, NetD.cells, AutoD.cells])
          | trace_state
    · intro hG
      rw [← hG, anyL_nil, Bool.false_or] at hF
      repeat' (first
 |refine AW_seq_k fun K hK=>?_|refine Step.by1 ?_|refine SBlock_exit_ne (by decide) ?_|refine cz rfl ?_|refine Fork.by2 (fun h=>?_) fun h=>?_
 |(refine AW_region_AO ?_;simp [vl, NetD.cells, AutoD.cells])
 |(refine Split.by2 (fun h=>?_) (fun h=>?_)<;>(simp [h, vl, NetD.cells, AutoD.cells]))
 |(apply hK;clear hK K)|refine AWh (by assumption) ?_)
      refine AW_scan (r := anyL (edW n a way) a.edges) a.edges 8 [1, 2, 5, 6] (anyL (edW n a way)) rfl (by apply Weak.mk' <;> simp [vl, NetD.cells, AutoD.cells]) ?_ ?_
      · intro m y _ hmt hy hM
        rw [anyL_cons] at hM
        have hoy := he2 y (hy ▸ List.getElem_mem hmt)
        have hc := r_guards n y.guards way (by have := hoy.2.2.1.1; omega)
        have hc2 := r_edge n a y way hoy
        have hew : edW n a way y = (anyL (wayG n way) y.guards || edgeW n a way y) := rfl
        have hmt' : (m : Int) < a.edges.length := by omega
        have w1 : IntKind.i64.wrap ((m : Int) + 1) = m + 1 := wrap_i64 (by omega) (by omega)
        simp only [NetD.cells, AutoD.cells, EdgeD.cells, vl] at hc hc2
        generalize anyL (wayG n way) y.guards = kb at *
        generalize edgeW n a way y = kc at *
        repeat' (first
 |refine AW_seq_k fun K hK=>?_|refine Step.by1 ?_|refine SBlock_exit_ne (by decide) ?_|refine cz rfl ?_|refine Fork.by2 (fun h=>?_) fun h=>?_
 |((first|refine AW_region_AO ?_|refine AW_region_APx (id:=13) 20 mixed (by decide) ?_|refine AP_call1 (f:=153) rfl rfl (hc) rfl rfl rfl ?_|refine AP_call1 (f:=198) rfl rfl (hc2) rfl rfl rfl ?_|refine AS_call1 (f:=153) rfl rfl (hc) rfl rfl rfl ?_);simp [vl, NetD.cells, AutoD.cells, EdgeD.cells, hmt, hmt', hy, w1])
 |(refine Split.by2 (fun h=>?_) (fun h=>?_)<;>(simp [h, vl, NetD.cells, AutoD.cells, EdgeD.cells, hmt, hmt', hy, w1]))
 |(apply hK;clear hK K)|refine AWh (by assumption) ?_)
        all_goals (try clear hc hc2)
        all_goals first
          | exact retq1 (conv_eq (by rw [← hF, ← hM, hew]; simp [*]; done) rfl)
          | (refine ⟨by rw [← hM, hew]; simp [*]; done, ?_⟩; apply Weak.mk' <;> simp [vl, NetD.cells, AutoD.cells])
          | trace_state
      · intro hM
        rw [← hM, anyL_nil, Bool.false_or] at hF
        repeat' (first
 |refine AW_seq_k fun K hK=>?_|refine Step.by1 ?_|refine SBlock_exit_ne (by decide) ?_|refine cz rfl ?_|refine Fork.by2 (fun h=>?_) fun h=>?_
 |(refine AW_region_AO ?_;simp [vl, NetD.cells, w0])
 |(refine Split.by2 (fun h=>?_) (fun h=>?_)<;>(simp [h, vl, NetD.cells, w0]))
 |(apply hK;clear hK K)|refine AWh (by assumption) ?_)
        refine ⟨hF, ?_⟩; apply Weak.mk' <;> simp [vl, NetD.cells]
  · intro hF
    repeat' (first
 |refine AW_seq_k fun K hK=>?_|refine Step.by1 ?_|refine SBlock_exit_ne (by decide) ?_|refine cz rfl ?_|refine Fork.by2 (fun h=>?_) fun h=>?_
 |(refine AW_region_AO ?_;simp [vl, NetD.cells])
 |(refine Split.by2 (fun h=>?_) (fun h=>?_)<;>(simp [h, vl, NetD.cells]))
 |(apply hK;clear hK K)|refine AWh (by assumption) ?_)
    exact retq1 (conv_eq (by rw [← hF]; rfl) rfl)
end Go.Proofs.YtgmlimipejcpgaaGreatDoor
end

section
set_option linter.unusedVariables false
set_option linter.unusedSimpArgs false
namespace Go.Proofs.YtgmlimipejcpgaaGreatDoor
open Go Go.AM Fx
set_option maxRecDepth 20000 in
set_option maxHeartbeats 16000000 in
theorem r_Whole (n : NetD) (hn : n.ok) : PC 67 [.agg n.cells] (.int .i64 (wholeE n)) := by
  have hL := r_long n hn
  have hM := r_wrongNames n hn
  have hW := fun way => r_wrong n way hn
  obtain ⟨r, hr⟩ : ∃ r, wholeE n = r := ⟨_, rfl⟩
  rw [hr]
  rw [wholeE_ref, firstE_cons] at hr
  have e0 : someE n = if n.autos.length = 0 ∨ anyL noLocs n.autos = true then 2 else 0 := rfl
  have e1 : sizesE n = if sizeNet n = true then 6 else 0 := rfl
  have e2 : namesE n = if namesB n = true then 112 else 0 := rfl
  have e3 : varE n.vars = if anyL varV n.vars = true then 124 else 0 := rfl
  have l1 := hn.2.2.2.1
  have l2 := hn.2.1.1
  obtain ⟨_, _, _, h4, h5⟩ := hn
  rw [e0, e1, e2, e3] at hr
  clear e0 e1 e2 e3
  generalize sizeNet n = b1 at *
  generalize namesB n = b2 at *
  have hW122 := hW 122
  have hW123 := hW 123
  have hW12 := hW 12
  have hW7 := hW 7
  have hW121 := hW 121
  clear hW
  generalize wrongB n 122 = v1 at *
  generalize wrongB n 123 = v2 at *
  generalize wrongB n 12 = v3 at *
  generalize wrongB n 7 = v4 at *
  generalize wrongB n 121 = v5 at *
  simp only [vl, NetD.cells] at hL hM hW122 hW123 hW12 hW7 hW121
  refine PCall_body Tryz.func67 rfl (by decide) Tryz.ntmps67 (by simp) Tryz.results67 ?_
  by_cases h0 : n.autos.length = 0
  · rw [if_pos (by simp [h0]), if_pos (.inl h0)] at hr
    repeat' (first
 |refine AW_seq_k fun K hK=>?_|refine Step.by1 ?_|refine SBlock_exit_ne (by decide) ?_|refine cz rfl ?_|refine Fork.by2 (fun h=>?_) fun h=>?_
 |(refine AW_region_AO ?_;simp [vl, NetD.cells, h0])
 |(refine Split.by2 (fun h=>?_) (fun h=>?_)<;>(simp [h, vl, NetD.cells, h0]))
 |(apply hK;clear hK K)|refine AWh (by assumption) ?_)
    exact retq1 (conv_eq (by rw [← hr]; rfl) rfl)
  · have h0' : ¬ (n.autos.length : Int) = 0 := by omega
    obtain ⟨X, hX⟩ : ∃ X, firstE [if b1 = true then 6 else 0, if b2 = true then 112 else 0, if anyL varV n.vars = true then 124 else 0, if v1 = true then 122 else 0, if v2 = true then 123 else 0, if v3 = true then 12 else 0, if v4 = true then 7 else 0, if v5 = true then 121 else 0] = X := ⟨_, rfl⟩
    rw [hX] at hr
    obtain ⟨E, hE⟩ : ∃ E : List AutoD → Int, E = fun l => if anyL noLocs l = true then 2 else X := ⟨_, rfl⟩
    have hEc : ∀ a l, E (a :: l) = if noLocs a = true then 2 else E l := fun a l => by subst hE; by_cases h : noLocs a = true <;> simp [anyL_cons, h]
    have hEn : E n.autos = r := by subst hE; rw [← hr]; by_cases h : anyL noLocs n.autos = true <;> simp [h, h0]
    have hE0 : E [] = X := by subst hE; rfl
    clear hr hE
    repeat' (first
 |refine AW_seq_k fun K hK=>?_|refine Step.by1 ?_|refine SBlock_exit_ne (by decide) ?_|refine cz rfl ?_|refine Fork.by2 (fun h=>?_) fun h=>?_
 |(refine AW_region_AO ?_;simp [vl, NetD.cells, h0, h0'])
 |(refine Split.by2 (fun h=>?_) (fun h=>?_)<;>(simp [h, vl, NetD.cells, h0, h0']))
 |(apply hK;clear hK K)|refine AWh (by assumption) ?_)
    refine AW_scan (r := r) n.autos 3 [1] E hEn (by apply Weak.mk' <;> simp [vl, NetD.cells]) ?_ ?_
    · intro i a _ hlt ha hF
      rw [hEc] at hF
      have hoa := h5 a (ha ▸ List.getElem_mem hlt)
      have hal : a.locs.length ≤ 1048576 := hoa.2.1.1
      have hlt' : (i : Int) < n.autos.length := by omega
      have w1 : IntKind.i64.wrap ((i : Int) + 1) = i + 1 := wrap_i64 (by omega) (by omega)
      have hnl : noLocs a = decide (a.locs.length = 0) := rfl
      by_cases hz : a.locs.length = 0
      · rw [if_pos (by rw [hnl]; simp [hz])] at hF
        repeat' (first
 |refine AW_seq_k fun K hK=>?_|refine Step.by1 ?_|refine SBlock_exit_ne (by decide) ?_|refine cz rfl ?_|refine Fork.by2 (fun h=>?_) fun h=>?_
 |(refine AW_region_AO ?_;simp [vl, NetD.cells, AutoD.cells, hlt, hlt', ha, hz])
 |(refine Split.by2 (fun h=>?_) (fun h=>?_)<;>(simp [h, vl, NetD.cells, AutoD.cells, hlt, hlt', ha, hz]))
 |(apply hK;clear hK K)|refine AWh (by assumption) ?_)
        exact retq1 (conv_eq (by rw [← hF]; rfl) rfl)
      · have hz' : ¬ (a.locs.length : Int) = 0 := by omega
        rw [if_neg (by rw [hnl]; simp [hz])] at hF
        repeat' (first
 |refine AW_seq_k fun K hK=>?_|refine Step.by1 ?_|refine SBlock_exit_ne (by decide) ?_|refine cz rfl ?_|refine Fork.by2 (fun h=>?_) fun h=>?_
 |(refine AW_region_AO ?_;simp [vl, NetD.cells, AutoD.cells, hlt, hlt', ha, hz, hz', w1])
 |(refine Split.by2 (fun h=>?_) (fun h=>?_)<;>(simp [h, vl, NetD.cells, AutoD.cells, hlt, hlt', ha, hz, hz', w1]))
 |(apply hK;clear hK K)|refine AWh (by assumption) ?_)
        refine ⟨hF, ?_⟩; apply Weak.mk' <;> simp [vl, NetD.cells]
    · intro hF
      rw [hE0] at hF
      subst hF
      rw [firstE_cons] at hX
      clear hEc hEn hE0
      cases b1
      · rw [if_neg (by simp)] at hX
        rw [firstE_cons] at hX
        cases b2
        · rw [if_neg (by simp)] at hX
          rw [firstE_cons] at hX
          obtain ⟨Y, hY⟩ : ∃ Y, firstE [if v1 = true then 122 else 0, if v2 = true then 123 else 0, if v3 = true then 12 else 0, if v4 = true then 7 else 0, if v5 = true then 121 else 0] = Y := ⟨_, rfl⟩
          rw [hY] at hX
          obtain ⟨E2, hE2⟩ : ∃ E : List VarD → Int, E = fun l => if anyL varV l = true then 124 else Y := ⟨_, rfl⟩
          have hEc : ∀ a l, E2 (a :: l) = if varV a = true then 124 else E2 l := fun a l => by subst hE2; by_cases h : varV a = true <;> simp [anyL_cons, h]
          have hEn : E2 n.vars = X := by subst hE2; rw [← hX]; by_cases h : anyL varV n.vars = true <;> simp [h]
          have hE0 : E2 [] = Y := by subst hE2; rfl
          clear hX hE2
          repeat' (first
 |refine AW_seq_k fun K hK=>?_|refine Step.by1 ?_|refine SBlock_exit_ne (by decide) ?_|refine cz rfl ?_|refine Fork.by2 (fun h=>?_) fun h=>?_
 |((first|refine AW_region_AO ?_|refine AS_call1 (f:=137) rfl rfl (hL) rfl rfl rfl ?_|refine AS_call1 (f:=138) rfl rfl (hM) rfl rfl rfl ?_);simp [vl, NetD.cells])
 |(refine Split.by2 (fun h=>?_) (fun h=>?_)<;>(simp [h, vl, NetD.cells]))
 |(apply hK;clear hK K)|refine AWh (by assumption) ?_)
          refine AW_scan (r := X) n.vars 4 [1] E2 hEn (by apply Weak.mk' <;> simp [vl, NetD.cells]) ?_ ?_
          · intro i x _ hlt hx hF
            rw [hEc] at hF
            have hlt' : (i : Int) < n.vars.length := by omega
            have w1 : IntKind.i64.wrap ((i : Int) + 1) = i + 1 := wrap_i64 (by omega) (by omega)
            obtain ⟨k1, q1, hv1⟩ : ∃ b, (b = true ↔ (-1048576 ≤ x.lo ∧ x.lo ≤ 1048576)) ∧ PC 139 [.int .i64 x.lo] (.bool b) := ⟨_, by simp, r_isValue x.lo⟩
            obtain ⟨k2, q2, hv2⟩ : ∃ b, (b = true ↔ (-1048576 ≤ x.init ∧ x.init ≤ 1048576)) ∧ PC 139 [.int .i64 x.init] (.bool b) := ⟨_, by simp, r_isValue x.init⟩
            obtain ⟨k3, q3, hv3⟩ : ∃ b, (b = true ↔ (-1048576 ≤ x.hi ∧ x.hi ≤ 1048576)) ∧ PC 139 [.int .i64 x.hi] (.bool b) := ⟨_, by simp, r_isValue x.hi⟩
            have hvv : varV x = true ↔ (x.init < x.lo ∨ x.hi < x.init ∨ x.lo < -1048576 ∨ 1048576 < x.hi) := by simp [varV]
            cases k1 <;> cases k2 <;> cases k3
            all_goals
              simp only [Bool.false_eq_true, false_iff, true_iff] at q1 q2 q3
              repeat' (first
 |refine AW_seq_k fun K hK=>?_|refine Step.by1 ?_|refine SBlock_exit_ne (by decide) ?_|refine cz rfl ?_|refine Fork.by2 (fun h=>?_) fun h=>?_
 |((first|refine AW_region_AO ?_|refine AS_call1 (f:=139) rfl rfl (hv1) rfl rfl rfl ?_|refine AS_call1 (f:=139) rfl rfl (hv2) rfl rfl rfl ?_|refine AS_call1 (f:=139) rfl rfl (hv3) rfl rfl rfl ?_);simp [vl, NetD.cells, VarD.cells, hlt, hlt', hx, w1])
 |(refine Split.by2 (fun h=>?_) (fun h=>?_)<;>(simp [h, vl, NetD.cells, VarD.cells, hlt, hlt', hx, w1]))
 |(apply hK;clear hK K)|refine AWh (by assumption) ?_)
              all_goals (try clear hv1 hv2 hv3)
              all_goals first
                | exact retq1 (conv_eq (by rw [← hF, if_pos (hvv.2 (by omega))]; rfl) rfl)
                | (refine ⟨by rw [← hF, if_neg (fun h => by have := hvv.1 h; omega)], ?_⟩; apply Weak.mk' <;> simp [vl, NetD.cells])
                | (exfalso; omega)
                | trace_state
          · intro hF
            rw [hE0] at hF
            subst hF
            clear hEc hEn hE0
            repeat' (first
 |refine AW_seq_k fun K hK=>?_|refine Step.by1 ?_|refine SBlock_exit_ne (by decide) ?_|refine cz rfl ?_|refine Fork.by2 (fun h=>?_) fun h=>?_
 |(refine AW_region_AO ?_;simp [vl, NetD.cells])
 |(refine Split.by2 (fun h=>?_) (fun h=>?_)<;>(simp [h, vl, NetD.cells]))
 |(apply hK;clear hK K)|refine AWh (by assumption) ?_)
            refine AW_loopL [1, 6] (fun i : Nat => [(7, .int .i64 i)]) (fun _ => [.var n.cells, .row 30 0 0 true [[.int .i64 122], [.int .i64 123], [.int .i64 12], [.int .i64 7], [.int .i64 121]]])
              (fun i => i ≤ 5 ∧ firstE ([if v1 = true then 122 else 0, if v2 = true then 123 else 0, if v3 = true then 12 else 0, if v4 = true then 7 else 0, if v5 = true then 121 else 0].drop i) = Y) (fun i => 5 - i) 0 ⟨Nat.zero_le _, hY⟩ (by apply Weak.mk' <;> simp [vl, NetD.cells]) (fun _ _ => rfl) ?_
            clear hY
            rintro i ⟨hi, hF⟩
            rcases i with _ | _ | _ | _ | _ | _ | i
            · rw [show [if v1 = true then (122 : Int) else 0, if v2 = true then 123 else 0, if v3 = true then 12 else 0, if v4 = true then 7 else 0, if v5 = true then 121 else 0].drop 0 = (if v1 = true then 122 else 0) :: [if v1 = true then (122 : Int) else 0, if v2 = true then 123 else 0, if v3 = true then 12 else 0, if v4 = true then 7 else 0, if v5 = true then 121 else 0].drop 1 from rfl, firstE_cons] at hF
              cases v1
              · rw [if_neg (by simp)] at hF
                repeat' (first
 |refine AW_seq_k fun K hK=>?_|refine Step.by1 ?_|refine SBlock_exit_ne (by decide) ?_|refine cz rfl ?_|refine Fork.by2 (fun h=>?_) fun h=>?_
 |((first|refine AW_region_AO ?_|refine AW_region_APx (id:=22) 6 mixed (by decide) ?_|refine AP_call1 (f:=140) rfl rfl (hW122) rfl rfl rfl ?_);simp [vl, NetD.cells, wrap_i64];try (simp (disch:=omega) only [wrap_i64];try simp [vl, NetD.cells, wrap_i64]))
 |(refine Split.by2 (fun h=>?_) (fun h=>?_)<;>(simp [h, vl, NetD.cells, wrap_i64];try (simp (disch:=omega) only [wrap_i64];try simp [vl, NetD.cells, wrap_i64])))
 |(apply hK;clear hK K)|refine AWh (by assumption) ?_)
                refine ⟨1, ⟨by omega, hF⟩, by omega, ?_⟩; apply Weak.mk' <;> simp [vl, NetD.cells]
              · rw [if_pos (by simp)] at hF
                repeat' (first
 |refine AW_seq_k fun K hK=>?_|refine Step.by1 ?_|refine SBlock_exit_ne (by decide) ?_|refine cz rfl ?_|refine Fork.by2 (fun h=>?_) fun h=>?_
 |((first|refine AW_region_AO ?_|refine AW_region_APx (id:=22) 6 mixed (by decide) ?_|refine AP_call1 (f:=140) rfl rfl (hW122) rfl rfl rfl ?_);simp [vl, NetD.cells, wrap_i64];try (simp (disch:=omega) only [wrap_i64];try simp [vl, NetD.cells, wrap_i64]))
 |(refine Split.by2 (fun h=>?_) (fun h=>?_)<;>(simp [h, vl, NetD.cells, wrap_i64];try (simp (disch:=omega) only [wrap_i64];try simp [vl, NetD.cells, wrap_i64])))
 |(apply hK;clear hK K)|refine AWh (by assumption) ?_)
                exact retq1 (conv_eq (by rw [← hF]; rfl) rfl)
            · rw [show [if v1 = true then (122 : Int) else 0, if v2 = true then 123 else 0, if v3 = true then 12 else 0, if v4 = true then 7 else 0, if v5 = true then 121 else 0].drop 1 = (if v2 = true then 123 else 0) :: [if v1 = true then (122 : Int) else 0, if v2 = true then 123 else 0, if v3 = true then 12 else 0, if v4 = true then 7 else 0, if v5 = true then 121 else 0].drop 2 from rfl, firstE_cons] at hF
              cases v2
              · rw [if_neg (by simp)] at hF
                repeat' (first
 |refine AW_seq_k fun K hK=>?_|refine Step.by1 ?_|refine SBlock_exit_ne (by decide) ?_|refine cz rfl ?_|refine Fork.by2 (fun h=>?_) fun h=>?_
 |((first|refine AW_region_AO ?_|refine AW_region_APx (id:=22) 6 mixed (by decide) ?_|refine AP_call1 (f:=140) rfl rfl (hW123) rfl rfl rfl ?_);simp [vl, NetD.cells, wrap_i64];try (simp (disch:=omega) only [wrap_i64];try simp [vl, NetD.cells, wrap_i64]))
 |(refine Split.by2 (fun h=>?_) (fun h=>?_)<;>(simp [h, vl, NetD.cells, wrap_i64];try (simp (disch:=omega) only [wrap_i64];try simp [vl, NetD.cells, wrap_i64])))
 |(apply hK;clear hK K)|refine AWh (by assumption) ?_)
                refine ⟨2, ⟨by omega, hF⟩, by omega, ?_⟩; apply Weak.mk' <;> simp [vl, NetD.cells]
              · rw [if_pos (by simp)] at hF
                repeat' (first
 |refine AW_seq_k fun K hK=>?_|refine Step.by1 ?_|refine SBlock_exit_ne (by decide) ?_|refine cz rfl ?_|refine Fork.by2 (fun h=>?_) fun h=>?_
 |((first|refine AW_region_AO ?_|refine AW_region_APx (id:=22) 6 mixed (by decide) ?_|refine AP_call1 (f:=140) rfl rfl (hW123) rfl rfl rfl ?_);simp [vl, NetD.cells, wrap_i64];try (simp (disch:=omega) only [wrap_i64];try simp [vl, NetD.cells, wrap_i64]))
 |(refine Split.by2 (fun h=>?_) (fun h=>?_)<;>(simp [h, vl, NetD.cells, wrap_i64];try (simp (disch:=omega) only [wrap_i64];try simp [vl, NetD.cells, wrap_i64])))
 |(apply hK;clear hK K)|refine AWh (by assumption) ?_)
                exact retq1 (conv_eq (by rw [← hF]; rfl) rfl)
            · rw [show [if v1 = true then (122 : Int) else 0, if v2 = true then 123 else 0, if v3 = true then 12 else 0, if v4 = true then 7 else 0, if v5 = true then 121 else 0].drop 2 = (if v3 = true then 12 else 0) :: [if v1 = true then (122 : Int) else 0, if v2 = true then 123 else 0, if v3 = true then 12 else 0, if v4 = true then 7 else 0, if v5 = true then 121 else 0].drop 3 from rfl, firstE_cons] at hF
              cases v3
              · rw [if_neg (by simp)] at hF
                repeat' (first
 |refine AW_seq_k fun K hK=>?_|refine Step.by1 ?_|refine SBlock_exit_ne (by decide) ?_|refine cz rfl ?_|refine Fork.by2 (fun h=>?_) fun h=>?_
 |((first|refine AW_region_AO ?_|refine AW_region_APx (id:=22) 6 mixed (by decide) ?_|refine AP_call1 (f:=140) rfl rfl (hW12) rfl rfl rfl ?_);simp [vl, NetD.cells, wrap_i64];try (simp (disch:=omega) only [wrap_i64];try simp [vl, NetD.cells, wrap_i64]))
 |(refine Split.by2 (fun h=>?_) (fun h=>?_)<;>(simp [h, vl, NetD.cells, wrap_i64];try (simp (disch:=omega) only [wrap_i64];try simp [vl, NetD.cells, wrap_i64])))
 |(apply hK;clear hK K)|refine AWh (by assumption) ?_)
                refine ⟨3, ⟨by omega, hF⟩, by omega, ?_⟩; apply Weak.mk' <;> simp [vl, NetD.cells]
              · rw [if_pos (by simp)] at hF
                repeat' (first
 |refine AW_seq_k fun K hK=>?_|refine Step.by1 ?_|refine SBlock_exit_ne (by decide) ?_|refine cz rfl ?_|refine Fork.by2 (fun h=>?_) fun h=>?_
 |((first|refine AW_region_AO ?_|refine AW_region_APx (id:=22) 6 mixed (by decide) ?_|refine AP_call1 (f:=140) rfl rfl (hW12) rfl rfl rfl ?_);simp [vl, NetD.cells, wrap_i64];try (simp (disch:=omega) only [wrap_i64];try simp [vl, NetD.cells, wrap_i64]))
 |(refine Split.by2 (fun h=>?_) (fun h=>?_)<;>(simp [h, vl, NetD.cells, wrap_i64];try (simp (disch:=omega) only [wrap_i64];try simp [vl, NetD.cells, wrap_i64])))
 |(apply hK;clear hK K)|refine AWh (by assumption) ?_)
                exact retq1 (conv_eq (by rw [← hF]; rfl) rfl)
            · rw [show [if v1 = true then (122 : Int) else 0, if v2 = true then 123 else 0, if v3 = true then 12 else 0, if v4 = true then 7 else 0, if v5 = true then 121 else 0].drop 3 = (if v4 = true then 7 else 0) :: [if v1 = true then (122 : Int) else 0, if v2 = true then 123 else 0, if v3 = true then 12 else 0, if v4 = true then 7 else 0, if v5 = true then 121 else 0].drop 4 from rfl, firstE_cons] at hF
              cases v4
              · rw [if_neg (by simp)] at hF
                repeat' (first
 |refine AW_seq_k fun K hK=>?_|refine Step.by1 ?_|refine SBlock_exit_ne (by decide) ?_|refine cz rfl ?_|refine Fork.by2 (fun h=>?_) fun h=>?_
 |((first|refine AW_region_AO ?_|refine AW_region_APx (id:=22) 6 mixed (by decide) ?_|refine AP_call1 (f:=140) rfl rfl (hW7) rfl rfl rfl ?_);simp [vl, NetD.cells, wrap_i64];try (simp (disch:=omega) only [wrap_i64];try simp [vl, NetD.cells, wrap_i64]))
 |(refine Split.by2 (fun h=>?_) (fun h=>?_)<;>(simp [h, vl, NetD.cells, wrap_i64];try (simp (disch:=omega) only [wrap_i64];try simp [vl, NetD.cells, wrap_i64])))
 |(apply hK;clear hK K)|refine AWh (by assumption) ?_)
                refine ⟨4, ⟨by omega, hF⟩, by omega, ?_⟩; apply Weak.mk' <;> simp [vl, NetD.cells]
              · rw [if_pos (by simp)] at hF
                repeat' (first
 |refine AW_seq_k fun K hK=>?_|refine Step.by1 ?_|refine SBlock_exit_ne (by decide) ?_|refine cz rfl ?_|refine Fork.by2 (fun h=>?_) fun h=>?_
 |((first|refine AW_region_AO ?_|refine AW_region_APx (id:=22) 6 mixed (by decide) ?_|refine AP_call1 (f:=140) rfl rfl (hW7) rfl rfl rfl ?_);simp [vl, NetD.cells, wrap_i64];try (simp (disch:=omega) only [wrap_i64];try simp [vl, NetD.cells, wrap_i64]))
 |(refine Split.by2 (fun h=>?_) (fun h=>?_)<;>(simp [h, vl, NetD.cells, wrap_i64];try (simp (disch:=omega) only [wrap_i64];try simp [vl, NetD.cells, wrap_i64])))
 |(apply hK;clear hK K)|refine AWh (by assumption) ?_)
                exact retq1 (conv_eq (by rw [← hF]; rfl) rfl)
            · rw [show [if v1 = true then (122 : Int) else 0, if v2 = true then 123 else 0, if v3 = true then 12 else 0, if v4 = true then 7 else 0, if v5 = true then 121 else 0].drop 4 = (if v5 = true then 121 else 0) :: [if v1 = true then (122 : Int) else 0, if v2 = true then 123 else 0, if v3 = true then 12 else 0, if v4 = true then 7 else 0, if v5 = true then 121 else 0].drop 5 from rfl, firstE_cons] at hF
              cases v5
              · rw [if_neg (by simp)] at hF
                repeat' (first
 |refine AW_seq_k fun K hK=>?_|refine Step.by1 ?_|refine SBlock_exit_ne (by decide) ?_|refine cz rfl ?_|refine Fork.by2 (fun h=>?_) fun h=>?_
 |((first|refine AW_region_AO ?_|refine AW_region_APx (id:=22) 6 mixed (by decide) ?_|refine AP_call1 (f:=140) rfl rfl (hW121) rfl rfl rfl ?_);simp [vl, NetD.cells, wrap_i64];try (simp (disch:=omega) only [wrap_i64];try simp [vl, NetD.cells, wrap_i64]))
 |(refine Split.by2 (fun h=>?_) (fun h=>?_)<;>(simp [h, vl, NetD.cells, wrap_i64];try (simp (disch:=omega) only [wrap_i64];try simp [vl, NetD.cells, wrap_i64])))
 |(apply hK;clear hK K)|refine AWh (by assumption) ?_)
                refine ⟨5, ⟨by omega, hF⟩, by omega, ?_⟩; apply Weak.mk' <;> simp [vl, NetD.cells]
              · rw [if_pos (by simp)] at hF
                repeat' (first
 |refine AW_seq_k fun K hK=>?_|refine Step.by1 ?_|refine SBlock_exit_ne (by decide) ?_|refine cz rfl ?_|refine Fork.by2 (fun h=>?_) fun h=>?_
 |((first|refine AW_region_AO ?_|refine AW_region_APx (id:=22) 6 mixed (by decide) ?_|refine AP_call1 (f:=140) rfl rfl (hW121) rfl rfl rfl ?_);simp [vl, NetD.cells, wrap_i64];try (simp (disch:=omega) only [wrap_i64];try simp [vl, NetD.cells, wrap_i64]))
 |(refine Split.by2 (fun h=>?_) (fun h=>?_)<;>(simp [h, vl, NetD.cells, wrap_i64];try (simp (disch:=omega) only [wrap_i64];try simp [vl, NetD.cells, wrap_i64])))
 |(apply hK;clear hK K)|refine AWh (by assumption) ?_)
                exact retq1 (conv_eq (by rw [← hF]; rfl) rfl)
            · repeat' (first
 |refine AW_seq_k fun K hK=>?_|refine Step.by1 ?_|refine SBlock_exit_ne (by decide) ?_|refine cz rfl ?_|refine Fork.by2 (fun h=>?_) fun h=>?_
 |(refine AW_region_AO ?_;simp [vl, NetD.cells])
 |(refine Split.by2 (fun h=>?_) (fun h=>?_)<;>(simp [h, vl, NetD.cells]))
 |(apply hK;clear hK K)|refine AWh (by assumption) ?_)
              exact retq1 (conv_eq (by rw [← hF]; rfl) rfl)
            · omega
        · rw [if_pos (by simp)] at hX
          repeat' (first
 |refine AW_seq_k fun K hK=>?_|refine Step.by1 ?_|refine SBlock_exit_ne (by decide) ?_|refine cz rfl ?_|refine Fork.by2 (fun h=>?_) fun h=>?_
 |((first|refine AW_region_AO ?_|refine AS_call1 (f:=137) rfl rfl (hL) rfl rfl rfl ?_|refine AS_call1 (f:=138) rfl rfl (hM) rfl rfl rfl ?_);simp [vl, NetD.cells])
 |(refine Split.by2 (fun h=>?_) (fun h=>?_)<;>(simp [h, vl, NetD.cells]))
 |(apply hK;clear hK K)|refine AWh (by assumption) ?_)
          exact retq1 (conv_eq (by rw [← hX]; rfl) rfl)
      · rw [if_pos (by simp)] at hX
        repeat' (first
 |refine AW_seq_k fun K hK=>?_|refine Step.by1 ?_|refine SBlock_exit_ne (by decide) ?_|refine cz rfl ?_|refine Fork.by2 (fun h=>?_) fun h=>?_
 |((first|refine AW_region_AO ?_|refine AS_call1 (f:=137) rfl rfl (hL) rfl rfl rfl ?_);simp [vl, NetD.cells])
 |(refine Split.by2 (fun h=>?_) (fun h=>?_)<;>(simp [h, vl, NetD.cells]))
 |(apply hK;clear hK K)|refine AWh (by assumption) ?_)
        exact retq1 (conv_eq (by rw [← hX]; rfl) rfl)
end Go.Proofs.YtgmlimipejcpgaaGreatDoor
end

section
set_option linter.unusedVariables false
set_option linter.unusedSimpArgs false
namespace Go.Proofs.YtgmlimipejcpgaaGreatDoor
open Go Go.AM Fx
/-! Can a network be searched? -/
def edG (x : EdgeD) : Int := if greatE x.guards ≠ 0 then greatE x.guards else greatSE x.sets
def whereE (n : NetD) : (Int × Int × Int) × Int :=
  if wholeE n ≠ 0 then ((0, 0, 0), wholeE n)
  else if (searchE (fun l => diagE l.inv) (fun x => diagE x.guards) n.autos 0).2 ≠ 0 then searchE (fun l => diagE l.inv) (fun x => diagE x.guards) n.autos 0
  else searchE (fun l => greatE l.inv) edG n.autos 0
def netE (n : NetD) : Int := (whereE n).2
theorem c_Where1 (x : LocD) (hx : x.ok) : PC 60 [.agg x.cells] (.int .i64 (diagE x.inv)) := by
  have hc := c_diagE x.inv (by have := hx.2.2.1; omega)
  simp only [vl] at hc
  refine PCall_body Tryz.func60 rfl (by decide) Tryz.ntmps60 (by simp) Tryz.results60 ?_
  repeat' (first
 |refine AW_seq_k fun K hK=>?_|refine Step.by1 ?_|refine SBlock_exit_ne (by decide) ?_|refine cz rfl ?_|refine Fork.by2 (fun h=>?_) fun h=>?_
 |((first|refine AW_region_AO ?_|refine AS_call1 (f:=61) rfl rfl (hc) rfl rfl rfl ?_);simp [vl, LocD.cells])
 |(refine Split.by2 (fun h=>?_) (fun h=>?_)<;>(simp [h, vl, LocD.cells]))
 |(apply hK;clear hK K)|refine AWh (by assumption) ?_)
  exact retq1 (conv_eq rfl rfl)
theorem c_Where2 (x : EdgeD) (hx : x.ok) : PC 62 [.agg x.cells] (.int .i64 (diagE x.guards)) := by
  have hc := c_diagE x.guards (by have := hx.2.2.1.1; omega)
  simp only [vl] at hc
  refine PCall_body Tryz.func62 rfl (by decide) Tryz.ntmps62 (by simp) Tryz.results62 ?_
  repeat' (first
 |refine AW_seq_k fun K hK=>?_|refine Step.by1 ?_|refine SBlock_exit_ne (by decide) ?_|refine cz rfl ?_|refine Fork.by2 (fun h=>?_) fun h=>?_
 |((first|refine AW_region_AO ?_|refine AS_call1 (f:=61) rfl rfl (hc) rfl rfl rfl ?_);simp [vl, EdgeD.cells])
 |(refine Split.by2 (fun h=>?_) (fun h=>?_)<;>(simp [h, vl, EdgeD.cells]))
 |(apply hK;clear hK K)|refine AWh (by assumption) ?_)
  exact retq1 (conv_eq rfl rfl)
theorem c_Where3 (x : LocD) (hx : x.ok) : PC 63 [.agg x.cells] (.int .i64 (greatE x.inv)) := by
  have hc := c_greatE x.inv (by have := hx.2.2.1; omega)
  simp only [vl] at hc
  refine PCall_body Tryz.func63 rfl (by decide) Tryz.ntmps63 (by simp) Tryz.results63 ?_
  repeat' (first
 |refine AW_seq_k fun K hK=>?_|refine Step.by1 ?_|refine SBlock_exit_ne (by decide) ?_|refine cz rfl ?_|refine Fork.by2 (fun h=>?_) fun h=>?_
 |((first|refine AW_region_AO ?_|refine AS_call1 (f:=64) rfl rfl (hc) rfl rfl rfl ?_);simp [vl, LocD.cells])
 |(refine Split.by2 (fun h=>?_) (fun h=>?_)<;>(simp [h, vl, LocD.cells]))
 |(apply hK;clear hK K)|refine AWh (by assumption) ?_)
  exact retq1 (conv_eq rfl rfl)
theorem c_Where4 (x : EdgeD) (hx : x.ok) : PC 65 [.agg x.cells] (.int .i64 (edG x)) := by
  have hc := c_greatE x.guards (by have := hx.2.2.1.1; omega)
  have hc2 := c_greatSE x.sets (by have := hx.2.2.2.2.2.2.1; omega)
  obtain ⟨r, hr⟩ : ∃ r, edG x = r := ⟨_, rfl⟩
  rw [hr]
  unfold edG at hr
  simp only [vl] at hc hc2
  generalize greatE x.guards = k1 at *
  generalize greatSE x.sets = k2 at *
  refine PCall_body Tryz.func65 rfl (by decide) Tryz.ntmps65 (by simp) Tryz.results65 ?_
  by_cases hz : k1 = 0
  · rw [if_neg (by simp [hz])] at hr
    rw [hz] at hc
    repeat' (first
 |refine AW_seq_k fun K hK=>?_|refine Step.by1 ?_|refine SBlock_exit_ne (by decide) ?_|refine cz rfl ?_|refine Fork.by2 (fun h=>?_) fun h=>?_
 |((first|refine AW_region_AO ?_|refine AS_call1 (f:=64) rfl rfl (hc) rfl rfl rfl ?_|refine AS_call1 (f:=66) rfl rfl (hc2) rfl rfl rfl ?_);simp [vl, EdgeD.cells])
 |(refine Split.by2 (fun h=>?_) (fun h=>?_)<;>(simp [h, vl, EdgeD.cells]))
 |(apply hK;clear hK K)|refine AWh (by assumption) ?_)
    exact retq1 (conv_eq (by rw [← hr]; rfl) rfl)
  · rw [if_pos hz] at hr
    repeat' (first
 |refine AW_seq_k fun K hK=>?_|refine Step.by1 ?_|refine SBlock_exit_ne (by decide) ?_|refine cz rfl ?_|refine Fork.by2 (fun h=>?_) fun h=>?_
 |((first|refine AW_region_AO ?_|refine AS_call1 (f:=64) rfl rfl (hc) rfl rfl rfl ?_);simp [vl, EdgeD.cells, hz])
 |(refine Split.by2 (fun h=>?_) (fun h=>?_)<;>(simp [h, vl, EdgeD.cells, hz]))
 |(apply hK;clear hK K)|refine AWh (by assumption) ?_)
    exact retq1 (conv_eq (by rw [← hr]; rfl) rfl)
set_option maxRecDepth 20000 in
set_option maxHeartbeats 8000000 in
theorem c_Where (n : NetD) (hn : n.ok) : PC 12 [.agg n.cells] (spotE (whereE n)) := by
  have hW := c_Whole n hn
  have hS := c_search n hn 60 62 (fun l => diagE l.inv) (fun x => diagE x.guards) (fun a ha x hx => c_Where1 x ((hn.2.2.2.2 a ha).2.1.2 x hx)) (fun a ha x hx => c_Where2 x ((hn.2.2.2.2 a ha).2.2.2 x hx))
  have hT := c_search n hn 63 65 (fun l => greatE l.inv) edG (fun a ha x hx => c_Where3 x ((hn.2.2.2.2 a ha).2.1.2 x hx)) (fun a ha x hx => c_Where4 x ((hn.2.2.2.2 a ha).2.2.2 x hx))
  obtain ⟨r, hr⟩ : ∃ r, whereE n = r := ⟨_, rfl⟩
  rw [hr]
  unfold whereE at hr
  generalize wholeE n = w at *
  generalize searchE (fun l => diagE l.inv) (fun x => diagE x.guards) n.autos 0 = s at *
  generalize searchE (fun l => greatE l.inv) edG n.autos 0 = t at *
  obtain ⟨⟨s1, s2, s3⟩, s4⟩ := s
  obtain ⟨⟨t1, t2, t3⟩, t4⟩ := t
  simp only [vl, NetD.cells, spotE, spotV] at hW hS hT
  simp only at hr
  refine PCall_body Tryz.func12 rfl (by decide) Tryz.ntmps12 (by simp) Tryz.results12 ?_
  by_cases hw : w = 0
  · subst hw
    rw [if_neg (by simp)] at hr
    by_cases hs : s4 = 0
    · subst hs
      rw [if_neg (by simp)] at hr
      subst hr
      repeat' (first
 |refine AW_seq_k fun K hK=>?_|refine Step.by1 ?_|refine SBlock_exit_ne (by decide) ?_|refine cz rfl ?_|refine Fork.by2 (fun h=>?_) fun h=>?_
 |((first|refine AW_region_AO ?_|refine AS_call1 (f:=58) rfl rfl (hW) rfl rfl rfl ?_|refine AS_call1 (f:=59) rfl rfl (hS) rfl rfl rfl ?_|refine AS_call1 (f:=59) rfl rfl (hT) rfl rfl rfl ?_);simp [vl, NetD.cells])
 |(refine Split.by2 (fun h=>?_) (fun h=>?_)<;>(simp [h, vl, NetD.cells]))
 |(apply hK;clear hK K)|refine AWh (by assumption) ?_)
      exact retq2ct rfl (by simp) (conv_eq (by simp [spotE, spotV]) (by simp))
    · rw [if_pos hs] at hr
      subst hr
      repeat' (first
 |refine AW_seq_k fun K hK=>?_|refine Step.by1 ?_|refine SBlock_exit_ne (by decide) ?_|refine cz rfl ?_|refine Fork.by2 (fun h=>?_) fun h=>?_
 |((first|refine AW_region_AO ?_|refine AS_call1 (f:=58) rfl rfl (hW) rfl rfl rfl ?_|refine AS_call1 (f:=59) rfl rfl (hS) rfl rfl rfl ?_);simp [vl, NetD.cells, hs])
 |(refine Split.by2 (fun h=>?_) (fun h=>?_)<;>(simp [h, vl, NetD.cells, hs]))
 |(apply hK;clear hK K)|refine AWh (by assumption) ?_)
      exact retq2ct rfl (by simp) (conv_eq (by simp [spotE, spotV]) (by simp))
  · rw [if_pos hw] at hr
    subst hr
    repeat' (first
 |refine AW_seq_k fun K hK=>?_|refine Step.by1 ?_|refine SBlock_exit_ne (by decide) ?_|refine cz rfl ?_|refine Fork.by2 (fun h=>?_) fun h=>?_
 |((first|refine AW_region_AO ?_|refine AS_call1 (f:=58) rfl rfl (hW) rfl rfl rfl ?_);simp [vl, NetD.cells, hw])
 |(refine Split.by2 (fun h=>?_) (fun h=>?_)<;>(simp [h, vl, NetD.cells, hw]))
 |(apply hK;clear hK K)|refine AWh (by assumption) ?_)
    exact retq2ct rfl (by simp) (conv_eq (by simp [spotE, spotV]) (by simp))
theorem c_Net (n : NetD) (hn : n.ok) : PC 15 [.agg n.cells] (.int .i64 (netE n)) := by
  have hW := c_Where n hn
  unfold netE
  generalize whereE n = s at *
  obtain ⟨⟨s1, s2, s3⟩, s4⟩ := s
  simp only [vl, NetD.cells, spotE, spotV] at hW
  refine PCall_body Tryz.func15 rfl (by decide) Tryz.ntmps15 (by simp) Tryz.results15 ?_
  repeat' (first
 |refine AW_seq_k fun K hK=>?_|refine Step.by1 ?_|refine SBlock_exit_ne (by decide) ?_|refine cz rfl ?_|refine Fork.by2 (fun h=>?_) fun h=>?_
 |((first|refine AW_region_AO ?_|refine AS_call1 (f:=12) rfl rfl (hW) rfl rfl rfl ?_);simp [vl, NetD.cells])
 |(refine Split.by2 (fun h=>?_) (fun h=>?_)<;>(simp [h, vl, NetD.cells]))
 |(apply hK;clear hK K)|refine AWh (by assumption) ?_)
  exact retq1 (conv_eq rfl rfl)

/-! The same, by the reference. -/
def plW (way : Int) (x : LocD) : Int := if anyL (badG way) x.inv = true then way else 0
def peW (way : Int) (x : EdgeD) : Int := if (anyL (badG way) x.guards || anyL (badS way) x.sets) = true then way else 0
theorem plW_120 : plW 120 = fun l => diagE l.inv := funext fun x => by
  have : badG 120 = diagG := funext fun g => by simp [badG]
  simp only [plW, this]; rfl
theorem peW_120 : peW 120 = fun x => diagE x.guards := funext fun x => by
  have h1 : badG 120 = diagG := funext fun g => by simp [badG]
  have h2 : badS 120 = fun _ => false := funext fun g => by simp [badS]
  simp only [peW, h1, h2, anyL_false', Bool.or_false]; rfl
theorem plW_13 : plW 13 = fun l => greatE l.inv := funext fun x => by
  have : badG 13 = greatG := funext fun g => by simp [badG]
  simp only [plW, this]; rfl
theorem peW_13 : peW 13 = edG := funext fun x => by
  have h1 : badG 13 = greatG := funext fun g => by simp [badG]
  have h2 : badS 13 = greatS := funext fun g => by simp [badS]
  have e1 : greatE x.guards = if anyL greatG x.guards = true then 13 else 0 := rfl
  have e2 : greatSE x.sets = if anyL greatS x.sets = true then 13 else 0 := rfl
  simp only [peW, edG, h1, h2, e1, e2]
  cases anyL greatG x.guards <;> cases anyL greatS x.sets <;> rfl
def spotW (x : (Int × Int × Int) × Int) : V := .tup [spotV x.1.1 x.1.2.1 x.1.2.2, .bool (decide (x.2 ≠ 0))]
set_option maxRecDepth 20000 in
set_option maxHeartbeats 8000000 in
theorem r_where (n : NetD) (hn : n.ok) (way : Int) (hway : way ≠ 0) : PC 68 [.agg n.cells, .int .i64 way] (spotW (searchE (plW way) (peW way) n.autos 0)) := by
  obtain ⟨_, _, _, h4, h5⟩ := hn
  obtain ⟨r, hr⟩ : ∃ r, searchE (plW way) (peW way) n.autos 0 = r := ⟨_, rfl⟩
  rw [hr]
  refine PCall_body Tryz.func68 rfl (by decide) Tryz.ntmps68 (by simp) Tryz.results68 ?_
  repeat' (first
 |refine AW_seq_k fun K hK=>?_|refine Step.by1 ?_|refine SBlock_exit_ne (by decide) ?_|refine cz rfl ?_|refine Fork.by2 (fun h=>?_) fun h=>?_
 |(refine AW_region_AO ?_;simp [vl, NetD.cells])
 |(refine Split.by2 (fun h=>?_) (fun h=>?_)<;>(simp [h, vl, NetD.cells]))
 |(apply hK;clear hK K)|refine AWh (by assumption) ?_)
  refine AW_range (r := r) n.autos 6 [1, 2, 4] (fun c : Nat => []) (fun _ => [.var n.cells, .var [.int .i64 0, .int .i64 0, .int .i64 0]]) (fun i c => c = i) (searchE (plW way) (peW way)) 0
    hr rfl (by apply Weak.mk' <;> simp [vl, NetD.cells]) (fun _ _ _ => rfl) ?_ ?_
  · intro i c a _ hlt ha hJ hF
    subst hJ
    rw [searchE_cons] at hF
    have hm : a ∈ n.autos := ha ▸ List.getElem_mem hlt
    have hoa := h5 a hm
    obtain ⟨_, ⟨hl1, hl2⟩, he1, he2⟩ := hoa
    have hlt' : (c : Int) < n.autos.length := by omega
    have w0 : IntKind.i64.wrap ((c : Int) + 1) = c + 1 := wrap_i64 (by omega) (by omega)
    have hsA : searchA (plW way) (peW way) a = match firstAt (plW way) a.locs 0 with
      | some (k, e) => some (((k : Int), -1), e)
      | none => match firstAt (peW way) a.edges 0 with
        | some (k, e) => some ((-1, (k : Int)), e)
        | none => none := rfl
    obtain ⟨ra, hra⟩ : ∃ ra, firstAt (plW way) a.locs 0 = ra := ⟨_, rfl⟩
    obtain ⟨re, hre⟩ : ∃ re, firstAt (peW way) a.edges 0 = re := ⟨_, rfl⟩
    rw [hra, hre] at hsA
    rw [hsA] at hF
    clear hsA
    repeat' (first
 |refine AW_seq_k fun K hK=>?_|refine Step.by1 ?_|refine SBlock_exit_ne (by decide) ?_|refine cz rfl ?_|refine Fork.by2 (fun h=>?_) fun h=>?_
 |(refine AW_region_AO ?_;simp [vl, NetD.cells, AutoD.cells, hlt, hlt', ha])
 |(refine Split.by2 (fun h=>?_) (fun h=>?_)<;>(simp [h, vl, NetD.cells, AutoD.cells, hlt, hlt', ha]))
 |(apply hK;clear hK K)|refine AWh (by assumption) ?_)
    refine AW_range (r := ra) a.locs 7 [1, 2, 4, 6] (fun c : Nat => []) (fun _ => [.var n.cells, .var [.int .i64 0, .int .i64 0, .int .i64 0]]) (fun i c => c = i) (firstAt (plW way)) 0
      hra rfl (by apply Weak.mk' <;> simp [vl, NetD.cells, AutoD.cells]) (fun _ _ _ => rfl) ?_ ?_
    · intro k q x _ hkt hx hJ hG
      subst hJ
      rw [firstAt_cons] at hG
      have hox := hl2 x (hx ▸ List.getElem_mem hkt)
      have hc0 := r_bad x.inv [] way (by have := hox.2.2.1; omega) (by simp)
      have hc := PCall.denil (args := [vl GuardD.cells x.inv, .nils, .int .i64 way]) hc0 rfl
      have hp : plW way x = if anyL (badG way) x.inv = true then way else 0 := rfl
      rw [show (anyL (badG way) x.inv || anyL (badS way) []) = anyL (badG way) x.inv by rw [anyL_nil, Bool.or_false]] at hc
      clear hc0
      have hkt' : (q : Int) < a.locs.length := by omega
      have w1 : IntKind.i64.wrap ((q : Int) + 1) = q + 1 := wrap_i64 (by omega) (by omega)
      simp only [vl] at hc
      rw [hp] at hG
      clear hp
      cases hb : anyL (badG way) x.inv
      · rw [hb] at hc hG
        rw [if_neg (by simp)] at hG
        repeat' (first
 |refine AW_seq_k fun K hK=>?_|refine Step.by1 ?_|refine SBlock_exit_ne (by decide) ?_|refine cz rfl ?_|refine Fork.by2 (fun h=>?_) fun h=>?_
 |((first|refine AW_region_AO ?_|refine AS_call1 (f:=77) rfl rfl (hc) rfl rfl rfl ?_);simp [vl, NetD.cells, AutoD.cells, LocD.cells, hlt, hlt', ha, hkt, hkt', hx, w1])
 |(refine Split.by2 (fun h=>?_) (fun h=>?_)<;>(simp [h, vl, NetD.cells, AutoD.cells, LocD.cells, hlt, hlt', ha, hkt, hkt', hx, w1]))
 |(apply hK;clear hK K)|refine AWh (by assumption) ?_)
        exact ⟨q + 1, hG, rfl, by apply Weak.mk' <;> simp [vl, NetD.cells, AutoD.cells]⟩
      · rw [hb] at hc hG
        rw [if_pos (by simpa using hway)] at hG
        subst hG
        simp only at hF
        repeat' (first
 |refine AW_seq_k fun K hK=>?_|refine Step.by1 ?_|refine SBlock_exit_ne (by decide) ?_|refine cz rfl ?_|refine Fork.by2 (fun h=>?_) fun h=>?_
 |((first|refine AW_region_AO ?_|refine AS_call1 (f:=77) rfl rfl (hc) rfl rfl rfl ?_);simp [vl, NetD.cells, AutoD.cells, LocD.cells, hlt, hlt', ha, hkt, hkt', hx, w1])
 |(refine Split.by2 (fun h=>?_) (fun h=>?_)<;>(simp [h, vl, NetD.cells, AutoD.cells, LocD.cells, hlt, hlt', ha, hkt, hkt', hx, w1]))
 |(apply hK;clear hK K)|refine AWh (by assumption) ?_)
        exact retq2ct rfl (by simp) (conv_eq (by rw [← hF]; simp [spotW, spotV, hway]) (by simp))
    · intro q hJ hG
      rw [firstAt_nil] at hG
      subst hG
      simp only at hF
      repeat' (first
 |refine AW_seq_k fun K hK=>?_|refine Step.by1 ?_|refine SBlock_exit_ne (by decide) ?_|refine cz rfl ?_|refine Fork.by2 (fun h=>?_) fun h=>?_
 |(refine AW_region_AO ?_;simp [vl, NetD.cells, AutoD.cells, hlt, hlt', ha])
 |(refine Split.by2 (fun h=>?_) (fun h=>?_)<;>(simp [h, vl, NetD.cells, AutoD.cells, hlt, hlt', ha]))
 |(apply hK;clear hK K)|refine AWh (by assumption) ?_)
      refine AW_range (r := re) a.edges 8 [1, 2, 4, 6] (fun c : Nat => []) (fun _ => [.var n.cells, .var [.int .i64 0, .int .i64 0, .int .i64 0]]) (fun i c => c = i) (firstAt (peW way)) 0
        hre rfl (by apply Weak.mk' <;> simp [vl, NetD.cells, AutoD.cells]) (fun _ _ _ => rfl) ?_ ?_
      · intro k q2 y _ hkt hy hJ2 hG
        subst hJ2
        rw [firstAt_cons] at hG
        have hoy := he2 y (hy ▸ List.getElem_mem hkt)
        have hc := r_bad y.guards y.sets way (by have := hoy.2.2.1.1; omega) (by have := hoy.2.2.2.2.2.2.1; omega)
        have hp : peW way y = if (anyL (badG way) y.guards || anyL (badS way) y.sets) = true then way else 0 := rfl
        have hkt' : (q2 : Int) < a.edges.length := by omega
        have w1 : IntKind.i64.wrap ((q2 : Int) + 1) = q2 + 1 := wrap_i64 (by omega) (by omega)
        simp only [vl] at hc
        rw [hp] at hG
        clear hp
        cases hb : (anyL (badG way) y.guards || anyL (badS way) y.sets)
        · rw [hb] at hc hG
          rw [if_neg (by simp)] at hG
          repeat' (first
 |refine AW_seq_k fun K hK=>?_|refine Step.by1 ?_|refine SBlock_exit_ne (by decide) ?_|refine cz rfl ?_|refine Fork.by2 (fun h=>?_) fun h=>?_
 |((first|refine AW_region_AO ?_|refine AW_region_APx (id:=12) 22 mixed (by decide) ?_|refine AP_call1 (f:=77) rfl rfl (hc) rfl rfl rfl ?_);simp [vl, NetD.cells, AutoD.cells, EdgeD.cells, hlt, hlt', ha, hkt, hkt', hy, w1])
 |(refine Split.by2 (fun h=>?_) (fun h=>?_)<;>(simp [h, vl, NetD.cells, AutoD.cells, EdgeD.cells, hlt, hlt', ha, hkt, hkt', hy, w1]))
 |(apply hK;clear hK K)|refine AWh (by assumption) ?_)
          exact ⟨q2 + 1, hG, rfl, by apply Weak.mk' <;> simp [vl, NetD.cells, AutoD.cells]⟩
        · rw [hb] at hc hG
          rw [if_pos (by simpa using hway)] at hG
          subst hG
          simp only at hF
          repeat' (first
 |refine AW_seq_k fun K hK=>?_|refine Step.by1 ?_|refine SBlock_exit_ne (by decide) ?_|refine cz rfl ?_|refine Fork.by2 (fun h=>?_) fun h=>?_
 |((first|refine AW_region_AO ?_|refine AW_region_APx (id:=12) 22 mixed (by decide) ?_|refine AP_call1 (f:=77) rfl rfl (hc) rfl rfl rfl ?_);simp [vl, NetD.cells, AutoD.cells, EdgeD.cells, hlt, hlt', ha, hkt, hkt', hy, w1])
 |(refine Split.by2 (fun h=>?_) (fun h=>?_)<;>(simp [h, vl, NetD.cells, AutoD.cells, EdgeD.cells, hlt, hlt', ha, hkt, hkt', hy, w1]))
 |(apply hK;clear hK K)|refine AWh (by assumption) ?_)
          exact retq2ct rfl (by simp) (conv_eq (by rw [← hF]; simp [spotW, spotV, hway]) (by simp))
      · intro q2 hJ2 hG
        rw [firstAt_nil] at hG
        subst hG
        simp only at hF
        repeat' (first
 |refine AW_seq_k fun K hK=>?_|refine Step.by1 ?_|refine SBlock_exit_ne (by decide) ?_|refine cz rfl ?_|refine Fork.by2 (fun h=>?_) fun h=>?_
 |(refine AW_region_AO ?_;simp [vl, NetD.cells, AutoD.cells, hlt, hlt', ha, w0])
 |(refine Split.by2 (fun h=>?_) (fun h=>?_)<;>(simp [h, vl, NetD.cells, AutoD.cells, hlt, hlt', ha, w0]))
 |(apply hK;clear hK K)|refine AWh (by assumption) ?_)
        exact ⟨c + 1, hF, rfl, by apply Weak.mk' <;> simp [vl, NetD.cells]⟩
  · intro c hJ hF
    rw [searchE_nil] at hF
    repeat' (first
 |refine AW_seq_k fun K hK=>?_|refine Step.by1 ?_|refine SBlock_exit_ne (by decide) ?_|refine cz rfl ?_|refine Fork.by2 (fun h=>?_) fun h=>?_
 |(refine AW_region_AO ?_;simp [vl, NetD.cells])
 |(refine Split.by2 (fun h=>?_) (fun h=>?_)<;>(simp [h, vl, NetD.cells]))
 |(apply hK;clear hK K)|refine AWh (by assumption) ?_)
    exact retq2ct rfl (by simp) (conv_eq (by rw [← hF]; simp [spotW, spotV]) (by simp))
/-- What the second answer of a search is. -/
theorem firstAt_val {α : Type} {f : α → Int} {w : Int} (hf : ∀ x, f x = w ∨ f x = 0) : ∀ {l : List α} {i k : Nat} {e : Int}, firstAt f l i = some (k, e) → e = w
  | [], i, k, e, h => by cases h
  | x :: r, i, k, e, h => by
    rw [firstAt_cons] at h
    split at h
    · rename_i h0
      cases h
      exact (hf x).resolve_right h0
    · exact firstAt_val hf h
theorem searchE_val {pl : LocD → Int} {pe : EdgeD → Int} {w : Int} (hl : ∀ x, pl x = w ∨ pl x = 0) (he : ∀ x, pe x = w ∨ pe x = 0) : ∀ {l : List AutoD} {i : Nat}, (searchE pl pe l i).2 ≠ 0 → (searchE pl pe l i).2 = w
  | [], i, h => absurd rfl h
  | a :: r, i, h => by
    rw [searchE_cons] at h ⊢
    unfold searchA at h ⊢
    cases h1 : firstAt pl a.locs 0 with
    | some p => exact firstAt_val hl (k := p.1) (e := p.2) h1
    | none =>
      rw [h1] at h
      cases h2 : firstAt pe a.edges 0 with
      | some p => exact firstAt_val he (k := p.1) (e := p.2) h2
      | none =>
        rw [h2] at h
        exact searchE_val hl he h
set_option maxRecDepth 20000 in
set_option maxHeartbeats 8000000 in
theorem r_Where (n : NetD) (hn : n.ok) : PC 13 [.agg n.cells] (spotE (whereE n)) := by
  have hW := r_Whole n hn
  have hS := r_where n hn 120 (by decide)
  have hT := r_where n hn 13 (by decide)
  have vS := searchE_val (pl := plW 120) (pe := peW 120) (w := 120) (fun x => by unfold plW; split <;> simp) (fun x => by unfold peW; split <;> simp) (l := n.autos) (i := 0)
  have vT := searchE_val (pl := plW 13) (pe := peW 13) (w := 13) (fun x => by unfold plW; split <;> simp) (fun x => by unfold peW; split <;> simp) (l := n.autos) (i := 0)
  rw [plW_120, peW_120] at hS vS
  rw [plW_13, peW_13] at hT vT
  have z0 : (searchE (fun l => greatE l.inv) edG n.autos 0).2 = 0 → searchE (fun l => greatE l.inv) edG n.autos 0 = ((0, 0, 0), 0) := by
    generalize n.autos = l
    generalize (0 : Nat) = i
    have hz : ∀ {α : Type} {f : α → Int} {l : List α} {i k : Nat} {e : Int}, firstAt f l i = some (k, e) → e ≠ 0 := by
      intro α f l
      induction l with
      | nil => intro i k e h; cases h
      | cons x r ih =>
        intro i k e h
        rw [firstAt_cons] at h
        split at h
        · rename_i h0; cases h; exact h0
        · exact ih h
    induction l generalizing i with
    | nil => intro _; rfl
    | cons a r ih =>
      intro h
      rw [searchE_cons] at h ⊢
      unfold searchA at h ⊢
      cases h1 : firstAt (fun l : LocD => greatE l.inv) a.locs 0 with
      | some p => rw [h1] at h; exact absurd h (hz (k := p.1) (e := p.2) h1)
      | none =>
        rw [h1] at h
        cases h2 : firstAt edG a.edges 0 with
        | some p => rw [h2] at h; exact absurd h (hz (k := p.1) (e := p.2) h2)
        | none => rw [h2] at h; exact ih _ h
  obtain ⟨r, hr⟩ : ∃ r, whereE n = r := ⟨_, rfl⟩
  rw [hr]
  unfold whereE at hr
  generalize wholeE n = w at *
  generalize searchE (fun l => diagE l.inv) (fun x => diagE x.guards) n.autos 0 = s at *
  generalize searchE (fun l => greatE l.inv) edG n.autos 0 = t at *
  obtain ⟨⟨s1, s2, s3⟩, s4⟩ := s
  obtain ⟨⟨t1, t2, t3⟩, t4⟩ := t
  simp only [vl, NetD.cells, spotW, spotV] at hW hS hT
  simp only at hr vS vT z0
  refine PCall_body Tryz.func13 rfl (by decide) Tryz.ntmps13 (by simp) Tryz.results13 ?_
  by_cases hw : w = 0
  · subst hw
    rw [if_neg (by simp)] at hr
    by_cases hs : s4 = 0
    · subst hs
      rw [if_neg (by simp)] at hr
      subst hr
      by_cases ht : t4 = 0
      · have hz := z0 ht
        cases hz
        repeat' (first
 |refine AW_seq_k fun K hK=>?_|refine Step.by1 ?_|refine SBlock_exit_ne (by decide) ?_|refine cz rfl ?_|refine Fork.by2 (fun h=>?_) fun h=>?_
 |((first|refine AW_region_AO ?_|refine AS_call1 (f:=67) rfl rfl (hW) rfl rfl rfl ?_|refine AS_call1 (f:=68) rfl rfl (hS) rfl rfl rfl ?_|refine AS_call1 (f:=68) rfl rfl (hT) rfl rfl rfl ?_);simp [vl, NetD.cells])
 |(refine Split.by2 (fun h=>?_) (fun h=>?_)<;>(simp [h, vl, NetD.cells]))
 |(apply hK;clear hK K)|refine AWh (by assumption) ?_)
        exact retq2ct rfl (by simp) (conv_eq (by simp [spotE, spotV]) (by simp))
      · have ht' := vT ht
        subst ht'
        repeat' (first
 |refine AW_seq_k fun K hK=>?_|refine Step.by1 ?_|refine SBlock_exit_ne (by decide) ?_|refine cz rfl ?_|refine Fork.by2 (fun h=>?_) fun h=>?_
 |((first|refine AW_region_AO ?_|refine AS_call1 (f:=67) rfl rfl (hW) rfl rfl rfl ?_|refine AS_call1 (f:=68) rfl rfl (hS) rfl rfl rfl ?_|refine AS_call1 (f:=68) rfl rfl (hT) rfl rfl rfl ?_);simp [vl, NetD.cells])
 |(refine Split.by2 (fun h=>?_) (fun h=>?_)<;>(simp [h, vl, NetD.cells]))
 |(apply hK;clear hK K)|refine AWh (by assumption) ?_)
        exact retq2ct rfl (by simp) (conv_eq (by simp [spotE, spotV]) (by simp))
    · rw [if_pos hs] at hr
      subst hr
      have hs' := vS hs
      subst hs'
      repeat' (first
 |refine AW_seq_k fun K hK=>?_|refine Step.by1 ?_|refine SBlock_exit_ne (by decide) ?_|refine cz rfl ?_|refine Fork.by2 (fun h=>?_) fun h=>?_
 |((first|refine AW_region_AO ?_|refine AS_call1 (f:=67) rfl rfl (hW) rfl rfl rfl ?_|refine AS_call1 (f:=68) rfl rfl (hS) rfl rfl rfl ?_);simp [vl, NetD.cells, hs])
 |(refine Split.by2 (fun h=>?_) (fun h=>?_)<;>(simp [h, vl, NetD.cells, hs]))
 |(apply hK;clear hK K)|refine AWh (by assumption) ?_)
      exact retq2ct rfl (by simp) (conv_eq (by simp [spotE, spotV]) (by simp))
  · rw [if_pos hw] at hr
    subst hr
    repeat' (first
 |refine AW_seq_k fun K hK=>?_|refine Step.by1 ?_|refine SBlock_exit_ne (by decide) ?_|refine cz rfl ?_|refine Fork.by2 (fun h=>?_) fun h=>?_
 |((first|refine AW_region_AO ?_|refine AS_call1 (f:=67) rfl rfl (hW) rfl rfl rfl ?_);simp [vl, NetD.cells, hw])
 |(refine Split.by2 (fun h=>?_) (fun h=>?_)<;>(simp [h, vl, NetD.cells, hw]))
 |(apply hK;clear hK K)|refine AWh (by assumption) ?_)
    exact retq2ct rfl (by simp) (conv_eq (by simp [spotE, spotV]) (by simp))
theorem r_Net (n : NetD) (hn : n.ok) : PC 16 [.agg n.cells] (.int .i64 (netE n)) := by
  have hW := r_Where n hn
  unfold netE
  generalize whereE n = s at *
  obtain ⟨⟨s1, s2, s3⟩, s4⟩ := s
  simp only [vl, NetD.cells, spotE, spotV] at hW
  refine PCall_body Tryz.func16 rfl (by decide) Tryz.ntmps16 (by simp) Tryz.results16 ?_
  repeat' (first
 |refine AW_seq_k fun K hK=>?_|refine Step.by1 ?_|refine SBlock_exit_ne (by decide) ?_|refine cz rfl ?_|refine Fork.by2 (fun h=>?_) fun h=>?_
 |((first|refine AW_region_AO ?_|refine AS_call1 (f:=13) rfl rfl (hW) rfl rfl rfl ?_);simp [vl, NetD.cells])
 |(refine Split.by2 (fun h=>?_) (fun h=>?_)<;>(simp [h, vl, NetD.cells]))
 |(apply hK;clear hK K)|refine AWh (by assumption) ?_)
  exact retq1 (conv_eq rfl rfl)
end Go.Proofs.YtgmlimipejcpgaaGreatDoor
end

section
set_option linter.unusedVariables false
set_option linter.unusedSimpArgs false
namespace Go.Proofs.YtgmlimipejcpgaaGreatDoor
open Go Go.AM Fx
/-! The numbers that clocks are held against: the closures. -/
theorem leaves_drop {h x : List B} : Go.AM.Leaves h (h ++ x) h := ⟨Nat.le_refl _, by simp, fun b y hy => .inr ⟨by
  rw [List.getElem?_append_left (List.getElem?_eq_some_iff.1 hy).1]; exact hy, .inl hy⟩⟩
def raise1 (so : Int → Bool) (o : List Int) (g : GuardD) : List Int :=
  if so g.cmp = true then o.set (g.clock - 1).toNat (if g.n > o.getD (g.clock - 1).toNat 0 then g.n else o.getD (g.clock - 1).toNat 0) else o
def raiseL (so : Int → Bool) (l : List GuardD) (o : List Int) : List Int := l.foldl (raise1 so) o
theorem raiseL_nil {so : Int → Bool} {o : List Int} : raiseL so [] o = o := rfl
theorem raiseL_cons {so : Int → Bool} {g : GuardD} {l : List GuardD} {o : List Int} : raiseL so (g :: l) o = raiseL so l (raise1 so o g) := rfl
theorem raise1_len {so : Int → Bool} {g : GuardD} {o : List Int} : (raise1 so o g).length = o.length := by unfold raise1; split <;> simp
theorem raiseL_len {so : Int → Bool} : ∀ {l : List GuardD} {o : List Int}, (raiseL so l o).length = o.length
  | [], o => rfl
  | g :: l, o => by rw [raiseL_cons, raiseL_len, raise1_len]
def H5 (n : NetD) (fso : Nat) (o : List Int) : List B := [.var n.cells, .var [.fn (.func fso) [] []], .row 3 0 0 true (o.map fun k => [V.int .i64 k]), .var [.ref 2 0 0 o.length], .var [.fn (.func 157) [] [.ptr 1 0, .ptr 3 0]]]
theorem H5_len {n : NetD} {fso : Nat} {o : List Int} : (H5 n fso o).length = 5 := rfl
theorem cells_lt (n : NetD) (k : Nat) : V.lts k n.cells = true := by simp [NetD.cells, vl]
theorem H5_lt {n : NetD} {fso : Nat} {o : List Int} {k : Nat} (hk : 5 ≤ k) : ∀ y ∈ H5 n fso o, y.lt k := by
  intro y hy
  simp only [H5, List.mem_cons, List.not_mem_nil, or_false] at hy
  rcases hy with rfl | rfl | rfl | rfl | rfl
  · exact cells_lt n k
  · simp
  · simp
  · simp; omega
  · simp; omega
/-- A guard that is of the clocks. -/
def okG (N : Nat) (g : GuardD) : Prop := 1 ≤ g.clock ∧ g.clock ≤ N
set_option maxRecDepth 20000 in
set_option maxHeartbeats 8000000 in
theorem c_raise (n : NetD) (fso : Nat) (so : Int → Bool) (hso : ∀ c, PC fso [.int .u8 c] (.bool (so c))) (l : List GuardD) (o : List Int) (e : List B) (hN : o.length ≤ 1048576) (hl : l.length ≤ 1048576) (hg : ∀ g ∈ l, okG o.length g) (hE : ∀ y ∈ e, y.lt (5 + e.length)) :
    GCall Tryz.prog GV 157 [vl GuardD.cells l, .ptr 1 0, .ptr 3 0] (H5 n fso o ++ e) (fun v h' => v = .int .i64 0 ∧ h' = H5 n fso (raiseL so l o) ++ e) := by
  refine GCall_body Tryz.func157 rfl (by decide) Tryz.ntmps157 (by simp) Tryz.results157 ?_
  repeat' (first
 |refine AW_seq_k fun K hK=>?_|refine Step.by1 ?_|refine SBlock_exit_ne (by decide) ?_|refine cz rfl ?_|refine Fork.by2 (fun h=>?_) fun h=>?_
 |(refine AW_region_AO ?_;simp [vl])
 |(refine Split.by2 (fun h=>?_) (fun h=>?_)<;>(simp [h, vl]))
 |(apply hK;clear hK K)|refine AWh (by assumption) ?_)
  refine AW_range (r := raiseL so l o) l 9 [1, 2, 7, 8] (fun c : List Int => []) (fun c => H5 n fso c ++ e) (fun i c => c.length = o.length) (raiseL so) o
    rfl rfl (Weak.tail (x := []) (by simp) (by simp [vl, H5_len]; omega) (H5_lt (by simp [H5_len])) (fun y hy => by have := hE y hy; simpa [H5_len, Nat.add_comm] using this)) (fun _ _ _ => by simp [H5_len]) ?_ ?_
  · intro i c x _ hlt hx hJ hF
    rw [raiseL_cons] at hF
    obtain ⟨g1, g2⟩ := hg x (hx ▸ List.getElem_mem hlt)
    have hlt' : (i : Int) < l.length := by omega
    have w1 : IntKind.i64.wrap ((i : Int) + 1) = i + 1 := wrap_i64 (by omega) (by omega)
    have w2 : IntKind.i64.wrap (x.clock - 1) = x.clock - 1 := wrap_i64 (by omega) (by omega)
    obtain ⟨p, hp⟩ := Int.eq_ofNat_of_zero_le (show 0 ≤ x.clock - 1 by omega)
    have hpl : p < c.length := by omega
    have hpl' : (p : Int) < c.length := by omega
    have hc := hso x.cmp
    have h1 : raise1 so c x = if so x.cmp = true then c.set p (if x.n > c[p] then x.n else c[p]) else c := by
      unfold raise1; rw [hp]; simp [hpl]
    rw [h1] at hF
    obtain ⟨y, hy⟩ : ∃ y, c[p] = y := ⟨_, rfl⟩
    rw [hy] at hF
    rw [hp] at w2
    cases hs : so x.cmp
    · rw [hs] at hc hF
      rw [if_neg (by simp)] at hF
      repeat' (first
 |refine AW_seq_k fun K hK=>?_|refine Step.by1 ?_|refine SBlock_exit_ne (by decide) ?_|refine cz rfl ?_|refine Fork.by2 (fun h=>?_) fun h=>?_
 |(refine AW_region_AO ?_;simp [vl, H5, GuardD.cells, hlt, hlt', hx, w1])
 |(refine Split.by2 (fun h=>?_) (fun h=>?_)<;>(simp [h, vl, H5, GuardD.cells, hlt, hlt', hx, w1]))
 |(refine AS_call1 (f := fso) rfl rfl hc rfl rfl rfl ?_; simp [vl, H5, GuardD.cells])
 |(apply hK;clear hK K)|refine AWh (by assumption) ?_)
      refine ⟨c, hF, hJ, ?_⟩
      refine Weak.tail (a := H5 n fso c) (e := e) (x := [B.var x.cells]) (by simp [H5, GuardD.cells]) (by simp [vl, H5_len]; omega) (H5_lt (by simp [H5_len])) (fun y hy => by have := hE y hy; simpa [H5_len, Nat.add_comm] using this)
    · rw [hs] at hc hF
      rw [if_pos rfl] at hF
      repeat' (first
 |refine AW_seq_k fun K hK=>?_|refine Step.by1 ?_|refine SBlock_exit_ne (by decide) ?_|refine cz rfl ?_|refine Fork.by2 (fun h=>?_) fun h=>?_
 |((first|refine AW_region_AO ?_|refine AW_region_APx (id:=5) 14 mixed (by decide) ?_);simp [vl, H5, GuardD.cells, hlt, hlt', hx, w1, hp, w2, hpl, hpl', hy])
 |(refine Split.by2 (fun h=>?_) (fun h=>?_)<;>(simp [h, vl, H5, GuardD.cells, hlt, hlt', hx, w1, hp, w2, hpl, hpl', hy]))
 |(refine AS_call1 (f := fso) rfl rfl hc rfl rfl rfl ?_; simp [vl, H5, GuardD.cells])
 |(apply hK;clear hK K)|refine AWh (by assumption) ?_)
      refine ⟨_, hF, by simp [hJ], ?_⟩
      refine Weak.tail (a := H5 n fso _) (e := e) (x := [B.var x.cells]) (by simp [H5, GuardD.cells, hp]) (by simp [vl, H5_len]; omega) (H5_lt (by simp [H5_len])) (fun y hy => by have := hE y hy; simpa [H5_len, Nat.add_comm] using this)
  · intro c hJ hF
    rw [raiseL_nil] at hF
    subst hF
    repeat' (first
 |refine AW_seq_k fun K hK=>?_|refine Step.by1 ?_|refine SBlock_exit_ne (by decide) ?_|refine cz rfl ?_|refine Fork.by2 (fun h=>?_) fun h=>?_
 |(refine AW_region_AO ?_;simp [vl])
 |(refine Split.by2 (fun h=>?_) (fun h=>?_)<;>(simp [h, vl]))
 |(apply hK;clear hK K)|refine AWh (by assumption) ?_)
    exact retg1 ⟨rfl, rfl⟩ rfl (by simpa using Go.AM.Leaves.tail (a := H5 n fso o) (a' := H5 n fso (raiseL so l o)) (e := e) (x := []) (by simp [H5_len]) (H5_lt (by simp [H5_len])))
end Go.Proofs.YtgmlimipejcpgaaGreatDoor
end
