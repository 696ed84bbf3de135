/-
  YtgmlimipejcpgaaDoorCd15: steps of the proof of a law of the program: what these texts prove holds under the hypotheses that their theorems name, and no others.
-/
import Derived.Test.YtgmlimipejcpgaaDoorCd14
section
set_option linter.unusedSimpArgs false
set_option linter.unusedVariables false
namespace Go.Proofs.YtgmlimipejcpgaaDoor
open Go Go.AM Fx
theorem kidsBad_succ {l : List NodeD} {tk : Bool} {q a : Nat} : kidsBad l tk (q + 1) a = ((ktruth (l.getD a default).op != tk) || kidsBad l tk q (endAt l a).toNat) := rfl
set_option maxRecDepth 40000 in
set_option maxHeartbeats 8000000 in
theorem c_Right (l : List NodeD) (k : Int) (hl : l.length ≤ 1048576 ∧ ∀ x ∈ l, x.ok) (hk64 : I64 k) : PC 87 [vl NodeD.cells l, .int .i64 k] (.int .i64 (rightE l k)) := by
  have hend := c_End l hl 0 (by omega)
  obtain ⟨hl1, hl2⟩ := hl
  have hb121 := fun i hi h => rightE_bad (l := l) (k := k) (i := i) hi h
  have hg0 := rightE_good (l := l) (k := k)
  have hend' := fun j (hj : j ≤ 1099511627776) => c_End l ⟨hl1, hl2⟩ j hj
  by_cases hs : l.length = 0 ∨ 64 < l.length ∨ endAt l 0 ≠ l.length
  · have hr : rightE l k = 121 := by unfold rightE; rw [if_pos hs]
    rw [hr]
    simp only [vl] at hend
    generalize endAt l 0 = e0 at *
    refine pB Tryd.func87 rfl (by decide) Tryd.ntmps87 (by simp) Tryd.results87 ?_
    repeat' (first
 |refine aK fun K hK=>?_|refine Step.by1 ?_|refine sE (by decide) ?_|refine cz rfl ?_|refine Fork.by2 (fun h=>?_) fun h=>?_
 |((first|refine aR ?_|refine aC (f:=108) rfl rfl (hend) rfl rfl rfl ?_);simp [vl])
 |(refine Split.by2 (fun h=>?_) (fun h=>?_)<;>(simp [h, vl]))
 |(apply hK;clear hK K)|refine AWh ‹_› ?_)
    all_goals first
      | exact r1q (cE rfl rfl)
      | (exfalso; omega)
      | (exfalso; rcases hs with h' | h' | h'; exact absurd (List.eq_nil_of_length_eq_zero h') (by assumption); omega; omega)
  · have hg := hg0 hs
    obtain ⟨s1, s2, s3⟩ : ¬ (l.length : Int) = 0 ∧ ¬ (64 : Int) < l.length ∧ endAt l 0 = l.length := by
      refine ⟨by omega, by omega, ?_⟩
      by_cases h : endAt l 0 = l.length
      · exact h
      · exact absurd (.inr (.inr h)) hs
    have w := whole_of (by omega) s3
    rw [s3] at hend
    simp only [vl] at hend hend'
    obtain ⟨r, hr⟩ : ∃ r, rightE l k = r := ⟨_, rfl⟩
    rw [hr] at hb121 hg ⊢
    have s4 : ¬ l.length = 0 := by omega
    have s5 : ¬ 64 < l.length := by omega
    refine pB Tryd.func87 rfl (by decide) Tryd.ntmps87 (by simp) Tryd.results87 ?_
    repeat' (first
 |refine aK fun K hK=>?_|refine Step.by1 ?_|refine sE (by decide) ?_|refine cz rfl ?_|refine Fork.by2 (fun h=>?_) fun h=>?_
 |((first|refine aR ?_|refine aC (f:=108) rfl rfl (hend) rfl rfl rfl ?_);simp [vl, s1, s2, s4, s5])
 |(refine Split.by2 (fun h=>?_) (fun h=>?_)<;>(simp [h, vl, s1, s2, s4, s5]))
 |(apply hK;clear hK K)|refine AWh ‹_› ?_)
    refine aL [0, 1, 28, 29] (fun i : Nat => [(30, .int .i64 i)]) (fun _ => []) (fun i => i ≤ l.length ∧ ∀ j, j < i → rightAt l k j = false) (fun i => l.length - i) 0 ⟨Nat.zero_le _, fun j hj => by omega⟩ (by apply Weak.mk' <;> simp [vl]) (fun _ _ => rfl) ?_
    rintro i ⟨hi, hpre⟩
    by_cases hlt : i < l.length
    · have hbad := hb121 i hlt
      have hN := w.pos i hlt
      have hN1 := numN_succ hlt
      obtain ⟨x, hx⟩ : ∃ x, l[i] = x := ⟨_, rfl⟩
      have hxo := hl2 x (hx ▸ List.getElem_mem hlt)
      have hgd : l.getD i default = x := by simp [List.getD, hlt, hx]
      have hra : rightAt l k i = (nodeBad k x || kidsBad l (ktakes x.op) (kparts x.op).toNat (i + 1)) := by unfold rightAt; rw [hgd]
      have hc := c_of x.op hxo.1
      have hkp := kparts_le x.op
      rw [hx] at hN1
      simp only [kcells] at hc
      have hnb : nodeBad k x = (!known x.op || decide (x.n < 0 ∨ (if x.op = 1 then 1048576 else if x.op = 2 then (if k < 0 then 0 else k) - 1 else 0) < x.n)) := rfl
      generalize hkn : known x.op = kn at *
      obtain ⟨m, hm⟩ : ∃ m, (if x.op = 1 then (1048576 : Int) else if x.op = 2 then (if k < 0 then 0 else k) - 1 else 0) = m := ⟨_, rfl⟩
      rw [hm] at hnb
      have hw1 : IntKind.i64.wrap ((if k < 0 then 0 else k) - 1) = (if k < 0 then 0 else k) - 1 := wI (by unfold I64 at hk64; split <;> omega) (by unfold I64 at hk64; split <;> omega)
      repeat' (first
 |refine aK fun K hK=>?_|refine Step.by1 ?_|refine sE (by decide) ?_|refine cz rfl ?_|refine Fork.by2 (fun h=>?_) fun h=>?_
 |((first|refine aR ?_|refine aC (f:=109) rfl rfl (hc) rfl rfl rfl ?_);simp [vl, NodeD.cells, hlt, hx, hw1, wI];try (simp (disch:=omega) only [wI];try simp [vl, NodeD.cells, hlt, hx, hw1, wI]))
 |(refine Split.by2 (fun h=>?_) (fun h=>?_)<;>(simp [h, vl, NodeD.cells, hlt, hx, hw1, wI];try (simp (disch:=omega) only [wI];try simp [vl, NodeD.cells, hlt, hx, hw1, wI])))
 |(apply hK;clear hK K)|refine AWh ‹_› ?_)
      all_goals first
        | exact r1q (cE (by simp; exact (hbad (by rw [hra, hnb, ← hm]; simp [*])).symm) rfl)
        | skip
      all_goals
        have hnf : nodeBad k x = false := by rw [hnb, ← hm]; simp [*]; try omega
        rw [hnf, Bool.false_or] at hra
        obtain ⟨p, hp⟩ := Int.eq_ofNat_of_zero_le hkp.1
        rw [hp] at hN1 hra
        simp only [Int.toNat_natCast] at hra
        obtain ⟨tk, htk⟩ : ∃ tk, ktakes x.op = tk := ⟨_, rfl⟩
        rw [htk] at hra
        rw [hp, htk]
        refine aL [0, 1, 7, 28, 29, 30, 66] (fun s : Nat × Nat => [(67, .int .i64 (s.1 : Int)), (10, .int .i64 (s.2 : Int))]) (fun _ => [.var x.cells, .var [.int .i64 (p : Int), .bool (ktruth x.op), .bool tk, .str (ksign x.op), .int .i64 (kbinds x.op)]]) (fun s => s.1 ≤ p ∧ s.2 ≤ l.length ∧ ((p : Int) - s.1) ≤ numN l s.2 ∧ kidsBad l tk (p - s.1) s.2 = kidsBad l tk p (i + 1)) (fun s => p - s.1) (0, i + 1) ⟨Nat.zero_le _, (by simp only; omega), (by simp only; omega), rfl⟩ (by apply Weak.mk' <;> simp [vl, NodeD.cells]) (fun _ _ => rfl) ?_
        rintro ⟨q, a⟩ ⟨j1, j2, j3, j4⟩
        simp only at j1 j2 j3 j4
        by_cases hq : q < p
        · have hq' : (q : Int) < p := by omega
          have hal : a < l.length := by
            rcases Nat.lt_or_ge a l.length with h' | h'
            · exact h'
            · have h2 := w.zero
              rw [show a = l.length by omega] at j3
              omega
          obtain ⟨e, he1, he2, he3, he4⟩ := whole_end w hal
          have hce := hend' a (by omega)
          rw [he1] at hce
          obtain ⟨y, hy⟩ : ∃ y, l[a] = y := ⟨_, rfl⟩
          have hyo := hl2 y (hy ▸ List.getElem_mem hal)
          have hcy := c_of y.op hyo.1
          simp only [kcells] at hcy
          rw [show p - q = (p - (q + 1)) + 1 by omega] at j4
          rw [kidsBad_succ] at j4
          rw [show l.getD a default = y by simp [List.getD, hal, hy], he1, Int.toNat_natCast] at j4
          have hal' : (a : Int) < l.length := by omega
          by_cases hty : ktruth y.op = tk
          · have hbt : (ktruth y.op == tk) = true := by simp [hty]
            rw [show (ktruth y.op != tk) = false by simp [hty], Bool.false_or] at j4
            repeat' (first
 |refine aK fun K hK=>?_|refine Step.by1 ?_|refine sE (by decide) ?_|refine cz rfl ?_|refine Fork.by2 (fun h=>?_) fun h=>?_
 |((first|refine aR ?_|refine aC (f:=109) rfl rfl (hcy) rfl rfl rfl ?_|refine aC (f:=108) rfl rfl (hce) rfl rfl rfl ?_);simp [vl, NodeD.cells, hq, hq', hal, hal', hy, hbt, wI];try (simp (disch:=omega) only [wI];try simp [vl, NodeD.cells, hq, hq', hal, hal', hy, hbt, wI]))
 |(refine Split.by2 (fun h=>?_) (fun h=>?_)<;>(simp [h, vl, NodeD.cells, hq, hq', hal, hal', hy, hbt, wI];try (simp (disch:=omega) only [wI];try simp [vl, NodeD.cells, hq, hq', hal, hal', hy, hbt, wI])))
 |(apply hK;clear hK K)|refine AWh ‹_› ?_)
            refine ⟨q + 1, e, ⟨by omega, he3, by push_cast; omega, j4⟩, by omega, ?_⟩
            apply Weak.mk' <;> simp [vl, NodeD.cells]
          · have hbt : (ktruth y.op == tk) = false := by simp [hty]
            rw [show (ktruth y.op != tk) = true by simp [hty], Bool.true_or] at j4
            rw [← j4] at hra
            have hr1 := hbad hra
            repeat' (first
 |refine aK fun K hK=>?_|refine Step.by1 ?_|refine sE (by decide) ?_|refine cz rfl ?_|refine Fork.by2 (fun h=>?_) fun h=>?_
 |((first|refine aR ?_|refine aC (f:=109) rfl rfl (hcy) rfl rfl rfl ?_);simp [vl, NodeD.cells, hq, hq', hal, hal', hy, hbt, wI];try (simp (disch:=omega) only [wI];try simp [vl, NodeD.cells, hq, hq', hal, hal', hy, hbt, wI]))
 |(refine Split.by2 (fun h=>?_) (fun h=>?_)<;>(simp [h, vl, NodeD.cells, hq, hq', hal, hal', hy, hbt, wI];try (simp (disch:=omega) only [wI];try simp [vl, NodeD.cells, hq, hq', hal, hal', hy, hbt, wI])))
 |(apply hK;clear hK K)|refine AWh ‹_› ?_)
            exact r1q (cE (by simp [hr1]) rfl)
        · have hqe : q = p := by omega
          subst hqe
          rw [Nat.sub_self] at j4
          rw [← j4] at hra
          have hra' : rightAt l k i = false := hra
          repeat' (first
 |refine aK fun K hK=>?_|refine Step.by1 ?_|refine sE (by decide) ?_|refine cz rfl ?_|refine Fork.by2 (fun h=>?_) fun h=>?_
 |(refine aR ?_;simp [vl, NodeD.cells, wI];try (simp (disch:=omega) only [wI];try simp [vl, NodeD.cells, wI]))
 |(refine Split.by2 (fun h=>?_) (fun h=>?_)<;>(simp [h, vl, NodeD.cells, wI];try (simp (disch:=omega) only [wI];try simp [vl, NodeD.cells, wI])))
 |(apply hK;clear hK K)|refine AWh ‹_› ?_)
          refine ⟨i + 1, ⟨by omega, fun j hj => ?_⟩, by omega, ?_⟩
          · rcases Nat.lt_or_ge j i with h' | h'
            · exact hpre j h'
            · rw [show j = i by omega]; exact hra'
          · apply Weak.mk' <;> simp [vl]
    · have hie : i = l.length := by omega
      subst hie
      have hr0 := hg hpre
      repeat' (first
 |refine aK fun K hK=>?_|refine Step.by1 ?_|refine sE (by decide) ?_|refine cz rfl ?_|refine Fork.by2 (fun h=>?_) fun h=>?_
 |(refine aR ?_;simp [vl, hlt])
 |(refine Split.by2 (fun h=>?_) (fun h=>?_)<;>(simp [h, vl, hlt]))
 |(apply hK;clear hK K)|refine AWh ‹_› ?_)
      exact r1q (cE (by simp [hr0]) rfl)
def isTruthB (l : List NodeD) : Bool := match l with
  | [] => false
  | x :: _ => ktruth x.op
theorem c_IsTruthB (l : List NodeD) (hl : ∀ x ∈ l, x.ok) : PC 88 [vl NodeD.cells l] (.bool (isTruthB l)) := by
  have := c_IsTruth l hl
  cases l <;> exact this
def truthBad (n : NetD) (l : List NodeD) : Bool := decide (0 < l.length) && (decide (rightE l n.vars.length ≠ 0) || !isTruthB l)
def truthE (n : NetD) (l : List NodeD) : Int := if truthBad n l = true then 121 else 0
theorem c_truth (n : NetD) (l : List NodeD) (hl : l.length ≤ 1048576 ∧ ∀ x ∈ l, x.ok) (hv : n.vars.length ≤ 1048576) : PC 86 [.agg n.cells, vl NodeD.cells l] (.int .i64 (truthE n l)) := by
  have hR := c_Right l n.vars.length hl ⟨by omega, by omega⟩
  have hT : PC 88 [vl NodeD.cells l] (.bool (isTruthB l)) := c_IsTruthB l hl.2
  obtain ⟨r, hr⟩ : ∃ r, truthE n l = r := ⟨_, rfl⟩
  rw [hr]
  unfold truthE truthBad at hr
  simp only [vl] at hR hT
  generalize rightE l n.vars.length = q at *
  generalize isTruthB l = tb at *
  refine pB Tryd.func86 rfl (by decide) Tryd.ntmps86 (by simp) Tryd.results86 ?_
  repeat' (first
 |refine aK fun K hK=>?_|refine Step.by1 ?_|refine sE (by decide) ?_|refine cz rfl ?_|refine Fork.by2 (fun h=>?_) fun h=>?_
 |((first|refine aR ?_|refine aC (f:=87) rfl rfl (hR) rfl rfl rfl ?_|refine aC (f:=88) rfl rfl (hT) rfl rfl rfl ?_);simp [vl, NetD.cells])
 |(refine Split.by2 (fun h=>?_) (fun h=>?_)<;>(simp [h, vl, NetD.cells]))
 |(apply hK;clear hK K)|refine AWh ‹_› ?_)
  all_goals (try clear hR hT)
  all_goals first
    | exact r1q (cE (by rw [← hr]; simp [*]; done) rfl)
    | exact r1q (cE (by rw [← hr]; simp [*]; omega) rfl)
def testS (n : NetD) (s : SetD) : Bool := decide (s.clock = 0) && (decide (s.var < 0 ∨ (n.vars.length : Int) ≤ s.var) || (decide (rightE s.expr n.vars.length ≠ 0) || isTruthB s.expr))
def testsA (n : NetD) (a : AutoD) : Bool := anyL (fun e => truthBad n e.test) a.edges
def testsE (n : NetD) : Int := if anyL (testsA n) n.autos = true then 121 else if anyL (testS n) (setsL n) = true then 121 else 0
theorem setsL_mem {n : NetD} {s : SetD} (h : s ∈ setsL n) : ∃ a ∈ n.autos, ∃ e ∈ a.edges, s ∈ e.sets := by
  unfold setsL setsA at h
  simp only [List.mem_flatMap] at h
  exact h
set_option maxRecDepth 8000 in
set_option maxHeartbeats 8000000 in
theorem c_tests (n : NetD) (hn : n.ok) (hz : Small n) : PC 47 [.agg n.cells] (.int .i64 (testsE n)) := by
  have hs := c_sets n hz
  have hsl := setsL_len hz
  have hso : ∀ s ∈ setsL n, s.ok := fun s h => by
    obtain ⟨a, h1, e, h2, h3⟩ := setsL_mem h
    exact (((hn.2.2.2.2 a h1).2.2.2 e h2).2.2.2.2.2.2.2 s h3)
  have hvars : n.vars.length ≤ 1048576 := hn.2.1.1
  obtain ⟨_, _, _, h4, h5⟩ := hn
  obtain ⟨r, hr⟩ : ∃ r, testsE n = r := ⟨_, rfl⟩
  rw [hr]
  unfold testsE at hr
  refine pB Tryd.func47 rfl (by decide) Tryd.ntmps47 (by simp) Tryd.results47 ?_
  repeat' (first
 |refine aK fun K hK=>?_|refine Step.by1 ?_|refine sE (by decide) ?_|refine cz rfl ?_|refine Fork.by2 (fun h=>?_) fun h=>?_
 |(refine aR ?_;simp [vl, NetD.cells])
 |(refine Split.by2 (fun h=>?_) (fun h=>?_)<;>(simp [h, vl, NetD.cells]))
 |(apply hK;clear hK K)|refine AWh ‹_› ?_)
  refine aS1 (n.autos) 13 [1, 11, 12] (anyL (testsA n)) rfl (by apply Weak.mk' <;> simp [vl]) ?_ ?_
  · intro i a _ hlt ha hF
    have hoa := h5 a (ha ▸ List.getElem_mem hlt)
    obtain ⟨_, _, he1, he2⟩ := hoa
    rw [anC] at hF
    have hA : testsA n a = anyL (fun e => truthBad n e.test) a.edges := rfl
    repeat' (first
 |refine aK fun K hK=>?_|refine Step.by1 ?_|refine sE (by decide) ?_|refine cz rfl ?_|refine Fork.by2 (fun h=>?_) fun h=>?_
 |(refine aR ?_;simp [vl, AutoD.cells, hlt, ha, wI];try (simp (disch:=omega) only [wI];try simp [vl, AutoD.cells, hlt, ha, wI]))
 |(refine Split.by2 (fun h=>?_) (fun h=>?_)<;>(simp [h, vl, AutoD.cells, hlt, ha, wI];try (simp (disch:=omega) only [wI];try simp [vl, AutoD.cells, hlt, ha, wI])))
 |(apply hK;clear hK K)|refine AWh ‹_› ?_)
    refine aS1 (a.edges) 20 [1, 11, 12, 13, 18, 19] (anyL (fun e => truthBad n e.test)) rfl (by apply Weak.mk' <;> simp [vl]) ?_ ?_
    · intro m y _ hmt hy hM
      have hoy := he2 y (hy ▸ List.getElem_mem hmt)
      rw [anC] at hM
      have hc := c_truth n y.test hoy.2.2.2.1 hvars
      have hte : truthE n y.test = if truthBad n y.test = true then 121 else 0 := rfl
      simp only [NetD.cells, vl] at hc
      by_cases hb : truthBad n y.test = true
      · rw [hb, Bool.true_or] at hM
        rw [hA, ← hM, Bool.true_or] at hF
        rw [← hF, if_pos rfl] at hr
        rw [hte, if_pos hb] at hc
        repeat' (first
 |refine aK fun K hK=>?_|refine Step.by1 ?_|refine sE (by decide) ?_|refine cz rfl ?_|refine Fork.by2 (fun h=>?_) fun h=>?_
 |((first|refine aR ?_|refine aC (f:=86) rfl rfl (hc) rfl rfl rfl ?_);simp [vl, EdgeD.cells, NetD.cells, hmt, hy, wI];try (simp (disch:=omega) only [wI];try simp [vl, EdgeD.cells, NetD.cells, hmt, hy, wI]))
 |(refine Split.by2 (fun h=>?_) (fun h=>?_)<;>(simp [h, vl, EdgeD.cells, NetD.cells, hmt, hy, wI];try (simp (disch:=omega) only [wI];try simp [vl, EdgeD.cells, NetD.cells, hmt, hy, wI])))
 |(apply hK;clear hK K)|refine AWh ‹_› ?_)
        all_goals first
          | exact r1q (cE (by simp [← hr]) rfl)
      · rw [hte, if_neg hb] at hc
        have hb' : truthBad n y.test = false := by simpa using hb
        rw [hb', Bool.false_or] at hM
        repeat' (first
 |refine aK fun K hK=>?_|refine Step.by1 ?_|refine sE (by decide) ?_|refine cz rfl ?_|refine Fork.by2 (fun h=>?_) fun h=>?_
 |((first|refine aR ?_|refine aC (f:=86) rfl rfl (hc) rfl rfl rfl ?_);simp [vl, EdgeD.cells, NetD.cells, hmt, hy, wI];try (simp (disch:=omega) only [wI];try simp [vl, EdgeD.cells, NetD.cells, hmt, hy, wI]))
 |(refine Split.by2 (fun h=>?_) (fun h=>?_)<;>(simp [h, vl, EdgeD.cells, NetD.cells, hmt, hy, wI];try (simp (disch:=omega) only [wI];try simp [vl, EdgeD.cells, NetD.cells, hmt, hy, wI])))
 |(apply hK;clear hK K)|refine AWh ‹_› ?_)
        all_goals first
          | (refine ⟨hM, ?_⟩; apply Weak.mk' <;> simp [vl, AutoD.cells, NetD.cells])
    · intro hM
      rw [hA, ← hM, anyL_nil, Bool.false_or] at hF
      repeat' (first
 |refine aK fun K hK=>?_|refine Step.by1 ?_|refine sE (by decide) ?_|refine cz rfl ?_|refine Fork.by2 (fun h=>?_) fun h=>?_
 |(refine aR ?_;simp [vl, wI];try (simp (disch:=omega) only [wI];try simp [vl, wI]))
 |(refine Split.by2 (fun h=>?_) (fun h=>?_)<;>(simp [h, vl, wI];try (simp (disch:=omega) only [wI];try simp [vl, wI])))
 |(apply hK;clear hK K)|refine AWh ‹_› ?_)
      all_goals first
        | (refine ⟨hF, ?_⟩; apply Weak.mk' <;> simp [vl, NetD.cells])
  · intro hF
    rw [← hF, anyL_nil, if_neg (by simp)] at hr
    generalize setsL n = ss at *
    simp only [NetD.cells, vl] at hs
    repeat' (first
 |refine aK fun K hK=>?_|refine Step.by1 ?_|refine sE (by decide) ?_|refine cz rfl ?_|refine Fork.by2 (fun h=>?_) fun h=>?_
 |((first|refine aR ?_|refine aC (f:=83) rfl rfl (hs) rfl rfl rfl ?_);simp [vl, NetD.cells])
 |(refine Split.by2 (fun h=>?_) (fun h=>?_)<;>(simp [h, vl, NetD.cells]))
 |(apply hK;clear hK K)|refine AWh ‹_› ?_)
    refine aS1 (ss) 36 [1, 34, 35] (anyL (testS n)) rfl (by apply Weak.mk' <;> simp [vl]) ?_ ?_
    · intro i x _ hlt hx hM
      rw [anC] at hM
      have hxo := hso x (hx ▸ List.getElem_mem hlt)
      have hR := c_Right x.expr n.vars.length hxo.2.2.2 ⟨by omega, by omega⟩
      have hT : PC 88 [vl NodeD.cells x.expr] (.bool (isTruthB x.expr)) := c_IsTruthB x.expr hxo.2.2.2.2
      have hw : testS n x = (decide (x.clock = 0) && (decide (x.var < 0 ∨ (n.vars.length : Int) ≤ x.var) || (decide (rightE x.expr n.vars.length ≠ 0) || isTruthB x.expr))) := rfl
      simp only [vl] at hR hT
      generalize rightE x.expr n.vars.length = q at *
      generalize isTruthB x.expr = tb at *
      repeat' (first
 |refine aK fun K hK=>?_|refine Step.by1 ?_|refine sE (by decide) ?_|refine cz rfl ?_|refine Fork.by2 (fun h=>?_) fun h=>?_
 |((first|refine aR ?_|refine aC (f:=87) rfl rfl (hR) rfl rfl rfl ?_|refine aC (f:=88) rfl rfl (hT) rfl rfl rfl ?_);simp [vl, SetD.cells, NetD.cells, hlt, hx, wI];try (simp (disch:=omega) only [wI];try simp [vl, SetD.cells, NetD.cells, hlt, hx, wI]))
 |(refine Split.by2 (fun h=>?_) (fun h=>?_)<;>(simp [h, vl, SetD.cells, NetD.cells, hlt, hx, wI];try (simp (disch:=omega) only [wI];try simp [vl, SetD.cells, NetD.cells, hlt, hx, wI])))
 |(apply hK;clear hK K)|refine AWh ‹_› ?_)
      all_goals (try clear hR hT)
      all_goals first
        | exact r1q (cE (by rw [← hr, ← hM, hw]; simp [*]; done) rfl)
        | exact r1q (cE (by rw [← hr, ← hM, hw]; simp [*]; omega) rfl)
        | (refine ⟨by rw [← hM, hw]; simp [*]; done, ?_⟩; apply Weak.mk' <;> simp [vl, NetD.cells])
        | (refine ⟨by rw [← hM, hw]; simp [*]; omega, ?_⟩; apply Weak.mk' <;> simp [vl, NetD.cells])
    · intro hM
      repeat' (first
 |refine aK fun K hK=>?_|refine Step.by1 ?_|refine sE (by decide) ?_|refine cz rfl ?_|refine Fork.by2 (fun h=>?_) fun h=>?_
 |(refine aR ?_;simp [vl, NetD.cells])
 |(refine Split.by2 (fun h=>?_) (fun h=>?_)<;>(simp [h, vl, NetD.cells]))
 |(apply hK;clear hK K)|refine AWh ‹_› ?_)
      exact r1q (cE (by rw [← hr, ← hM, anyL_nil]; simp) rfl)
def strV (s : ByteArray) : List V := [.str s]
theorem c_indexS (l : List ByteArray) (v : ByteArray) (hl : l.length ≤ 1099511627776) : ∃ k : Int, PC 132 [vl strV l, .str v] (.int .i64 k) ∧ (0 ≤ k ↔ v ∈ l) := by
  by_cases hv : v ∈ l
  · obtain ⟨i0, h1, h2, h3⟩ : ∃ i0, ∃ h : i0 < l.length, l[i0] = v ∧ ∀ j (hj : j < i0), l[j]'(by omega) ≠ v := by
      have hx : ∃ x ∈ l, decide (x = v) = true := ⟨v, hv, by simp⟩
      have hlt := List.findIdx_lt_length.2 hx
      exact ⟨l.findIdx (fun x => decide (x = v)), hlt, of_decide_eq_true (List.findIdx_getElem (w := hlt)), fun j hj => by simpa using List.not_of_lt_findIdx hj⟩
    refine ⟨i0, ?_, ⟨fun _ => hv, fun _ => by omega⟩⟩
    refine pB Tryd.func132 rfl (by decide) Tryd.ntmps132 (by simp) Tryd.results132 ?_
    repeat' (first
 |refine aK fun K hK=>?_|refine Step.by1 ?_|refine sE (by decide) ?_|refine cz rfl ?_|refine Fork.by2 (fun h=>?_) fun h=>?_
 |(refine aR ?_;simp [vl, strV])
 |(refine Split.by2 (fun h=>?_) (fun h=>?_)<;>(simp [h, vl, strV]))
 |(apply hK;clear hK K)|refine AWh ‹_› ?_)
    refine aL [0, 1, 7] (fun i : Nat => [(8, .int .i64 i)]) (fun _ => []) (fun i => i ≤ i0) (fun i => l.length - i) 0 (Nat.zero_le _) (by apply Weak.mk' <;> simp [vl]) (fun _ _ => rfl) ?_
    intro i hi
    have hlt : i < l.length := by omega
    by_cases he : i = i0
    · subst he
      repeat' (first
 |refine aK fun K hK=>?_|refine Step.by1 ?_|refine sE (by decide) ?_|refine cz rfl ?_|refine Fork.by2 (fun h=>?_) fun h=>?_
 |(refine aR ?_;simp [vl, strV, hlt, h2, wI];try (simp (disch:=omega) only [wI];try simp [vl, strV, hlt, h2, wI]))
 |(refine Split.by2 (fun h=>?_) (fun h=>?_)<;>(simp [h, vl, strV, hlt, h2, wI];try (simp (disch:=omega) only [wI];try simp [vl, strV, hlt, h2, wI])))
 |(apply hK;clear hK K)|refine AWh ‹_› ?_)
      exact r1q (cE (by simp) rfl)
    · have hne : ¬ v = l[i] := fun e => h3 i (by omega) e.symm
      repeat' (first
 |refine aK fun K hK=>?_|refine Step.by1 ?_|refine sE (by decide) ?_|refine cz rfl ?_|refine Fork.by2 (fun h=>?_) fun h=>?_
 |(refine aR ?_;simp [vl, strV, hlt, hne, wI];try (simp (disch:=omega) only [wI];try simp [vl, strV, hlt, hne, wI]))
 |(refine Split.by2 (fun h=>?_) (fun h=>?_)<;>(simp [h, vl, strV, hlt, hne, wI];try (simp (disch:=omega) only [wI];try simp [vl, strV, hlt, hne, wI])))
 |(apply hK;clear hK K)|refine AWh ‹_› ?_)
      refine ⟨i + 1, by omega, by omega, ?_⟩; apply Weak.mk' <;> simp [vl]
  · refine ⟨-1, ?_, ⟨fun h => by omega, fun h => absurd h hv⟩⟩
    refine pB Tryd.func132 rfl (by decide) Tryd.ntmps132 (by simp) Tryd.results132 ?_
    repeat' (first
 |refine aK fun K hK=>?_|refine Step.by1 ?_|refine sE (by decide) ?_|refine cz rfl ?_|refine Fork.by2 (fun h=>?_) fun h=>?_
 |(refine aR ?_;simp [vl, strV])
 |(refine Split.by2 (fun h=>?_) (fun h=>?_)<;>(simp [h, vl, strV]))
 |(apply hK;clear hK K)|refine AWh ‹_› ?_)
    refine aL [0, 1, 7] (fun i : Nat => [(8, .int .i64 i)]) (fun _ => []) (fun i => i ≤ l.length) (fun i => l.length - i) 0 (Nat.zero_le _) (by apply Weak.mk' <;> simp [vl]) (fun _ _ => rfl) ?_
    intro i hi
    by_cases hlt : i < l.length
    · have hne : ¬ v = l[i] := fun e => hv (e ▸ List.getElem_mem hlt)
      repeat' (first
 |refine aK fun K hK=>?_|refine Step.by1 ?_|refine sE (by decide) ?_|refine cz rfl ?_|refine Fork.by2 (fun h=>?_) fun h=>?_
 |(refine aR ?_;simp [vl, strV, hlt, hne, wI];try (simp (disch:=omega) only [wI];try simp [vl, strV, hlt, hne, wI]))
 |(refine Split.by2 (fun h=>?_) (fun h=>?_)<;>(simp [h, vl, strV, hlt, hne, wI];try (simp (disch:=omega) only [wI];try simp [vl, strV, hlt, hne, wI])))
 |(apply hK;clear hK K)|refine AWh ‹_› ?_)
      refine ⟨i + 1, by omega, by omega, ?_⟩; apply Weak.mk' <;> simp [vl]
    · repeat' (first
 |refine aK fun K hK=>?_|refine Step.by1 ?_|refine sE (by decide) ?_|refine cz rfl ?_|refine Fork.by2 (fun h=>?_) fun h=>?_
 |(refine aR ?_;simp [vl, strV, hlt])
 |(refine Split.by2 (fun h=>?_) (fun h=>?_)<;>(simp [h, vl, strV, hlt]))
 |(apply hK;clear hK K)|refine AWh ‹_› ?_)
      exact r1q (cE rfl rfl)
def memS (v : ByteArray) (l : List ByteArray) : Bool := l.any fun x => decide (x = v)
theorem memS_iff {v : ByteArray} {l : List ByteArray} : memS v l = true ↔ v ∈ l := by
  unfold memS; rw [List.any_eq_true]; constructor
  · rintro ⟨x, h1, h2⟩; rw [← of_decide_eq_true h2]; exact h1
  · exact fun h => ⟨v, h, by simp⟩
theorem c_containsS (l : List ByteArray) (v : ByteArray) (hl : l.length ≤ 1099511627776) : PC 126 [vl strV l, .str v] (.bool (memS v l)) := by
  obtain ⟨k, hk, hk'⟩ := c_indexS l v hl
  refine pB Tryd.func126 rfl (by decide) Tryd.ntmps126 (by simp) Tryd.results126 ?_
  repeat' (first
 |refine aK fun K hK=>?_|refine Step.by1 ?_|refine sE (by decide) ?_|refine cz rfl ?_|refine Fork.by2 (fun h=>?_) fun h=>?_
 |((first|refine aR ?_|refine aC (f:=132) rfl rfl (hk) rfl rfl rfl ?_);simp)
 |(refine Split.by2 (fun h=>?_) (fun h=>?_)<;>(simp [h]))
 |(apply hK;clear hK K)|refine AWh ‹_› ?_)
  exact r1q (cE (by simp; rw [Bool.eq_iff_iff, memS_iff]; simp [hk']) rfl)
def isLetter (c : Int) : Bool := decide (97 ≤ c ∧ c ≤ 122 ∨ 65 ≤ c ∧ c ≤ 90)
def isDigit (c : Int) : Bool := decide (48 ≤ c ∧ c ≤ 57)
def lexClass (c : Int) : Int := if c = 32 ∨ c = 9 ∨ c = 13 ∨ c = 10 then 1 else if c = 35 then 4 else if isLetter c = true then 2 else if isDigit c = true then 3 else 0
theorem c_lexof (c : Int) : PC 124 [.int .u8 c] (.int .u8 (lexClass c)) := by
  by_cases h1 : c = 32 ∨ c = 9 ∨ c = 13 ∨ c = 10
  · rw [show lexClass c = 1 by unfold lexClass; rw [if_pos h1]]
    rcases h1 with rfl | rfl | rfl | rfl
    all_goals
      refine pB Tryd.func124 rfl (by decide) Tryd.ntmps124 (by simp) Tryd.results124 ?_
      repeat' (first
 |refine aK fun K hK=>?_|refine Step.by1 ?_|refine sE (by decide) ?_|refine cz rfl ?_|refine Fork.by2 (fun h=>?_) fun h=>?_
 |(refine aR ?_;simp)
 |(refine Split.by2 (fun h=>?_) (fun h=>?_)<;>(simp [h]))
 |(apply hK;clear hK K)|refine AWh ‹_› ?_)
      exact r1q (cE rfl rfl)
  · have e1 : ¬ c = 32 := by omega
    have e2 : ¬ c = 9 := by omega
    have e3 : ¬ c = 13 := by omega
    have e4 : ¬ c = 10 := by omega
    obtain ⟨r, hr⟩ : ∃ r, lexClass c = r := ⟨_, rfl⟩
    rw [hr]
    unfold lexClass at hr
    rw [if_neg h1] at hr
    refine pB Tryd.func124 rfl (by decide) Tryd.ntmps124 (by simp) Tryd.results124 ?_
    repeat' (first
 |refine aK fun K hK=>?_|refine Step.by1 ?_|refine sE (by decide) ?_|refine cz rfl ?_|refine Fork.by2 (fun h=>?_) fun h=>?_
 |(refine aR ?_;simp [e1, e2, e3, e4])
 |(refine Split.by2 (fun h=>?_) (fun h=>?_)<;>(simp [h, e1, e2, e3, e4]))
 |(apply hK;clear hK K)|refine AWh ‹_› ?_)
    all_goals first
      | (exfalso; omega)
      | exact r1q (cE (by rw [← hr]; simp [isLetter, isDigit, *]; done) rfl)
      | exact r1q (cE (by rw [← hr]; simp [isLetter, isDigit, *]; omega) rfl)
      | exact r1q (cE (by rw [← hr]; simp [isLetter, isDigit]; split <;> (try split) <;> (try split) <;> first | rfl | omega) rfl)
theorem lexClass_letter (c : Int) : lexClass c = 2 ↔ isLetter c = true := by
  unfold lexClass
  by_cases h1 : c = 32 ∨ c = 9 ∨ c = 13 ∨ c = 10
  · rw [if_pos h1]; simp [isLetter]; omega
  · rw [if_neg h1]
    by_cases h2 : c = 35
    · rw [if_pos h2]; simp [isLetter]; omega
    · rw [if_neg h2]
      by_cases h3 : isLetter c = true
      · simp [h3]
      · rw [if_neg h3]; constructor
        · intro h; split at h <;> omega
        · intro h; exact absurd h h3
theorem lexClass_digit (c : Int) : lexClass c = 3 ↔ isDigit c = true := by
  unfold lexClass
  by_cases h1 : c = 32 ∨ c = 9 ∨ c = 13 ∨ c = 10
  · rw [if_pos h1]; simp [isDigit]; omega
  · rw [if_neg h1]
    by_cases h2 : c = 35
    · rw [if_pos h2]; simp [isDigit]; omega
    · rw [if_neg h2]
      by_cases h3 : isLetter c = true
      · rw [if_pos h3]; simp only [isLetter, decide_eq_true_eq] at h3; simp [isDigit]; omega
      · rw [if_neg h3]
        by_cases h4 : isDigit c = true <;> simp [h4]
def byteS (s : ByteArray) (i : Nat) : Int := ((s.data.toList.getD i 0).toNat : Int)
def wordC (c : Int) : Bool := isLetter c || (isDigit c || decide (c = 95))
/-- Where the word ends that goes on at a place. -/
def wordE (s : ByteArray) : Nat → Nat → Nat
  | 0, i => i
  | k + 1, i => if i < s.size then (if wordC (byteS s i) = true then wordE s k (i + 1) else i) else i
def wordN (s : ByteArray) : Nat := wordE s s.size 1
theorem wordE_stop {s : ByteArray} {k i : Nat} (h : ¬ i < s.size) : wordE s k i = i := by cases k <;> simp [wordE, h]
theorem c_word (s : ByteArray) (hs : s.size ≤ 1099511627776) : PC 125 [.str s] (.int .i64 (wordN s)) := by
  obtain ⟨r, hr⟩ : ∃ r, wordN s = r := ⟨_, rfl⟩
  rw [hr]
  refine pB Tryd.func125 rfl (by decide) Tryd.ntmps125 (by simp) Tryd.results125 ?_
  repeat' (first
 |refine aK fun K hK=>?_|refine Step.by1 ?_|refine sE (by decide) ?_|refine cz rfl ?_|refine Fork.by2 (fun h=>?_) fun h=>?_
 |(refine aR ?_;simp)
 |(refine Split.by2 (fun h=>?_) (fun h=>?_)<;>(simp [h]))
 |(apply hK;clear hK K)|refine AWh ‹_› ?_)
  refine aL [0] (fun n : Nat => [(3, .int .i64 n)]) (fun _ => []) (fun n => 1 ≤ n ∧ n ≤ s.size + 1 ∧ wordE s (s.size + 1 - n) n = r) (fun n => s.size + 1 - n) 1 ⟨by omega, by omega, by simpa [wordN] using hr⟩ (by apply Weak.mk' <;> simp) (fun _ _ => rfl) ?_
  rintro n ⟨h1, h2, h3⟩
  by_cases hlt : n < s.size
  · have hlt' : (n : Int) < s.size := by omega
    obtain ⟨k, hk⟩ : ∃ k, s.size + 1 - n = k + 1 := ⟨s.size - n, by omega⟩
    rw [hk] at h3
    unfold wordE at h3
    rw [if_pos hlt] at h3
    obtain ⟨c, hc⟩ : ∃ c, byteS s n = c := ⟨_, rfl⟩
    rw [hc] at h3
    have hof := c_lexof c
    have hL := lexClass_letter c
    have hD := lexClass_digit c
    generalize lexClass c = q at *
    have hda : n < s.data.size := hlt
    have hb : ((s.data[n]).toNat : Int) = c := by rw [← hc]; simp [byteS, Array.getElem?_eq_getElem hda]
    repeat' (first
 |refine aK fun K hK=>?_|refine Step.by1 ?_|refine sE (by decide) ?_|refine cz rfl ?_|refine Fork.by2 (fun h=>?_) fun h=>?_
 |((first|refine aR ?_|refine aC (f:=124) rfl rfl (hof) rfl rfl rfl ?_);simp [hlt, hlt', hb, wI];try (simp (disch:=omega) only [wI];try simp [hlt, hlt', hb, wI]))
 |(refine Split.by2 (fun h=>?_) (fun h=>?_)<;>(simp [h, hlt, hlt', hb, wI];try (simp (disch:=omega) only [wI];try simp [hlt, hlt', hb, wI])))
 |(apply hK;clear hK K)|refine AWh ‹_› ?_)
    all_goals first
      | (refine ⟨n + 1, ⟨by omega, by omega, ?_⟩, by omega, ?_⟩
         · rw [show s.size + 1 - (n + 1) = k by omega, ← h3, if_pos]
           simp only [wordC, Bool.or_eq_true, decide_eq_true_eq, ← hL, ← hD]; omega
         · apply Weak.mk' <;> simp)
      | (have hnw : ¬ wordC c = true := by simp only [wordC, Bool.or_eq_true, decide_eq_true_eq, ← hL, ← hD]; omega
         rw [if_neg hnw] at h3
         exact r1q (cE (by simp [h3]) rfl))
  · have hlt' : ¬ (n : Int) < s.size := by omega
    rw [wordE_stop hlt] at h3
    repeat' (first
 |refine aK fun K hK=>?_|refine Step.by1 ?_|refine sE (by decide) ?_|refine cz rfl ?_|refine Fork.by2 (fun h=>?_) fun h=>?_
 |(refine aR ?_;simp [hlt, hlt'])
 |(refine Split.by2 (fun h=>?_) (fun h=>?_)<;>(simp [h, hlt, hlt']))
 |(apply hK;clear hK K)|refine AWh ‹_› ?_)
    exact r1q (cE (by simp [h3]) rfl)
def keptS : List ByteArray := [⟨#[99, 108, 111, 99, 107]⟩, ⟨#[105, 110, 116]⟩, ⟨#[99, 104, 97, 110]⟩, ⟨#[97, 117, 116, 111]⟩, ⟨#[108, 111, 99]⟩, ⟨#[101, 100, 103, 101]⟩, ⟨#[105, 110]⟩, ⟨#[105, 110, 118]⟩, ⟨#[119, 104, 101, 110]⟩, ⟨#[115, 121, 110, 99]⟩, ⟨#[100, 111]⟩, ⟨#[117, 114, 103, 101, 110, 116]⟩, ⟨#[99, 111, 109, 109, 105, 116, 116, 101, 100]⟩, ⟨#[116, 114, 117, 101]⟩, ⟨#[114, 101, 97, 99, 104]⟩, ⟨#[110, 101, 118, 101, 114]⟩]
theorem keptV_eq : keptV.map (fun c => [c]) = keptS.map strV := rfl
theorem keptV_len : keptV.length = 16 := rfl
theorem keptS_len : keptS.length = 16 := rfl
def isNameB (s : ByteArray) : Bool := !decide (s = ⟨#[]⟩) && (decide (s.size ≤ 16) && (isLetter (byteS s 0) && (decide (wordN s = s.size) && !memS s keptS)))
theorem size_pos {s : ByteArray} (h : ¬ s = ⟨#[]⟩) : 0 < s.size := by
  rcases Nat.eq_zero_or_pos s.size with h0 | h0
  · exfalso; apply h
    obtain ⟨⟨l⟩⟩ := s
    have : l = [] := List.eq_nil_of_length_eq_zero h0
    subst this; rfl
  · exact h0
set_option maxHeartbeats 4000000 in
theorem c_IsName (s : ByteArray) (hs : s.size ≤ 1099511627776) : PC 105 [.str s] (.bool (isNameB s)) := by
  obtain ⟨r, hr⟩ : ∃ r, isNameB s = r := ⟨_, rfl⟩
  rw [hr]
  unfold isNameB at hr
  by_cases h0 : s = ⟨#[]⟩
  · subst h0
    refine pB Tryd.func105 rfl (by decide) Tryd.ntmps105 (by simp) Tryd.results105 ?_
    repeat' (first
 |refine aK fun K hK=>?_|refine Step.by1 ?_|refine sE (by decide) ?_|refine cz rfl ?_|refine Fork.by2 (fun h=>?_) fun h=>?_
 |(refine aR ?_;simp)
 |(refine Split.by2 (fun h=>?_) (fun h=>?_)<;>(simp [h]))
 |(apply hK;clear hK K)|refine AWh ‹_› ?_)
    exact r1q (cE (by rw [← hr]; simp) rfl)
  · have hp := size_pos h0
    have hp' : (0 : Int) < s.size := by omega
    have hda : 0 < s.data.size := hp
    have hof := c_lexof (byteS s 0)
    have hL := lexClass_letter (byteS s 0)
    have hb : ((s.data[0]).toNat : Int) = byteS s 0 := by simp [byteS, Array.getElem?_eq_getElem hda]
    have hw := c_word s hs
    have hk := c_containsS keptS s (by rw [keptS_len]; omega)
    simp only [vl, keptS_len] at hk
    generalize byteS s 0 = c at *
    generalize lexClass c = q at *
    generalize wordN s = wn at *
    generalize memS s keptS = mk at *
    have eL : isLetter c = decide (q = 2) := by rw [Bool.eq_iff_iff]; simp [hL]
    have e16 : decide (s.size ≤ 16) = decide ((s.size : Int) ≤ 16) := decide_eq_decide.2 (by omega)
    have ewn : decide (wn = s.size) = decide ((wn : Int) = s.size) := decide_eq_decide.2 (by omega)
    rw [eL, e16, ewn] at hr
    clear eL e16 ewn hL
    refine pB Tryd.func105 rfl (by decide) Tryd.ntmps105 (by simp) Tryd.results105 ?_
    repeat' (first
 |refine aK fun K hK=>?_|refine Step.by1 ?_|refine sE (by decide) ?_|refine cz rfl ?_|refine Fork.by2 (fun h=>?_) fun h=>?_
 |((first|refine aR ?_|refine aC (f:=124) rfl rfl (hof) rfl rfl rfl ?_|refine aC (f:=125) rfl rfl (hw) rfl rfl rfl ?_|refine aC (f:=126) rfl rfl (hk) rfl rfl rfl ?_);simp [h0, hp, hp', hb, keptV_eq, keptV_len])
 |(refine Split.by2 (fun h=>?_) (fun h=>?_)<;>(simp [h, h0, hp, hp', hb, keptV_eq, keptV_len]))
 |(apply hK;clear hK K)|refine AWh ‹_› ?_)
    all_goals first
      | (clear hof hw hk hb; exact r1q (cE (by rw [← hr]; simp [h0, *]; done) rfl))
      | (clear hof hw hk hb; exact r1q (cE (by rw [← hr]; simp [h0, *]; omega) rfl))
end Go.Proofs.YtgmlimipejcpgaaDoor
end
