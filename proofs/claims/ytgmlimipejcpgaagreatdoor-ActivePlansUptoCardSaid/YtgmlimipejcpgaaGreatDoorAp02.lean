/-
  YtgmlimipejcpgaaGreatDoorAp02: steps of the proof of a law of the program: what these texts prove holds under the hypotheses that their theorems name, and no others.
-/
import Derived.Test.YtgmlimipejcpgaaGreatDoorAp01
import Derived.Test.YtgmlimipejcpgaaGreatDoorCo28
section
set_option linter.unusedSimpArgs false
set_option linter.unusedVariables false
namespace Go.Proofs.YtgmlimipejcpgaaGreatDoor
open Go Go.AM Fx
theorem cmpE_zero {l : List GuardD} (h : cmpE l = 0) : ∀ g ∈ l, 1 ≤ g.cmp ∧ g.cmp ≤ 5 := by
  unfold cmpE at h
  intro g hg
  cases hc : cmpG g
  · unfold cmpG at hc
    have := of_decide_eq_false hc
    omega
  · rw [if_pos (List.any_eq_true.2 ⟨g, hg, hc⟩)] at h; cases h
theorem whole_cmps {n : NetD} (h : wholeE n = 0) : ∀ g ∈ guardsL n, 1 ≤ g.cmp ∧ g.cmp ≤ 5 := by
  unfold wholeE at h
  have h1 := (fZ (fZ (fZ (fZ (fZ (fZ (fZ (fZ h).2).2).2).2).2).2).2).1
  unfold formsE at h1
  by_cases hc : cmpE (guardsL n) = 0
  · exact cmpE_zero hc
  · rw [if_pos hc] at h1; exact absurd h1 hc
theorem goal_cmps {n : NetD} {g : List PartD} (h : goalE n g = 0) : ∀ p ∈ g, ∀ x ∈ p.guards, 1 ≤ x.cmp ∧ x.cmp ≤ 5 := by
  unfold goalE at h
  have h1 := (fZ (fZ h).2).1
  unfold wholeGoalE at h1
  have h2 := (fZ (fZ (fZ (fZ (fZ (fZ h1).2).2).2).2).2).1
  exact fun p hp => cmpE_zero (goF_zero h2 p hp)
def maxL (a b : List Int) : List Int := List.zipWith max a b
theorem maxL_len {a b : List Int} (h : a.length = b.length) : (maxL a b).length = a.length := by simp [maxL, h]
theorem maxL_getD {a b : List Int} (h : a.length = b.length) {i : Nat} (hi : i < a.length) : (maxL a b).getD i 0 = max (a.getD i 0) (b.getD i 0) := by
  have hb : i < b.length := by omega
  have hm : i < (maxL a b).length := by rw [maxL_len h]; exact hi
  simp only [List.getD, List.getElem?_eq_getElem hi, List.getElem?_eq_getElem hb, List.getElem?_eq_getElem hm, Option.getD_some]
  simp only [maxL, List.getElem_zipWith]
theorem ext_getD {a b : List Int} (h : a.length = b.length) (he : ∀ i, i < a.length → a.getD i 0 = b.getD i 0) : a = b := by
  refine List.ext_getElem h fun i h1 h2 => ?_
  have := he i h1
  simpa only [List.getD, List.getElem?_eq_getElem h1, List.getElem?_eq_getElem h2, Option.getD_some] using this
theorem raise1_getD {so : Int → Bool} {c : List Int} {g : GuardD} {i : Nat} (hi : i < c.length) (h1 : 1 ≤ g.clock) : (raise1 so c g).getD i 0 = if (g.clock - 1).toNat = i ∧ so g.cmp = true then max (c.getD i 0) g.n else c.getD i 0 := by
  unfold raise1
  by_cases hs : so g.cmp = true
  · rw [if_pos hs]
    by_cases hp : (g.clock - 1).toNat = i
    · rw [if_pos (show (g.clock - 1).toNat = i ∧ so g.cmp = true from ⟨hp, hs⟩), hp]
      have e : (if g.n > c.getD i 0 then g.n else c.getD i 0) = max (c.getD i 0) g.n := by split <;> omega
      rw [e]
      simp only [List.getD, List.getElem?_set, if_true, if_pos hi, Option.getD_some]
    · rw [if_neg (show ¬ ((g.clock - 1).toNat = i ∧ so g.cmp = true) from fun h => hp h.1)]
      simp only [List.getD, List.getElem?_set, if_neg hp]
  · rw [if_neg hs, if_neg (show ¬ ((g.clock - 1).toNat = i ∧ so g.cmp = true) from fun h => hs h.2)]
theorem low_or_up {c : Int} (h : 1 ≤ c ∧ c ≤ 5) : lowB c = true ∨ upB c = true := by
  simp only [lowB, upB, decide_eq_true_eq]; omega
theorem raise1_max {a b : List Int} {x : GuardD} (hl : a.length = b.length) (hx : 1 ≤ x.clock) (hc : 1 ≤ x.cmp ∧ x.cmp ≤ 5) :
    raise1 (fun _ => true) (maxL a b) x = maxL (raise1 lowB a x) (raise1 upB b x) := by
  have h1 : (raise1 lowB a x).length = (raise1 upB b x).length := by rw [raise1_len, raise1_len, hl]
  refine ext_getD (by rw [raise1_len, maxL_len hl, maxL_len h1, raise1_len]) fun i hi => ?_
  rw [raise1_len, maxL_len hl] at hi
  rw [raise1_getD (by rw [maxL_len hl]; exact hi) hx, maxL_getD hl hi, maxL_getD h1 (by rw [raise1_len]; exact hi), raise1_getD hi hx, raise1_getD (by omega) hx]
  generalize a.getD i 0 = y
  generalize b.getD i 0 = z
  have := low_or_up hc
  by_cases hp : (x.clock - 1).toNat = i
  · cases hs : lowB x.cmp <;> cases ht : upB x.cmp <;> rw [hs, ht] at this <;> simp only [hp, and_self, if_true, if_false, true_and, and_true, and_false, Bool.false_eq_true] <;> first | omega | simp at this
  · simp only [hp, false_and, if_false]
theorem raiseL_max : ∀ {l : List GuardD} {a b : List Int}, a.length = b.length → (∀ x ∈ l, okG a.length x) → (∀ x ∈ l, 1 ≤ x.cmp ∧ x.cmp ≤ 5) → raiseL (fun _ => true) l (maxL a b) = maxL (raiseL lowB l a) (raiseL upB l b)
  | [], a, b, _, _, _ => rfl
  | x :: l, a, b, hl, h1, h2 => by
    rw [raiseL_cons, raiseL_cons, raiseL_cons, raise1_max hl (h1 x (by simp)).1 (h2 x (by simp))]
    exact raiseL_max (by rw [raise1_len, raise1_len, hl]) (fun y hy => by rw [raise1_len]; exact h1 y (by simp [hy])) (fun y hy => h2 y (by simp [hy]))
theorem raiseL_lens {l : List GuardD} {a b : List Int} (h : a.length = b.length) : (raiseL lowB l a).length = (raiseL upB l b).length := by rw [raiseL_len, raiseL_len, h]
theorem numG_max (n : NetD) : ∀ (gs : List (List PartD)) (a b : List Int), a.length = b.length → a.length = n.clocks.length → numG n (fun _ => true) gs (maxL a b) = (numR n gs (a, b)).map fun s => maxL s.1 s.2
  | [], a, b, _, _ => rfl
  | g :: r, a, b, hl, hn => by
    rw [numR_cons, numG_cons]
    by_cases h : goalE n g = 0
    · rw [if_neg (by simp [h]), if_neg (by simp [h])]
      have h1 := goal_guards h
      have h2 := goal_cmps h
      have : raisePs (fun _ => true) g (maxL a b) = maxL (raisePs lowB g a) (raisePs upB g b) := raiseL_max hl
        (fun x hx => by obtain ⟨p, hp, hx⟩ := List.mem_flatMap.1 hx; rw [hn]; exact h1 p hp x hx) (fun x hx => by obtain ⟨p, hp, hx⟩ := List.mem_flatMap.1 hx; exact h2 p hp x hx)
      rw [this]
      exact numG_max n r _ _ (by rw [raisePs_len, raisePs_len, hl]) (by rw [raisePs_len, hn])
    · rw [if_pos h, if_pos h]; rfl
theorem maxL_same (N : Nat) : maxL (List.replicate N (-1)) (List.replicate N (-1)) = List.replicate N (-1) := by simp [maxL]
/-- What the program tells at once is the greater of what the reference tells in two. -/
theorem numb_max (n : NetD) (gs : List (List PartD)) : numbE n (fun _ => true) gs = (numbR n gs).map fun s => maxL s.1 s.2 := by
  unfold numbE numbR
  by_cases h : netE n = 0
  · rw [if_neg (by simp [h]), if_neg (by simp [h])]
    have h1 := whole_guards (netE_whole h)
    have h2 := whole_cmps (netE_whole h)
    have h3 := raiseL_max (l := guardsL n) (a := List.replicate n.clocks.length (-1)) (b := List.replicate n.clocks.length (-1)) rfl (by simpa using h1) h2
    rw [maxL_same] at h3
    rw [h3]
    exact numG_max n gs _ _ (raiseL_lens rfl) (by rw [raiseL_len]; simp)
  · rw [if_pos h, if_pos h]; rfl
theorem maxL_step {a b c : List Int} {N i : Nat} (hi : i < N) (ha : a.length = N) (hb : b.length = N) (hc : c.length = N) (h1 : ∀ j, j < i → c.getD j 0 = max (a.getD j 0) (b.getD j 0)) (h2 : ∀ j, i ≤ j → c.getD j 0 = a.getD j 0) {y : Int}
    (hy : y = max (a.getD i 0) (b.getD i 0)) : (c.set i y).length = N ∧ (∀ j, j < i + 1 → (c.set i y).getD j 0 = max (a.getD j 0) (b.getD j 0)) ∧ ∀ j, i + 1 ≤ j → (c.set i y).getD j 0 = a.getD j 0 := by
  have hg : ∀ j, (c.set i y).getD j 0 = if i = j then y else c.getD j 0 := fun j => by
    simp only [List.getD, List.getElem?_set]
    by_cases e : i = j
    · subst e; simp [show i < c.length by omega]
    · simp [e]
  refine ⟨by simp [hc], fun j hj => ?_, fun j hj => ?_⟩
  · rw [hg]
    by_cases e : i = j
    · subst e; simp [hy]
    · rw [if_neg e]; exact h1 j (by omega)
  · rw [hg, if_neg (by omega)]; exact h2 j (by omega)
theorem maxL_end {a b c : List Int} {N : Nat} (ha : a.length = N) (hb : b.length = N) (hc : c.length = N) (h1 : ∀ j, j < N → c.getD j 0 = max (a.getD j 0) (b.getD j 0)) : c = maxL a b :=
  ext_getD (by rw [maxL_len (by omega)]; omega) fun i hi => by rw [h1 i (by omega), maxL_getD (by omega) (by omega)]
theorem numR_lens {n : NetD} : ∀ {gs : List (List PartD)} {a b x y : List Int}, numR n gs (a, b) = some (x, y) → x.length = a.length ∧ y.length = b.length
  | [], a, b, x, y, h => by rw [numR_nil] at h; cases h; exact ⟨rfl, rfl⟩
  | g :: r, a, b, x, y, h => by
    rw [numR_cons] at h
    split at h
    · cases h
    · have := numR_lens (gs := r) (a := raisePs lowB g a) (b := raisePs upB g b) h
      rw [raisePs_len, raisePs_len] at this; exact this
theorem numbR_lens {n : NetD} {gs : List (List PartD)} {x y : List Int} (h : numbR n gs = some (x, y)) : x.length = n.clocks.length ∧ y.length = n.clocks.length := by
  unfold numbR at h
  split at h
  · cases h
  · have := numR_lens (gs := gs) (a := raiseL lowB (guardsL n) _) (b := raiseL upB (guardsL n) _) h
    rw [raiseL_len, raiseL_len] at this; simpa using this
def refMax : Option (List Int × List Int) → V
  | none => .nils
  | some s => .own 3 ((maxL s.1 s.2).map fun k => [V.int .i64 k])
set_option maxRecDepth 20000 in
set_option maxHeartbeats 8000000 in
theorem r_Max (n : NetD) (hn : n.ok) (gs : List (List PartD)) (hgl : gs.length ≤ 1048576) (hgs : ∀ g ∈ gs, okGoal g) : PC 27 [.agg n.cells, gsV gs] (refMax (numbR n gs)) := by
  have hc := r_nums n hn gs hgl hgs
  simp only [gsV, vl, NetD.cells] at hc
  cases h : numbR n gs with
  | none =>
    rw [h] at hc
    simp only [refV, refMax] at hc ⊢
    refine pB Tryz.func27 rfl (by decide) Tryz.ntmps27 (by simp) Tryz.results27 ?_
    repeat' (first
 |refine aK fun K hK=>?_|refine Step.by1 ?_|refine sE (by decide) ?_|refine cz rfl ?_|refine Fork.by2 (fun h=>?_) fun h=>?_
 |((first|refine aR ?_|refine aC (f:=83) rfl rfl (hc) rfl rfl rfl ?_);simp [gsV, vl, NetD.cells])
 |(refine Split.by2 (fun h=>?_) (fun h=>?_)<;>(simp [h, gsV, vl, NetD.cells]))
 |(apply hK;clear hK K)|refine AWh ‹_› ?_)
    refine AW_loop0 ?_
    repeat' (first
 |refine aK fun K hK=>?_|refine Step.by1 ?_|refine sE (by decide) ?_|refine cz rfl ?_|refine Fork.by2 (fun h=>?_) fun h=>?_
 |(refine aR ?_;simp [gsV, vl, NetD.cells])
 |(refine Split.by2 (fun h=>?_) (fun h=>?_)<;>(simp [h, gsV, vl, NetD.cells]))
 |(apply hK;clear hK K)|refine AWh ‹_› ?_)
    exact r1q (cE rfl rfl)
  | some s =>
    obtain ⟨a, b⟩ := s
    rw [h] at hc
    obtain ⟨ha, hb⟩ := numbR_lens h
    have hnl := hn.1.1
    simp only [refV, refMax] at hc ⊢
    refine pB Tryz.func27 rfl (by decide) Tryz.ntmps27 (by simp) Tryz.results27 ?_
    repeat' (first
 |refine aK fun K hK=>?_|refine Step.by1 ?_|refine sE (by decide) ?_|refine cz rfl ?_|refine Fork.by2 (fun h=>?_) fun h=>?_
 |((first|refine aR ?_|refine AS_callT (f:=83) rfl rfl (hc) rfl rfl ?_);simp [gsV, vl, NetD.cells])
 |(refine Split.by2 (fun h=>?_) (fun h=>?_)<;>(simp [h, gsV, vl, NetD.cells]))
 |(apply hK;clear hK K)|refine AWh ‹_› ?_)
    refine aL [5, 6] (fun s : Nat × List Int => [(8, .int .i64 s.1)]) (fun s => [.var n.cells, .row 3 0 0 true (s.2.map fun k => [V.int .i64 k]), .row 3 0 0 true (b.map fun k => [V.int .i64 k])])
      (fun s => s.1 ≤ a.length ∧ s.2.length = a.length ∧ (∀ j, j < s.1 → s.2.getD j 0 = max (a.getD j 0) (b.getD j 0)) ∧ ∀ j, s.1 ≤ j → s.2.getD j 0 = a.getD j 0) (fun s => a.length - s.1) (0, a) ⟨Nat.zero_le _, rfl, fun j hj => by omega, fun j _ => rfl⟩ (by apply Weak.mk' <;> simp [vl, NetD.cells]) (fun _ _ => rfl) ?_
    rintro ⟨i, c⟩ ⟨hi, hcl, hc1, hc2⟩
    simp only at hi hcl hc1 hc2
    by_cases hlt : i < a.length
    · have hib : i < b.length := by omega
      have hic : i < c.length := by omega
      have hlt' : (i : Int) < a.length := by omega
      have hib' : (i : Int) < b.length := by omega
      have w1 : IntKind.i64.wrap ((i : Int) + 1) = i + 1 := wI (by omega) (by omega)
      obtain ⟨y, hy⟩ : ∃ y, b[i] = y := ⟨_, rfl⟩
      obtain ⟨z, hz⟩ : ∃ z, c[i] = z := ⟨_, rfl⟩
      have hzz : a.getD i 0 = z := by rw [← hc2 i (Nat.le_refl _), ← hz]; simp [List.getD, hic]
      have hyy : b.getD i 0 = y := by rw [← hy]; simp [List.getD, hib]
      by_cases hgt : z < y
      · have hst := maxL_step (y := y) hlt rfl (by omega) hcl hc1 hc2 (by rw [hzz, hyy]; omega)
        repeat' (first
 |refine aK fun K hK=>?_|refine Step.by1 ?_|refine sE (by decide) ?_|refine cz rfl ?_|refine Fork.by2 (fun h=>?_) fun h=>?_
 |((first|refine aR ?_|refine aX (id:=5) 9 mixed (by decide) ?_);simp [gsV, vl, NetD.cells, hlt, hlt', hib, hib', hic, hcl, hy, hz, hgt, w1])
 |(refine Split.by2 (fun h=>?_) (fun h=>?_)<;>(simp [h, gsV, vl, NetD.cells, hlt, hlt', hib, hib', hic, hcl, hy, hz, hgt, w1]))
 |(apply hK;clear hK K)|refine AWh ‹_› ?_)
        refine ⟨i + 1, c.set i y, ⟨by omega, hst⟩, by omega, ?_⟩
        apply Weak.mk' <;> simp [vl, NetD.cells]
      · have hst := maxL_step (y := z) hlt rfl (by omega) hcl hc1 hc2 (by rw [hzz, hyy]; omega)
        have hcc : c.set i z = c := by rw [← hz]; simp
        rw [hcc] at hst
        repeat' (first
 |refine aK fun K hK=>?_|refine Step.by1 ?_|refine sE (by decide) ?_|refine cz rfl ?_|refine Fork.by2 (fun h=>?_) fun h=>?_
 |((first|refine aR ?_|refine aX (id:=5) 9 mixed (by decide) ?_);simp [gsV, vl, NetD.cells, hlt, hlt', hib, hib', hic, hcl, hy, hz, hgt, w1])
 |(refine Split.by2 (fun h=>?_) (fun h=>?_)<;>(simp [h, gsV, vl, NetD.cells, hlt, hlt', hib, hib', hic, hcl, hy, hz, hgt, w1]))
 |(apply hK;clear hK K)|refine AWh ‹_› ?_)
        refine ⟨i + 1, c, ⟨by omega, hst⟩, by omega, ?_⟩
        apply Weak.mk' <;> simp [vl, NetD.cells]
    · have hce : c = maxL a b := maxL_end (N := a.length) rfl (by omega) hcl (fun j hj => hc1 j (by omega))
      have hlt' : ¬ (i : Int) < a.length := by omega
      clear hc1 hc2
      subst hce
      repeat' (first
 |refine aK fun K hK=>?_|refine Step.by1 ?_|refine sE (by decide) ?_|refine cz rfl ?_|refine Fork.by2 (fun h=>?_) fun h=>?_
 |(refine aR ?_;simp [gsV, vl, NetD.cells, hlt, hlt', hcl])
 |(refine Split.by2 (fun h=>?_) (fun h=>?_)<;>(simp [h, gsV, vl, NetD.cells, hlt, hlt', hcl]))
 |(apply hK;clear hK K)|refine AWh ‹_› ?_)
      exact r1q (.inr (.inl (conv1_own rfl (by simp [hcl]))))
set_option maxRecDepth 20000 in
set_option maxHeartbeats 8000000 in
theorem c_look (n : NetD) (hn : n.ok) (gs : List (List PartD)) (hgl : gs.length ≤ 1048576) (hgs : ∀ g ∈ gs, okGoal g) : PC 98 [.agg n.cells, gsV gs] (.int .i64 (lookE n gs)) := by
  have hN := c_Net n hn
  obtain ⟨r, hr⟩ : ∃ r, lookE n gs = r := ⟨_, rfl⟩
  rw [hr]
  unfold lookE at hr
  simp only [vl, NetD.cells] at hN
  refine pB Tryz.func98 rfl (by decide) Tryz.ntmps98 (by simp) Tryz.results98 ?_
  by_cases hz : netE n = 0
  · rw [if_neg (by simp [hz])] at hr
    rw [hz] at hN
    repeat' (first
 |refine aK fun K hK=>?_|refine Step.by1 ?_|refine sE (by decide) ?_|refine cz rfl ?_|refine Fork.by2 (fun h=>?_) fun h=>?_
 |((first|refine aR ?_|refine aC (f:=15) rfl rfl (hN) rfl rfl rfl ?_);simp [gsV, vl, NetD.cells])
 |(refine Split.by2 (fun h=>?_) (fun h=>?_)<;>(simp [h, gsV, vl, NetD.cells]))
 |(apply hK;clear hK K)|refine AWh ‹_› ?_)
    refine aS1 (r := r) gs 16 [2, 14, 15] (lookF n) hr (by apply Weak.mk' <;> simp [gsV, vl, NetD.cells]) ?_ ?_
    · intro i g _ hlt hg hF
      rw [lookF_cons] at hF
      have hc := c_Goal n hn g (hgs g (hg ▸ List.getElem_mem hlt))
      have hlt' : (i : Int) < gs.length := by omega
      have w1 : IntKind.i64.wrap ((i : Int) + 1) = i + 1 := wI (by omega) (by omega)
      simp only [vl, NetD.cells] at hc
      generalize goalE n g = e at *
      by_cases he : e = 0
      · rw [if_neg (by simp [he])] at hF
        rw [he] at hc
        repeat' (first
 |refine aK fun K hK=>?_|refine Step.by1 ?_|refine sE (by decide) ?_|refine cz rfl ?_|refine Fork.by2 (fun h=>?_) fun h=>?_
 |((first|refine aR ?_|refine aC (f:=19) rfl rfl (hc) rfl rfl rfl ?_);simp [gsV, vl, NetD.cells, hlt, hlt', hg, w1])
 |(refine Split.by2 (fun h=>?_) (fun h=>?_)<;>(simp [h, gsV, vl, NetD.cells, hlt, hlt', hg, w1]))
 |(apply hK;clear hK K)|refine AWh ‹_› ?_)
        refine ⟨hF, ?_⟩; apply Weak.mk' <;> simp [gsV, vl, NetD.cells]
      · rw [if_pos he] at hF
        subst hF
        repeat' (first
 |refine aK fun K hK=>?_|refine Step.by1 ?_|refine sE (by decide) ?_|refine cz rfl ?_|refine Fork.by2 (fun h=>?_) fun h=>?_
 |((first|refine aR ?_|refine aC (f:=19) rfl rfl (hc) rfl rfl rfl ?_);simp [gsV, vl, NetD.cells, hlt, hlt', hg, he])
 |(refine Split.by2 (fun h=>?_) (fun h=>?_)<;>(simp [h, gsV, vl, NetD.cells, hlt, hlt', hg, he]))
 |(apply hK;clear hK K)|refine AWh ‹_› ?_)
        exact r1q (cE rfl rfl)
    · intro hF
      rw [lookF_nil] at hF
      repeat' (first
 |refine aK fun K hK=>?_|refine Step.by1 ?_|refine sE (by decide) ?_|refine cz rfl ?_|refine Fork.by2 (fun h=>?_) fun h=>?_
 |(refine aR ?_;simp [gsV, vl, NetD.cells])
 |(refine Split.by2 (fun h=>?_) (fun h=>?_)<;>(simp [h, gsV, vl, NetD.cells]))
 |(apply hK;clear hK K)|refine AWh ‹_› ?_)
      exact r1q (cE (by rw [← hF]; rfl) rfl)
  · rw [if_pos hz] at hr
    subst hr
    repeat' (first
 |refine aK fun K hK=>?_|refine Step.by1 ?_|refine sE (by decide) ?_|refine cz rfl ?_|refine Fork.by2 (fun h=>?_) fun h=>?_
 |((first|refine aR ?_|refine aC (f:=15) rfl rfl (hN) rfl rfl rfl ?_);simp [gsV, vl, NetD.cells, hz])
 |(refine Split.by2 (fun h=>?_) (fun h=>?_)<;>(simp [h, gsV, vl, NetD.cells, hz]))
 |(apply hK;clear hK K)|refine AWh ‹_› ?_)
    exact r1q (cE rfl rfl)
def useL (l : List GuardD) (m : List Bool) : List Bool := l.foldl (fun m g => m.set (g.clock - 1).toNat true) m
theorem useL_nil {m : List Bool} : useL [] m = m := rfl
theorem useL_cons {g : GuardD} {l : List GuardD} {m : List Bool} : useL (g :: l) m = useL l (m.set (g.clock - 1).toNat true) := rfl
theorem useL_len : ∀ {l : List GuardD} {m : List Bool}, (useL l m).length = m.length
  | [], m => rfl
  | g :: l, m => by rw [useL_cons, useL_len]; simp
set_option maxRecDepth 20000 in
set_option maxHeartbeats 8000000 in
theorem c_use {h : List B} {b g : Nat} {m : List Bool} (hl : HL h) (h1 : h[b]? = some (.row 4 g 0 true (bvs m))) (l : List GuardD) (hll : l.length ≤ 1048576) (hm : m.length ≤ 1048576) (hg : ∀ x ∈ l, okG m.length x) :
    GCall Tryz.prog GV 162 [.ref b g 0 m.length, vl GuardD.cells l] h (fun v h' => v = .tup [] ∧ h' = h.set b (.row 4 g 0 true (bvs (useL l m)))) := by
  have hb := (List.getElem?_eq_some_iff.1 h1).1
  have hlx : ∀ c : List Bool, HL (h.set b (.row 4 g 0 true (bvs c))) := fun c => hl.set rowF_lt
  have hbx : ∀ c : List Bool, (h.set b (.row 4 g 0 true (bvs c)))[b]? = some (.row 4 g 0 true (bvs c)) := fun c => get_set_eq h1
  have hnx : ∀ c : List Bool, (h.set b (.row 4 g 0 true (bvs c))).length = h.length := fun c => List.length_set ..
  have hsx : ∀ c d : List Bool, h.set b (.row 4 g 0 true (bvs d)) = (h.set b (.row 4 g 0 true (bvs c))).set b (.row 4 g 0 true (bvs d)) := fun c d => by rw [List.set_set]
  refine gB1 Tryz.func162 rfl (by decide) Tryz.ntmps162 (by simp) Tryz.results162 ?_
  repeat' (first
 |refine aK fun K hK=>?_|refine Step.by1 ?_|refine sE (by decide) ?_|refine cz rfl ?_|refine Fork.by2 (fun h=>?_) fun h=>?_
 |(refine aR ?_;simp [vl])
 |(refine Split.by2 (fun h=>?_) (fun h=>?_)<;>(simp [h, vl]))
 |(apply hK;clear hK K)|refine AWh ‹_› ?_)
  refine AW_range (r := useL l m) l 8 [0, 6, 7] (fun _ : List Bool => []) (fun c => h.set b (.row 4 g 0 true (bvs c))) (fun i c => c.length = m.length) useL m
    rfl rfl (Weak.sym (x := []) (by simp [set_same h1]) (hlx m) (by simp [vl, hb])) (fun _ c _ => by rw [hnx]) ?_ ?_
  · intro i c x _ hlt hx hJ hF
    rw [useL_cons] at hF
    obtain ⟨g1, g2⟩ := hg x (hx ▸ List.getElem_mem hlt)
    have hlt' : (i : Int) < l.length := by omega
    have w1 : IntKind.i64.wrap ((i : Int) + 1) = i + 1 := wI (by omega) (by omega)
    have w2 : IntKind.i64.wrap (x.clock - 1) = x.clock - 1 := wI (by omega) (by omega)
    obtain ⟨p, hp⟩ := Int.eq_ofNat_of_zero_le (show 0 ≤ x.clock - 1 by omega)
    have hpl : p < c.length := by omega
    have hpm : p < m.length := by omega
    have hpm' : (p : Int) < m.length := by omega
    rw [hp] at hF w2
    have hpt : ((p : Int)).toNat = p := by omega
    rw [hpt] at hF
    have f1 := hlx c
    have f2 := hbx c
    have f3 := hnx c
    have f4 := hsx c (c.set p true)
    have f5 := hlx (c.set p true)
    have f6 := hnx (c.set p true)
    have hbc : b < (h.set b (.row 4 g 0 true (bvs c))).length := by rw [f3]; exact hb
    have hcl : (bvs c).length = m.length := by simp [bvs, hJ]
    have hcp : (bvs c)[p]'(by rw [hcl]; exact hpm) = [V.bool c[p]] := by simp [bvs]
    have hbs : (bvs c).set p [V.bool true] = bvs (c.set p true) := by simp [bvs, List.map_set]
    generalize h.set b (.row 4 g 0 true (bvs c)) = hc at *
    repeat' (first
 |refine aK fun K hK=>?_|refine Step.by1 ?_|refine sE (by decide) ?_|refine cz rfl ?_|refine Fork.by2 (fun h=>?_) fun h=>?_
 |(refine aR ?_;simp [vl, GuardD.cells, hlt, hlt', hx, w1, hp, w2, f2, get_app hbc, hpm, hpm', hcl, hcp, hbs])
 |(refine Split.by2 (fun h=>?_) (fun h=>?_)<;>(simp [h, vl, GuardD.cells, hlt, hlt', hx, w1, hp, w2, f2, get_app hbc, hpm, hpm', hcl, hcp, hbs]))
 |(apply hK;clear hK K)|refine AWh ‹_› ?_)
    refine ⟨c.set p true, hF, by simp [hJ], Weak.sym (x := [.var x.cells]) (by rw [f4]; simp [set_app hbc, GuardD.cells]) f5 (by simp [vl, f6, hb])⟩
  · intro c hJ hF
    rw [useL_nil] at hF
    subst hF
    repeat' (first
 |refine aK fun K hK=>?_|refine Step.by1 ?_|refine sE (by decide) ?_|refine cz rfl ?_|refine Fork.by2 (fun h=>?_) fun h=>?_
 |(refine aR ?_;simp [vl])
 |(refine Split.by2 (fun h=>?_) (fun h=>?_)<;>(simp [h, vl]))
 |(apply hK;clear hK K)|refine AWh ‹_› ?_)
    exact ⟨.inl rfl, _, _, ⟨[], rfl, trivial⟩, ⟨rfl, rfl⟩, rfl, Go.AM.Leaves.sym (by rw [hnx]; exact Nat.le_refl _) (hlx _)⟩
theorem namedB_nil {c : Int} : namedB c [] = false := anyL_nil
theorem namedB_cons {c : Int} {g : GuardD} {l : List GuardD} : namedB c (g :: l) = (decide (g.clock = c) || namedB c l) := anC
set_option maxHeartbeats 4000000 in
theorem r_named24 (l : List GuardD) (c : Int) (hl : l.length ≤ 1048576) : PC 206 [vl GuardD.cells l, .int .i64 c] (.bool (namedB c l)) := by
  obtain ⟨r, hr⟩ : ∃ r, namedB c l = r := ⟨_, rfl⟩
  rw [hr]
  refine pB Tryz.func206 rfl (by decide) Tryz.ntmps206 (by simp) Tryz.results206 ?_
  repeat' (first
 |refine aK fun K hK=>?_|refine Step.by1 ?_|refine sE (by decide) ?_|refine cz rfl ?_|refine Fork.by2 (fun h=>?_) fun h=>?_
 |(refine aR ?_;simp [vl])
 |(refine Split.by2 (fun h=>?_) (fun h=>?_)<;>(simp [h, vl]))
 |(apply hK;clear hK K)|refine AWh ‹_› ?_)
  refine aS1 (r := r) l 5 [0, 1] (namedB c) hr (by apply Weak.mk' <;> simp [vl]) ?_ ?_
  · intro i g _ hlt hg hF
    rw [namedB_cons] at hF
    have hlt' : (i : Int) < l.length := by omega
    have w1 : IntKind.i64.wrap ((i : Int) + 1) = i + 1 := wI (by omega) (by omega)
    by_cases he : g.clock = c
    · rw [decide_eq_true he, Bool.true_or] at hF
      subst hF
      repeat' (first
 |refine aK fun K hK=>?_|refine Step.by1 ?_|refine sE (by decide) ?_|refine cz rfl ?_|refine Fork.by2 (fun h=>?_) fun h=>?_
 |(refine aR ?_;simp [vl, GuardD.cells, hlt, hlt', hg, he, w1])
 |(refine Split.by2 (fun h=>?_) (fun h=>?_)<;>(simp [h, vl, GuardD.cells, hlt, hlt', hg, he, w1]))
 |(apply hK;clear hK K)|refine AWh ‹_› ?_)
      exact r1q (cE rfl rfl)
    · rw [decide_eq_false he, Bool.false_or] at hF
      repeat' (first
 |refine aK fun K hK=>?_|refine Step.by1 ?_|refine sE (by decide) ?_|refine cz rfl ?_|refine Fork.by2 (fun h=>?_) fun h=>?_
 |(refine aR ?_;simp [vl, GuardD.cells, hlt, hlt', hg, he, w1])
 |(refine Split.by2 (fun h=>?_) (fun h=>?_)<;>(simp [h, vl, GuardD.cells, hlt, hlt', hg, he, w1]))
 |(apply hK;clear hK K)|refine AWh ‹_› ?_)
      refine ⟨hF, ?_⟩; apply Weak.mk' <;> simp [vl]
  · intro hF
    rw [namedB_nil] at hF
    subst hF
    repeat' (first
 |refine aK fun K hK=>?_|refine Step.by1 ?_|refine sE (by decide) ?_|refine cz rfl ?_|refine Fork.by2 (fun h=>?_) fun h=>?_
 |(refine aR ?_;simp [vl])
 |(refine Split.by2 (fun h=>?_) (fun h=>?_)<;>(simp [h, vl]))
 |(apply hK;clear hK K)|refine AWh ‹_› ?_)
    exact r1q (cE rfl rfl)
theorem usedPs_nil {c : Int} {X : Bool} : usedPs c X [] = X := rfl
theorem usedPs_cons {c : Int} {X : Bool} {p : PartD} {l : List PartD} : usedPs c X (p :: l) = (namedB c p.guards || usedPs c X l) := rfl
theorem usedGs_nil {c : Int} : usedGs c [] = false := rfl
theorem usedGs_cons {c : Int} {g : List PartD} {l : List (List PartD)} : usedGs c (g :: l) = usedPs c (usedGs c l) g := rfl
theorem usedEs_nil {i : Nat} {c : Int} {X : Bool} : usedEs i c X [] = X := rfl
theorem usedEs_cons {i : Nat} {c : Int} {X : Bool} {e : EdgeD} {l : List EdgeD} : usedEs i c X (e :: l) = ((decide (e.frm = i) && namedB c e.guards) || usedEs i c X l) := rfl
set_option maxRecDepth 20000 in
set_option maxHeartbeats 8000000 in
theorem r_used (a : AutoD) (ha : a.ok) (i : Nat) (hi : i < a.locs.length) (c : Int) (gs : List (List PartD)) (hgl : gs.length ≤ 1048576) (hgs : ∀ g ∈ gs, okGoal g) : PC 164 [.agg a.cells, .int .i64 i, .int .i64 c, gsV gs] (.bool (usedB a gs i c)) := by
  obtain ⟨_, hal, hae⟩ := ha
  obtain ⟨r, hr⟩ : ∃ r, usedB a gs i c = r := ⟨_, rfl⟩
  rw [hr]
  unfold usedB at hr
  obtain ⟨x, hx⟩ : ∃ x, a.locs[i] = x := ⟨_, rfl⟩
  rw [show a.locs.getD i default = x by simp [List.getD, hi, hx]] at hr
  have hc0 := r_named24 x.inv c (hal.2 x (hx ▸ List.getElem_mem hi)).2.2.1
  have hi' : (i : Int) < a.locs.length := by omega
  simp only [vl] at hc0
  refine pB Tryz.func164 rfl (by decide) Tryz.ntmps164 (by simp) Tryz.results164 ?_
  generalize namedB c x.inv = b0 at *
  cases b0
  · rw [Bool.false_or] at hr
    repeat' (first
 |refine aK fun K hK=>?_|refine Step.by1 ?_|refine sE (by decide) ?_|refine cz rfl ?_|refine Fork.by2 (fun h=>?_) fun h=>?_
 |((first|refine aR ?_|refine aC (f:=206) rfl rfl (hc0) rfl rfl rfl ?_);simp [gsV, vl, AutoD.cells, LocD.cells, hi, hi', hx])
 |(refine Split.by2 (fun h=>?_) (fun h=>?_)<;>(simp [h, gsV, vl, AutoD.cells, LocD.cells, hi, hi', hx]))
 |(apply hK;clear hK K)|refine AWh ‹_› ?_)
    refine aS1 (r := r) a.edges 9 [1, 2, 3, 4] (usedEs i c (usedGs c gs)) hr (by apply Weak.mk' <;> simp [gsV, vl, AutoD.cells]) ?_ ?_
    · intro k e _ hlt he hF
      rw [usedEs_cons] at hF
      have hc := r_named24 e.guards c (hae.2 e (he ▸ List.getElem_mem hlt)).2.2.1.1
      have hlt' : (k : Int) < a.edges.length := by omega
      have w1 : IntKind.i64.wrap ((k : Int) + 1) = k + 1 := wI (by omega) (by omega)
      simp only [vl] at hc
      generalize namedB c e.guards = b1 at *
      by_cases hf : e.frm = i
      · rw [decide_eq_true hf, Bool.true_and] at hF
        cases b1
        · rw [Bool.false_or] at hF
          repeat' (first
 |refine aK fun K hK=>?_|refine Step.by1 ?_|refine sE (by decide) ?_|refine cz rfl ?_|refine Fork.by2 (fun h=>?_) fun h=>?_
 |((first|refine aR ?_|refine aC (f:=206) rfl rfl (hc) rfl rfl rfl ?_);simp [gsV, vl, AutoD.cells, EdgeD.cells, hlt, hlt', he, hf, w1])
 |(refine Split.by2 (fun h=>?_) (fun h=>?_)<;>(simp [h, gsV, vl, AutoD.cells, EdgeD.cells, hlt, hlt', he, hf, w1]))
 |(apply hK;clear hK K)|refine AWh ‹_› ?_)
          refine ⟨hF, ?_⟩; apply Weak.mk' <;> simp [gsV, vl, AutoD.cells]
        · rw [Bool.true_or] at hF
          subst hF
          repeat' (first
 |refine aK fun K hK=>?_|refine Step.by1 ?_|refine sE (by decide) ?_|refine cz rfl ?_|refine Fork.by2 (fun h=>?_) fun h=>?_
 |((first|refine aR ?_|refine aC (f:=206) rfl rfl (hc) rfl rfl rfl ?_);simp [gsV, vl, AutoD.cells, EdgeD.cells, hlt, hlt', he, hf, w1])
 |(refine Split.by2 (fun h=>?_) (fun h=>?_)<;>(simp [h, gsV, vl, AutoD.cells, EdgeD.cells, hlt, hlt', he, hf, w1]))
 |(apply hK;clear hK K)|refine AWh ‹_› ?_)
          exact r1q (cE rfl rfl)
      · rw [decide_eq_false hf, Bool.false_and, Bool.false_or] at hF
        repeat' (first
 |refine aK fun K hK=>?_|refine Step.by1 ?_|refine sE (by decide) ?_|refine cz rfl ?_|refine Fork.by2 (fun h=>?_) fun h=>?_
 |((first|refine aR ?_|refine aC (f:=206) rfl rfl (hc) rfl rfl rfl ?_);simp [gsV, vl, AutoD.cells, EdgeD.cells, hlt, hlt', he, hf, w1])
 |(refine Split.by2 (fun h=>?_) (fun h=>?_)<;>(simp [h, gsV, vl, AutoD.cells, EdgeD.cells, hlt, hlt', he, hf, w1]))
 |(apply hK;clear hK K)|refine AWh ‹_› ?_)
        refine ⟨hF, ?_⟩; apply Weak.mk' <;> simp [gsV, vl, AutoD.cells]
    · intro hF
      rw [usedEs_nil] at hF
      repeat' (first
 |refine aK fun K hK=>?_|refine Step.by1 ?_|refine sE (by decide) ?_|refine cz rfl ?_|refine Fork.by2 (fun h=>?_) fun h=>?_
 |(refine aR ?_;simp [gsV, vl, AutoD.cells])
 |(refine Split.by2 (fun h=>?_) (fun h=>?_)<;>(simp [h, gsV, vl, AutoD.cells]))
 |(apply hK;clear hK K)|refine AWh ‹_› ?_)
      refine aS1 (r := r) gs 10 [2, 3] (usedGs c) hF (by apply Weak.mk' <;> simp [gsV, vl, AutoD.cells]) ?_ ?_
      · intro k g _ hlt hg hF
        rw [usedGs_cons] at hF
        have hgo := hgs g (hg ▸ List.getElem_mem hlt)
        have hgl2 := hgo.1
        have hlt' : (k : Int) < gs.length := by omega
        have w1 : IntKind.i64.wrap ((k : Int) + 1) = k + 1 := wI (by omega) (by omega)
        repeat' (first
 |refine aK fun K hK=>?_|refine Step.by1 ?_|refine sE (by decide) ?_|refine cz rfl ?_|refine Fork.by2 (fun h=>?_) fun h=>?_
 |(refine aR ?_;simp [gsV, vl, hlt, hlt', hg, w1])
 |(refine Split.by2 (fun h=>?_) (fun h=>?_)<;>(simp [h, gsV, vl, hlt, hlt', hg, w1]))
 |(apply hK;clear hK K)|refine AWh ‹_› ?_)
        refine aS1 (r := r) g 11 [2, 3, 10] (usedPs c (usedGs c (gs.drop (k + 1)))) hF (by apply Weak.mk' <;> simp [gsV, vl, AutoD.cells]) ?_ ?_
        · intro m p _ hmt hp hG
          rw [usedPs_cons] at hG
          have hc := r_named24 p.guards c (hgo.2 p (hp ▸ List.getElem_mem hmt)).2.1.1
          have hmt' : (m : Int) < g.length := by omega
          have w2 : IntKind.i64.wrap ((m : Int) + 1) = m + 1 := wI (by omega) (by omega)
          simp only [vl] at hc
          generalize namedB c p.guards = b1 at *
          cases b1
          · rw [Bool.false_or] at hG
            repeat' (first
 |refine aK fun K hK=>?_|refine Step.by1 ?_|refine sE (by decide) ?_|refine cz rfl ?_|refine Fork.by2 (fun h=>?_) fun h=>?_
 |((first|refine aR ?_|refine aC (f:=206) rfl rfl (hc) rfl rfl rfl ?_);simp [gsV, vl, PartD.cells, hlt, hlt', hg, hmt, hmt', hp, w2])
 |(refine Split.by2 (fun h=>?_) (fun h=>?_)<;>(simp [h, gsV, vl, PartD.cells, hlt, hlt', hg, hmt, hmt', hp, w2]))
 |(apply hK;clear hK K)|refine AWh ‹_› ?_)
            refine ⟨hG, ?_⟩; apply Weak.mk' <;> simp [gsV, vl, AutoD.cells]
          · rw [Bool.true_or] at hG
            subst hG
            repeat' (first
 |refine aK fun K hK=>?_|refine Step.by1 ?_|refine sE (by decide) ?_|refine cz rfl ?_|refine Fork.by2 (fun h=>?_) fun h=>?_
 |((first|refine aR ?_|refine aC (f:=206) rfl rfl (hc) rfl rfl rfl ?_);simp [gsV, vl, PartD.cells, hlt, hlt', hg, hmt, hmt', hp, w2])
 |(refine Split.by2 (fun h=>?_) (fun h=>?_)<;>(simp [h, gsV, vl, PartD.cells, hlt, hlt', hg, hmt, hmt', hp, w2]))
 |(apply hK;clear hK K)|refine AWh ‹_› ?_)
            exact r1q (cE rfl rfl)
        · intro hG
          rw [usedPs_nil] at hG
          repeat' (first
 |refine aK fun K hK=>?_|refine Step.by1 ?_|refine sE (by decide) ?_|refine cz rfl ?_|refine Fork.by2 (fun h=>?_) fun h=>?_
 |(refine aR ?_;simp [gsV, vl, hlt, hlt', hg, w1])
 |(refine Split.by2 (fun h=>?_) (fun h=>?_)<;>(simp [h, gsV, vl, hlt, hlt', hg, w1]))
 |(apply hK;clear hK K)|refine AWh ‹_› ?_)
          refine ⟨hG, ?_⟩; apply Weak.mk' <;> simp [gsV, vl, AutoD.cells]
      · intro hF
        rw [usedGs_nil] at hF
        subst hF
        repeat' (first
 |refine aK fun K hK=>?_|refine Step.by1 ?_|refine sE (by decide) ?_|refine cz rfl ?_|refine Fork.by2 (fun h=>?_) fun h=>?_
 |(refine aR ?_;simp [gsV, vl])
 |(refine Split.by2 (fun h=>?_) (fun h=>?_)<;>(simp [h, gsV, vl]))
 |(apply hK;clear hK K)|refine AWh ‹_› ?_)
        exact r1q (cE rfl rfl)
  · rw [Bool.true_or] at hr
    subst hr
    repeat' (first
 |refine aK fun K hK=>?_|refine Step.by1 ?_|refine sE (by decide) ?_|refine cz rfl ?_|refine Fork.by2 (fun h=>?_) fun h=>?_
 |((first|refine aR ?_|refine aC (f:=206) rfl rfl (hc0) rfl rfl rfl ?_);simp [gsV, vl, AutoD.cells, LocD.cells, hi, hi', hx])
 |(refine Split.by2 (fun h=>?_) (fun h=>?_)<;>(simp [h, gsV, vl, AutoD.cells, LocD.cells, hi, hi', hx]))
 |(apply hK;clear hK K)|refine AWh ‹_› ?_)
    exact r1q (cE rfl rfl)
end Go.Proofs.YtgmlimipejcpgaaGreatDoor
end
