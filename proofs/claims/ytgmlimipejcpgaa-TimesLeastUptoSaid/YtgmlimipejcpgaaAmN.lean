/-
  YtgmlimipejcpgaaAmN: a step of the proof of a law of the program: what this text proves holds under the hypotheses that its theorems name, and no others.
-/
import Derived.Test.YtgmlimipejcpgaaAmM
/-! AM, part N: a region that draws its order, as one that does not. -/
set_option linter.unusedVariables false
set_option linter.unusedSimpArgs false
namespace Go.AM
section
variable {P : Program} {ge : GEnv} {st : St} {Q : Exit → St → Prop} {ops : Array Oper}

theorem Rep.same {G : Gh} {s s' : St} {a : Act} {w : World} (hr : Rep P ge G s a w) (hn : s'.n = s.n) (hh : s'.h = s.h) (ht : ∀ t, lk s'.tm t = lk s.tm t) : Rep P ge G s' a w :=
  ⟨by rw [hh]; exact hr.rh, fun t => by rw [ht]; exact hr.tm t, by rw [hn]; exact hr.n, hr.d⟩

structure DInv (ops : Array Oper) (k : Nat) (st0 : St) (vs : List V) (listed : Array Bool) (S : St) : Prop where
  n : S.n = st0.n
  h : S.h = st0.h
  one : ∀ (i : Nat) (o : Oper) (t : Nat), i < k → ops[i]? = some o → o.dst = some t → listed.getD i false = true → lk S.tm t = vs.getD i .junk
  old : ∀ (t : Nat), (∀ (i : Nat) (o : Oper), i < k → ops[i]? = some o → listed.getD i false = true → o.dst ≠ some t) → lk S.tm t = lk st0.tm t
  closed : ∀ (j : Nat) (o : Oper), ops[j]? = some o → listed.getD j false = true → ∀ e ∈ o.after, Region.binds .any e = true → listed.getD e.on false = true
  size : listed.size = ops.size

theorem take_get {ops : Array Oper} {k i : Nat} {o : Oper} (hi : i < k) (h : ops[i]? = some o) : (ops.toList.take k)[i]? = some o := by
  rw [List.getElem?_take_of_lt hi]; simpa using h
theorem get_take {ops : Array Oper} {k i : Nat} {o : Oper} (h : (ops.toList.take k)[i]? = some o) : i < k ∧ ops[i]? = some o := by
  rw [List.getElem?_take] at h
  split at h
  · rename_i hi; exact ⟨hi, by simpa using h⟩
  · cases h

theorem apart_take {k : Nat} (hd : DrawOk ops k) : Apart (ops.toList.take k) := fun i j o o' t hij h1 h2 hdst => by
  obtain ⟨a1, a2⟩ := get_take h1
  obtain ⟨b1, b2⟩ := get_take h2
  exact (hd.apart i j o o' t a1 b1 (by omega) a2 b2 hdst).1

theorem apart_mono {l : List Oper} (h : Apart l) (m : Nat) : Apart (l.take m) := fun i j o o' t hij h1 h2 => by
  rw [List.getElem?_take] at h1 h2
  split at h1 <;> split at h2 <;> first | exact h i j o o' t hij h1 h2 | (cases h1; done) | (cases h2; done)

/-- What is looked at is the same as in order. -/
theorem DInv.look {k : Nat} {st0 S : St} {vs : List V} {listed : Array Bool} (hd : DrawOk ops k) (hrun : Run P ge ops st0 (ops.toList.take k) vs) (hI : DInv ops k st0 vs listed S)
    {i : Nat} {o : Oper} (hi : i < k) (ho : ops[i]? = some o) (hready : i ∈ Region.ready .any ops listed) :
    ∀ t ∈ o.looksAt ops, lk S.tm t = lk (fin st0 ((ops.toList.take k).take i) (vs.take i)).tm t := by
  intro t ht
  obtain ⟨hni, o', ho', haft⟩ := mem_ready.1 hready
  rw [ho] at ho'; cases ho'
  have hlt := (Array.getElem?_eq_some_iff.1 ho).1
  rw [getD_tf hI.size hlt] at hni
  have hap := apart_take hd
  by_cases hw : ∃ j oj, j < i ∧ ops[j]? = some oj ∧ oj.dst = some t
  · obtain ⟨j, oj, hji, hoj, hdst⟩ := hw
    have hb := (hd.apart j i oj o t (by omega) hi (by omega) hoj ho hdst).2 ht
    have hl : listed.getD j false = true := by
      rcases hb with hb | hb
      · obtain ⟨e, he, hbi, rfl⟩ := beforeB_spec hb
        exact haft e he hbi
      · obtain ⟨e, he, hbi, rfl⟩ := beforeB_spec hb
        have := hd.down j oj hoj e he hbi
        omega
    rw [hI.one j oj t (by omega) hoj hdst hl]
    have h1 : ((ops.toList.take k).take i)[j]? = some oj := by rw [List.getElem?_take_of_lt hji]; exact take_get (by omega) hoj
    rw [fin_new _ _ _ j oj t (by simp [hrun.len]) (apart_mono hap i) h1 hdst]
    simp [List.getD, List.getElem?_take_of_lt hji]
  · have h1 : lk (fin st0 ((ops.toList.take k).take i) (vs.take i)).tm t = lk st0.tm t := by
      refine fin_old _ _ _ t fun x hx hdx => ?_
      obtain ⟨j, hj⟩ := List.getElem?_of_mem hx
      rw [List.getElem?_take] at hj
      split at hj
      · rename_i hji
        exact hw ⟨j, x, hji, (get_take hj).2, hdx⟩
      · cases hj
    rw [h1]
    refine hI.old t fun j oj hjk hoj hlj hdst => ?_
    rcases Nat.lt_trichotomy j i with h2 | h2 | h2
    · exact hw ⟨j, oj, h2, hoj, hdst⟩
    · subst h2; rw [hni] at hlj; cases hlj
    · rcases (hd.apart j i oj o t hjk hi (by omega) hoj ho hdst).2 ht with hb | hb
      · obtain ⟨e, he, hbi, rfl⟩ := beforeB_spec hb
        have := hd.down i o ho e he hbi
        omega
      · obtain ⟨e, he, hbi, rfl⟩ := beforeB_spec hb
        rw [hI.closed j oj hoj hlj e he hbi] at hni; cases hni

theorem DInv.fin {k : Nat} {st0 S : St} {vs : List V} {listed : Array Bool} (hd : DrawOk ops k) (hrun : Run P ge ops st0 (ops.toList.take k) vs) (hI : DInv ops k st0 vs listed S)
    (hall : ∀ i, i < k → i < ops.size → listed.getD i false = true) : ∀ t, lk (fin st0 (ops.toList.take k) vs).tm t = lk S.tm t := by
  intro t
  by_cases hw : ∃ i o, i < k ∧ ops[i]? = some o ∧ o.dst = some t
  · obtain ⟨i, o, hi, ho, hdst⟩ := hw
    rw [hI.one i o t hi ho hdst (hall i hi (Array.getElem?_eq_some_iff.1 ho).1)]
    exact fin_new _ _ _ i o t hrun.len (apart_take hd) (take_get hi ho) hdst
  · rw [hI.old t fun i o hi ho _ hdst => hw ⟨i, o, hi, ho, hdst⟩]
    refine fin_old _ _ _ t fun x hx hdx => ?_
    obtain ⟨j, hj⟩ := List.getElem?_of_mem hx
    obtain ⟨h1, h2⟩ := get_take hj
    exact hw ⟨j, x, h1, h2, hdx⟩

theorem wpOp_of_AS {G : Gh} {S S' : St} {a : Act} {w : World} {o : Oper} {i : Nat} {Qc : Exit → Act → World → Prop} {K : Act → World → Prop} (ho : ops[i]? = some o)
    (h : AS P ge ops [o] (fun e s => e = .normal ∧ s = S') S) (hr : Rep P ge G S a w) (hK : ∀ G' a' w', Rep P ge G' S' a' w' → Ext G S.h w G' S'.h w' → K a' w') : wpOp P ops Qc i K a w := by
  have h1 := h G a w hr
  have hk : ∀ a' w', wpList P ops (CPost P ge (fun e s => e = .normal ∧ s = S') G S.h w) [] a' w' → K a' w' := fun a' w' h => by
    unfold wpList at h
    obtain ⟨G', s, ⟨_, rfl⟩, r, x⟩ := h
    exact hK G' a' w' r x
  have hq : ∀ e a' w', e ≠ .normal → ¬ CPost P ge (fun e s => e = .normal ∧ s = S') G S.h w e a' w' := fun e a' w' hne ⟨_, _, ⟨h, _⟩, _⟩ => hne h
  unfold wpOp
  rw [ho]
  unfold wpList at h1
  simp only
  split
  · rename_i hw
    rw [if_pos hw] at h1
    rcases h1 with h1 | ⟨_, a0, w0, h1⟩
    · refine .inl ?_
      unfold Oper.wp at h1 ⊢
      generalize (execOp a.eval o).run P w = r at *
      cases r with
      | ok n w' =>
        cases n <;> simp only [Oper.upon] at h1 ⊢ <;> first
          | exact hk _ _ h1
          | exact Calls.mono h1 (fun e w'' he => by
              cases e <;> first
                | exact hk _ _ he
                | exact absurd he (hq _ _ _ (by simp))
                | (obtain ⟨_, _, he⟩ := he; exact absurd he (hq _ _ _ (by simp))))
          | exact Rows.mono h1 (fun _ _ he => hk _ _ he)
      | halt x w' => cases x <;> simp only [Oper.upon] at h1 ⊢ <;> exact absurd h1 (hq _ _ _ (by simp))
    · exact absurd h1 (hq _ _ _ (by simp))
  · rename_i hw
    rw [if_neg hw] at h1
    exact hk _ _ h1

theorem wpAny_draw {k : Nat} {st0 : St} {vs : List V} {G0 : Gh} {w0 : World} (hd : DrawOk ops k) (hrun : Run P ge ops st0 (ops.toList.take k) vs) (htail : AS P ge ops (ops.toList.drop k) Q (fin st0 (ops.toList.take k) vs)) :
    ∀ (fuel : Nat) (listed : Array Bool) (S : St) (G : Gh) (a : Act) (w : World), DInv ops k st0 vs listed S → unl ops listed ≤ fuel → (∀ j, k ≤ j → j < ops.size → listed.getD j false = false) →
      Rep P ge G S a w → Ext G0 st0.h w0 G S.h w → wpAny P .any ops (CPost P ge Q G0 st0.h w0) fuel listed a w := by
  intro fuel
  induction fuel with
  | zero =>
    intro listed S G a w hI hf hk hr hx
    have hall : ∀ i, i < ops.size → listed.getD i false = true := fun i hi => by
      have : ((List.range ops.size).filter fun j => !listed.getD j true) = [] := List.eq_nil_of_length_eq_zero (Nat.le_zero.1 hf)
      have := List.filter_eq_nil_iff.1 this i (List.mem_range.2 hi)
      rw [← getD_tf hI.size hi]; simpa using this
    have hs := hI.fin hd hrun fun i _ hi => hall i hi
    have h1 := htail G a w (hr.same (by rw [(fin_n _ _ _).1, hI.n]) (by rw [(fin_n _ _ _).2, hI.h]) hs)
    rw [(fin_n _ _ _).2, ← hI.h] at h1
    have hks : ops.size ≤ k := by
      rcases Nat.lt_or_ge k ops.size with h2 | h2
      · have := hk k (Nat.le_refl _) h2; rw [hall k h2] at this; cases this
      · exact h2
    refine wpAny_tail hd 0 listed k a w (Nat.le_refl _) hI.size hf (fun i hi => ⟨fun _ => by omega, fun _ => hall i hi⟩) ?_
    exact wpList_mono' (fun _ _ _ hp => hp.mono hx fun _ _ h => h) h1
  | succ fuel ih =>
    intro listed S G a w hI hf hk hr hx
    by_cases hall : ∀ i, i < k → i < ops.size → listed.getD i false = true
    · have hs := hI.fin hd hrun hall
      have h1 := htail G a w (hr.same (by rw [(fin_n _ _ _).1, hI.n]) (by rw [(fin_n _ _ _).2, hI.h]) hs)
      rw [(fin_n _ _ _).2, ← hI.h] at h1
      refine wpAny_tail hd (fuel + 1) listed k a w (Nat.le_refl _) hI.size hf (fun i hi => ⟨fun h => ?_, fun h => hall i h hi⟩) (wpList_mono' (fun _ _ _ hp => hp.mono hx fun _ _ h => h) h1)
      rcases Nat.lt_or_ge i k with h2 | h2
      · exact h2
      · rw [hk i h2 hi] at h; cases h
    · have hlow : ∀ i, i ∈ Region.ready .any ops listed → i < k := fun i hi => by
        rcases Nat.lt_or_ge i k with h2 | h2
        · exact h2
        · exfalso
          refine hall fun j hj hjs => ?_
          obtain ⟨h1, o, h3, h4⟩ := mem_ready.1 hi
          obtain ⟨e, he, hb, rfl⟩ := beforeB_spec (hd.tail i o h3 h2 j (by omega))
          exact h4 e he hb
      refine ⟨fun hrdy => ?_, fun i hi => ?_⟩
      · exfalso
        -- the first one that is not listed is ready
        have key : ∀ (m : Nat) (i : Nat), i < m → i < ops.size → listed.getD i false = true := by
          intro m
          induction m with
          | zero => intro i hi; omega
          | succ m ihm =>
            intro i hi hs
            rcases Nat.lt_or_ge i m with h1 | h1
            · exact ihm i h1 hs
            · have him : i = m := by omega
              subst him
              cases hh : listed.getD i false
              · have : i ∈ Region.ready .any ops listed := by
                  refine mem_ready.2 ⟨by rw [getD_tf hI.size hs]; exact hh, ops[i], by simp [hs], fun e he hb => ?_⟩
                  have := hd.down i ops[i] (by simp [hs]) e he hb
                  exact ihm e.on this (by omega)
                rw [hrdy] at this; cases this
              · rfl
        exact hall fun i hi hs => key (i + 1) i (by omega) hs
      · have hik := hlow i hi
        obtain ⟨hni, o, ho, haft⟩ := mem_ready.1 hi
        have hlt := (Array.getElem?_eq_some_iff.1 ho).1
        obtain ⟨hps, hdst⟩ := hrun.at (take_get hik ho)
        have hps' : PStep P ge ops S o (vs.getD i .junk) := hps.congr (by rw [(fin_n _ _ _).1, hI.n]) (by rw [(fin_n _ _ _).2, hI.h]) (fun t ht => hI.look hd hrun hik ho hi t ht)
        have hdst' : dstOk S.n o.dst = true := by rw [hI.n]; exact hdst
        have has : AS P ge ops [o] (fun e s => e = .normal ∧ s = { S with tm := putD o.dst (vs.getD i .junk) S.tm }) S := hps'.sound hdst' (AS_nil ⟨rfl, rfl⟩)
        refine wpOp_of_AS ho has hr fun G' a' w' hr' hx' => ?_
        refine ih _ { S with tm := putD o.dst (vs.getD i .junk) S.tm } G' a' w' ⟨hI.n, hI.h, ?_, ?_, ?_, by simp [hI.size]⟩ (by have := unl_set hlt hI.size hni; omega) ?_ hr' (hx.trans hx')
        · intro x ox t hxk hox hdx hlx
          show lk (putD o.dst _ S.tm) t = _
          rw [lk_putD]
          by_cases hxi : i = x
          · subst hxi; rw [ho] at hox; cases hox; rw [if_pos hdx]
          · rw [getD_set_ne _ hxi] at hlx
            rw [if_neg (fun hod => (hd.apart i x o ox t hik hxk hxi ho hox hod).1 hdx)]
            exact hI.one x ox t hxk hox hdx hlx
        · intro t ht
          show lk (putD o.dst _ S.tm) t = _
          rw [lk_putD, if_neg (ht i o hik ho (by simp [Array.getD, hI.size, hlt]))]
          refine hI.old t fun x ox hxk hox hlx => ht x ox hxk hox (getD_set_true hlx)
        · intro x ox hox hlx e he hb
          by_cases hxi : i = x
          · subst hxi; rw [ho] at hox; cases hox
            exact getD_set_true (haft e he hb)
          · rw [getD_set_ne _ hxi] at hlx
            exact getD_set_true (hI.closed x ox hox hlx e he hb)
        · intro j hj hjs
          rw [getD_set_ne _ (by omega)]
          exact hk j hj hjs

theorem Rep.drawn {G : Gh} {a : Act} {w : World} (hr : Rep P ge G st a w) (n : Nat) : ∃ G', Rep P ge G' st a { w with drawn := n } ∧ Ext G st.h w G' st.h { w with drawn := n } := by
  have kept : Kept G w G { w with drawn := n } := ⟨⟨Nat.le_refl _, fun _ _ => rfl, rfl, ⟨rfl, rfl⟩⟩, fun _ _ => rfl, hr.rh.fzlt⟩
  obtain ⟨h1, h2⟩ := kept.rh hr.rh
  exact ⟨_, ⟨h1, fun t => (hr.tm t).mono h2.le, hr.n, hr.d⟩, h2⟩

/-- A region that draws its order: pure operations, k of them, and a chain behind them. -/
theorem AW_region_draw {id k : Nat} {vs : List V} (hm : P.follows .mixedOrders = true) (hd : drawOk ops k = true) (hrun : Run P ge ops st (ops.toList.take k) vs) (htail : AS P ge ops (ops.toList.drop k) Q (fin st (ops.toList.take k) vs)) :
    AW P ge (.region id ops true) Q st := by
  intro G a w hr
  refine wp_region_any hm ?_
  obtain ⟨G', hr', hx⟩ := hr.drawn (w.drawn + 1)
  have hrep : ∀ i, (Array.replicate ops.size false).getD i false = false := fun i => by
    simp only [Array.getD_eq_getD_getElem?, Array.getElem?_replicate]; split <;> rfl
  refine wpAny_draw (drawOk_spec hd) hrun htail _ _ st G' a _ ⟨rfl, rfl, ?_, fun _ _ => rfl, ?_, by simp⟩ ?_ (fun j _ _ => hrep j) hr' hx
  · intro i o t _ _ _ h; rw [hrep] at h; cases h
  · intro j o _ h; rw [hrep] at h; cases h
  · unfold unl; exact Nat.le_trans (List.length_filter_le _ _) (by simp)
end
end Go.AM
