/-
  YtgmlimipejcpgaaGreatDoorCo13: steps of the proof of a law of the program: what these texts prove holds under the hypotheses that their theorems name, and no others.
-/
import Derived.Test.YtgmlimipejcpgaaGreatDoorCo12
section
set_option linter.unusedVariables false
set_option linter.unusedSimpArgs false
namespace Go.AM
section
variable {P : Program} {ge : GEnv} {st st' : St} {Q : Exit → St → Prop} {ops : Array Oper}
theorem get_ext {h e : List B} {b : Nat} (hb : b < h.length) : (h ++ e)[b]? = h[b]? := List.getElem?_append_left hb
theorem place_ext {h e : List B} {v : V} (hv : v.lt h.length = true) : place (h ++ e) v = place h v := by
  cases v <;> simp only [place]
  all_goals (simp only [V.lt, decide_eq_true_eq] at hv; rw [get_ext hv])
/-- Blocks laid behind the heap change no operation that does not look at them. -/
theorem op_ext {op : Op} (hs : stillOp op = true) (e : List B) (hl : ∀ x ∈ op.operands, (ev ge st.tm x).lt st.h.length = true) (ho : opOk P ge st op) :
    opOk P ge ⟨st.n, st.tm, st.h ++ e⟩ op ∧ (opVal P ge ⟨st.n, st.tm, st.h ++ e⟩ op).1 = (opVal P ge st op).1 := by
  unfold stillOp at hs
  split at hs
  case h_5 T x =>
    have := hl x (by simp [Op.operands])
    simp only [opOk, opVal, loadGood, loadVal] at ho ⊢
    rw [place_ext this]; exact ⟨ho, rfl⟩
  case h_9 s T x =>
    have := hl x (by simp [Op.operands])
    simp only [opOk, opVal] at ho ⊢
    generalize ev ge st.tm x = v at *
    cases v <;> first
      | exact ⟨ho, rfl⟩
      | (have hb := of_decide_eq_true this
         simp only [convGood, convVal, get_ext hb] at ho ⊢
         first | exact ⟨ho, rfl⟩ | exact ⟨ho, trivial⟩)
  case h_11 s x y =>
    have := hl x (by simp [Op.operands])
    simp only [opOk, opVal] at ho ⊢
    generalize ev ge st.tm x = v at *
    cases v <;> first
      | exact ⟨ho, rfl⟩
      | (have hb := of_decide_eq_true this
         simp only [idxGood, idxVal, get_ext hb] at ho ⊢
         first | exact ⟨ho, rfl⟩ | exact ⟨ho, trivial⟩)
  case h_15 T x lo hi =>
    have := hl x (by simp [Op.operands])
    simp only [opOk, opVal] at ho ⊢
    generalize ev ge st.tm x = v at *
    cases v <;> first
      | exact ⟨ho, rfl⟩
      | (have hb := of_decide_eq_true this
         simp only [sliceGood, sliceVal, get_ext hb] at ho ⊢
         first | exact ⟨ho, rfl⟩ | exact ⟨ho, trivial⟩)
  all_goals first
    | exact ⟨ho, rfl⟩
    | cases hs
theorem Core.ext {op : Op} {v : V} (e : List B) (hl : ∀ x ∈ op.operands, (ev ge st.tm x).lt st.h.length = true) (hc : Core P ge st op v) : Core P ge ⟨st.n, st.tm, st.h ++ e⟩ op v := by
  rcases hc with ⟨h1, h2, h3⟩ | h
  · obtain ⟨h4, h5⟩ := op_ext h1 e hl h2
    exact .inl ⟨h1, h4, h3.trans h5.symm⟩
  · rcases h with h | h | ⟨x, xs, ts, f, args', rfl, h1, h2, h3, h4⟩
    · exact .inr (.inl h)
    · exact .inr (.inr (.inl h))
    · refine .inr (.inr (.inr ⟨x, xs, ts, f, args', rfl, h1, h2, ?_, h4⟩))
      rw [← h3]
      refine List.map_congr_left fun y hy => seen_ext e ?_
      obtain ⟨z, hz, rfl⟩ := List.mem_map.1 hy
      exact hl z (by simp [Op.operands, Call.operands]; right; simpa using hz)
theorem PStep.ext {o : Oper} {v : V} (hc : PStep P ge ops st o v) (e : List B) (hl : ∀ x ∈ o.op.operands, (ev ge st.tm x).lt st.h.length = true) : PStep P ge ops ⟨st.n, st.tm, st.h ++ e⟩ o v := by
  unfold PStep at hc ⊢
  split at hc
  · exact hc.ext e hl
  · obtain ⟨dj, h1, h2, h3, h4, h5⟩ := hc
    exact ⟨dj, h1, h2, h3, fun h => (h4 h).ext e hl, h5⟩
/-- A run in order; the operation j0 makes a variable. -/
def RunA (P : Program) (ge : GEnv) (ops : Array Oper) (j0 : Nat) (zs : List V) : Nat → St → List Oper → List V → Prop
  | _, _, [], [] => True
  | i, st, o :: r, v :: vs => dstOk st.n o.dst = true ∧
      (if i = j0 then (∃ e, o.op = .alloc e ∧ o.guard = none ∧ zeroOf P e = some zs ∧ v = .ptr st.h.length 0) else PStep P ge ops st o v ∧ ∀ x ∈ o.op.operands, (ev ge st.tm x).lt st.h.length = true) ∧
      RunA P ge ops j0 zs (i + 1) { st with tm := putD o.dst v st.tm } r vs
  | _, _, _, _ => False
theorem RunA.len {j0 : Nat} {zs : List V} : ∀ {l : List Oper} {vs : List V} {st : St} {s : Nat}, RunA P ge ops j0 zs s st l vs → vs.length = l.length
  | [], [], _, _, _ => rfl
  | [], _ :: _, _, _, h => h.elim
  | _ :: _, [], _, _, h => h.elim
  | o :: r, v :: vs, st, s, h => by simp [RunA.len h.2.2]
theorem RunA.at {j0 : Nat} {zs : List V} : ∀ {l : List Oper} {vs : List V} {st : St} {s i : Nat} {o : Oper}, RunA P ge ops j0 zs s st l vs → l[i]? = some o →
    (if s + i = j0 then (∃ e, o.op = .alloc e ∧ o.guard = none ∧ zeroOf P e = some zs ∧ vs.getD i .junk = .ptr (fin st (l.take i) (vs.take i)).h.length 0)
      else PStep P ge ops (fin st (l.take i) (vs.take i)) o (vs.getD i .junk) ∧ ∀ x ∈ o.op.operands, (ev ge (fin st (l.take i) (vs.take i)).tm x).lt (fin st (l.take i) (vs.take i)).h.length = true) ∧ dstOk st.n o.dst = true
  | [], _, _, _, _, _, _, h => by simp at h
  | _ :: _, [], _, _, _, _, h, _ => h.elim
  | o :: r, v :: vs, st, s, 0, o', h, ho => by
    simp at ho; subst ho
    simp only [List.take_zero, fin, Nat.add_zero]
    exact ⟨by simpa using h.2.1, h.1⟩
  | o :: r, v :: vs, st, s, i + 1, o', h, ho => by
    obtain ⟨h1, h2⟩ := RunA.at (i := i) h.2.2 (by simpa using ho)
    simp only [List.take_succ_cons, fin]
    rw [show s + (i + 1) = s + 1 + i by omega]
    exact ⟨by simpa using h1, h2⟩
structure DInvA (ops : Array Oper) (k : Nat) (st0 : St) (vs : List V) (listed : Array Bool) (S : St) : Prop where
  n : S.n = st0.n
  one : ∀ (i : Nat) (o : Oper) (t : Nat), i < k → ops[i]? = some o → o.dst = some t → listed.getD i false = true → lk S.tm t = vs.getD i .junk
  old : ∀ (t : Nat), (∀ (i : Nat) (o : Oper), i < k → ops[i]? = some o → listed.getD i false = true → o.dst ≠ some t) → lk S.tm t = lk st0.tm t
  closed : ∀ (j : Nat) (o : Oper), ops[j]? = some o → listed.getD j false = true → ∀ e ∈ o.after, Region.binds .any e = true → listed.getD e.on false = true
  size : listed.size = ops.size
/-- What is looked at is the same as in order. -/
theorem DInvA.look {k : Nat} {st0 S : St} {vs : List V} {listed : Array Bool} (hd : DrawOk ops k) (hlen : vs.length = (ops.toList.take k).length) (hI : DInvA ops k st0 vs listed S)
    {i : Nat} {o : Oper} (hi : i < k) (ho : ops[i]? = some o) (hready : i ∈ Region.ready .any ops listed) :
    ∀ t ∈ o.looksAt ops, lk S.tm t = lk (fin st0 ((ops.toList.take k).take i) (vs.take i)).tm t := by
  intro t ht
  obtain ⟨hni, o', ho', haft⟩ := mem_ready.1 hready
  rw [ho] at ho'; cases ho'
  have hlt := (Array.getElem?_eq_some_iff.1 ho).1
  rw [getD_tf hI.size hlt] at hni
  have hap := apart_take hd
  by_cases hw : ∃ j oj, j < i ∧ ops[j]? = some oj ∧ oj.dst = some t
  · obtain ⟨j, oj, hji, hoj, hdst⟩ := hw
    have hb := (hd.apart j i oj o t (by omega) hi (by omega) hoj ho hdst).2 ht
    have hl : listed.getD j false = true := by
      rcases hb with hb | hb
      · obtain ⟨e, he, hbi, rfl⟩ := beforeB_spec hb
        exact haft e he hbi
      · obtain ⟨e, he, hbi, rfl⟩ := beforeB_spec hb
        have := hd.down j oj hoj e he hbi
        omega
    rw [hI.one j oj t (by omega) hoj hdst hl]
    have h1 : ((ops.toList.take k).take i)[j]? = some oj := by rw [List.getElem?_take_of_lt hji]; exact take_get (by omega) hoj
    rw [fin_new _ _ _ j oj t (by simp [hlen]) (apart_mono hap i) h1 hdst]
    simp [List.getD, List.getElem?_take_of_lt hji]
  · have h1 : lk (fin st0 ((ops.toList.take k).take i) (vs.take i)).tm t = lk st0.tm t := by
      refine fin_old _ _ _ t fun x hx hdx => ?_
      obtain ⟨j, hj⟩ := List.getElem?_of_mem hx
      rw [List.getElem?_take] at hj
      split at hj
      · rename_i hji
        exact hw ⟨j, x, hji, (get_take hj).2, hdx⟩
      · cases hj
    rw [h1]
    refine hI.old t fun j oj hjk hoj hlj hdst => ?_
    rcases Nat.lt_trichotomy j i with h2 | h2 | h2
    · exact hw ⟨j, oj, h2, hoj, hdst⟩
    · subst h2; rw [hni] at hlj; cases hlj
    · rcases (hd.apart j i oj o t hjk hi (by omega) hoj ho hdst).2 ht with hb | hb
      · obtain ⟨e, he, hbi, rfl⟩ := beforeB_spec hb
        have := hd.down i o ho e he hbi
        omega
      · obtain ⟨e, he, hbi, rfl⟩ := beforeB_spec hb
        rw [hI.closed j oj hoj hlj e he hbi] at hni; cases hni
theorem DInvA.fin {k : Nat} {st0 S : St} {vs : List V} {listed : Array Bool} (hd : DrawOk ops k) (hlen : vs.length = (ops.toList.take k).length) (hI : DInvA ops k st0 vs listed S)
    (hall : ∀ i, i < k → i < ops.size → listed.getD i false = true) : ∀ t, lk (fin st0 (ops.toList.take k) vs).tm t = lk S.tm t := by
  intro t
  by_cases hw : ∃ i o, i < k ∧ ops[i]? = some o ∧ o.dst = some t
  · obtain ⟨i, o, hi, ho, hdst⟩ := hw
    rw [hI.one i o t hi ho hdst (hall i hi (Array.getElem?_eq_some_iff.1 ho).1)]
    exact fin_new _ _ _ i o t hlen (apart_take hd) (take_get hi ho) hdst
  · rw [hI.old t fun i o hi ho _ hdst => hw ⟨i, o, hi, ho, hdst⟩]
    refine fin_old _ _ _ t fun x hx hdx => ?_
    obtain ⟨j, hj⟩ := List.getElem?_of_mem hx
    obtain ⟨h1, h2⟩ := get_take hj
    exact hw ⟨j, x, h1, h2, hdx⟩
theorem wpAny_drawA {k j0 : Nat} {zs : List V} {st0 : St} {vs : List V} {G0 : Gh} {w0 : World} (hd : DrawOk ops k) (hj0 : j0 < k) (hj1 : j0 < ops.size) (hrun : RunA P ge ops j0 zs 0 st0 (ops.toList.take k) vs) (htail : AS P ge ops (ops.toList.drop k) Q ⟨st0.n, (fin st0 (ops.toList.take k) vs).tm, st0.h ++ [.var zs]⟩) :
    ∀ (fuel : Nat) (listed : Array Bool) (S : St) (G : Gh) (a : Act) (w : World), DInvA ops k st0 vs listed S → S.h = st0.h ++ (if listed.getD j0 false = true then [.var zs] else []) → unl ops listed ≤ fuel → (∀ j, k ≤ j → j < ops.size → listed.getD j false = false) →
      Rep P ge G S a w → Ext G0 st0.h w0 G S.h w → wpAny P .any ops (CPost P ge Q G0 st0.h w0) fuel listed a w := by
  intro fuel
  induction fuel with
  | zero =>
    intro listed S G a w hI hSh hf hk hr hx
    have hall : ∀ i, i < ops.size → listed.getD i false = true := fun i hi => by
      have : ((List.range ops.size).filter fun j => !listed.getD j true) = [] := List.eq_nil_of_length_eq_zero (Nat.le_zero.1 hf)
      have := List.filter_eq_nil_iff.1 this i (List.mem_range.2 hi)
      rw [← getD_tf hI.size hi]; simpa using this
    have hs := hI.fin hd hrun.len fun i _ hi => hall i hi
    have hSh' : S.h = st0.h ++ [.var zs] := by rw [hSh, if_pos (hall j0 hj1)]
    have h1 := htail G a w (hr.same (by simp only; rw [hI.n]) (by simp only; rw [hSh']) hs)
    simp only at h1
    rw [← hSh'] at h1
    have hks : ops.size ≤ k := by
      rcases Nat.lt_or_ge k ops.size with h2 | h2
      · have := hk k (Nat.le_refl _) h2; rw [hall k h2] at this; cases this
      · exact h2
    refine wpAny_tail hd 0 listed k a w (Nat.le_refl _) hI.size hf (fun i hi => ⟨fun _ => by omega, fun _ => hall i hi⟩) ?_
    exact wpList_mono' (fun _ _ _ hp => hp.mono hx fun _ _ h => h) h1
  | succ fuel ih =>
    intro listed S G a w hI hSh hf hk hr hx
    by_cases hall : ∀ i, i < k → i < ops.size → listed.getD i false = true
    · have hs := hI.fin hd hrun.len hall
      have hSh' : S.h = st0.h ++ [.var zs] := by rw [hSh, if_pos (hall j0 hj0 hj1)]
      have h1 := htail G a w (hr.same (by simp only; rw [hI.n]) (by simp only; rw [hSh']) hs)
      simp only at h1
      rw [← hSh'] at h1
      refine wpAny_tail hd (fuel + 1) listed k a w (Nat.le_refl _) hI.size hf (fun i hi => ⟨fun h => ?_, fun h => hall i h hi⟩) (wpList_mono' (fun _ _ _ hp => hp.mono hx fun _ _ h => h) h1)
      rcases Nat.lt_or_ge i k with h2 | h2
      · exact h2
      · rw [hk i h2 hi] at h; cases h
    · have hlow : ∀ i, i ∈ Region.ready .any ops listed → i < k := fun i hi => by
        rcases Nat.lt_or_ge i k with h2 | h2
        · exact h2
        · exfalso
          refine hall fun j hj hjs => ?_
          obtain ⟨h1, o, h3, h4⟩ := mem_ready.1 hi
          exact tail_listed (L := fun x => listed.getD x false = true) hI.closed h4 (hd.tail i o h3 h2) j (by omega)
      refine ⟨fun hrdy => ?_, fun i hi => ?_⟩
      · exfalso
        -- the first one that is not listed is ready
        have key : ∀ (m : Nat) (i : Nat), i < m → i < ops.size → listed.getD i false = true := by
          intro m
          induction m with
          | zero => intro i hi; omega
          | succ m ihm =>
            intro i hi hs
            rcases Nat.lt_or_ge i m with h1 | h1
            · exact ihm i h1 hs
            · have him : i = m := by omega
              subst him
              cases hh : listed.getD i false
              · have : i ∈ Region.ready .any ops listed := by
                  refine mem_ready.2 ⟨by rw [getD_tf hI.size hs]; exact hh, ops[i], by simp [hs], fun e he hb => ?_⟩
                  have := hd.down i ops[i] (by simp [hs]) e he hb
                  exact ihm e.on this (by omega)
                rw [hrdy] at this; cases this
              · rfl
        exact hall fun i hi hs => key (i + 1) i (by omega) hs
      · have hik := hlow i hi
        obtain ⟨hni, o, ho, haft⟩ := mem_ready.1 hi
        have hlt := (Array.getElem?_eq_some_iff.1 ho).1
        obtain ⟨hps, hdst⟩ := hrun.at (take_get hik ho)
        rw [Nat.zero_add] at hps
        have hdst' : dstOk S.n o.dst = true := by rw [hI.n]; exact hdst
        obtain ⟨S', has, hS'n, hS'tm, hS'h⟩ : ∃ S' : St, AS P ge ops [o] (fun e s => e = .normal ∧ s = S') S ∧ S'.n = S.n ∧ S'.tm = putD o.dst (vs.getD i .junk) S.tm ∧
            S'.h = st0.h ++ (if (listed.setIfInBounds i true).getD j0 false = true then [.var zs] else []) := by
          by_cases hij : i = j0
          · rw [if_pos hij] at hps
            obtain ⟨e, he, hg, hz, hv⟩ := hps
            have hlf : listed.getD j0 false = false := by rw [← hij, ← getD_tf hI.size hlt]; exact hni
            have hSh0 : S.h = st0.h := by rw [hSh, if_neg (by rw [hlf]; simp), List.append_nil]
            obtain ⟨d, op, t, p, af, g⟩ := o
            simp only at he hg hdst'
            subst he; subst hg
            have hl0 : (fin st0 ((ops.toList.take k).take i) (vs.take i)).h.length = S.h.length := by rw [(fin_n _ _ _).2, hSh0]
            rw [hl0] at hv
            refine ⟨⟨S.n, putD d (vs.getD i .junk) S.tm, S.h ++ [.var zs]⟩, ?_, rfl, rfl, ?_⟩
            · rw [hv]; exact AS_op rfl hdst' (S_alloc hz) (AS_nil ⟨rfl, rfl⟩)
            · show S.h ++ [B.var zs] = _
              rw [hSh0, ← hij, if_pos (by simp [Array.getD, hI.size, hlt])]
          · rw [if_neg hij] at hps
            have hps1 := hps.1.ext (if listed.getD j0 false = true then [.var zs] else []) hps.2
            have hps' : PStep P ge ops S o (vs.getD i .junk) := by
              refine PStep.congr (hc := hps1) ?_ ?_ ?_
              · show S.n = (fin st0 _ _).n
                rw [(fin_n _ _ _).1, hI.n]
              · show S.h = (fin st0 _ _).h ++ _
                rw [(fin_n _ _ _).2, hSh]
              · exact fun t ht => hI.look hd hrun.len hik ho hi t ht
            refine ⟨{ S with tm := putD o.dst (vs.getD i .junk) S.tm }, hps'.sound hdst' (AS_nil ⟨rfl, rfl⟩), rfl, rfl, ?_⟩
            rw [getD_set_ne _ hij]; exact hSh
        refine wpOp_of_AS ho has hr fun G' a' w' hr' hx' => ?_
        refine ih _ S' G' a' w' ⟨hS'n.trans hI.n, ?_, ?_, ?_, by simp [hI.size]⟩ hS'h (by have := unl_set hlt hI.size hni; omega) ?_ hr' (hx.trans hx')
        · intro x ox t hxk hox hdx hlx
          rw [hS'tm]
          rw [lk_putD]
          by_cases hxi : i = x
          · subst hxi; rw [ho] at hox; cases hox; rw [if_pos hdx]
          · rw [getD_set_ne _ hxi] at hlx
            rw [if_neg (fun hod => (hd.apart i x o ox t hik hxk hxi ho hox hod).1 hdx)]
            exact hI.one x ox t hxk hox hdx hlx
        · intro t ht
          rw [hS'tm]
          rw [lk_putD, if_neg (ht i o hik ho (by simp [Array.getD, hI.size, hlt]))]
          refine hI.old t fun x ox hxk hox hlx => ht x ox hxk hox (getD_set_true hlx)
        · intro x ox hox hlx e he hb
          by_cases hxi : i = x
          · subst hxi; rw [ho] at hox; cases hox
            exact getD_set_true (haft e he hb)
          · rw [getD_set_ne _ hxi] at hlx
            exact getD_set_true (hI.closed x ox hox hlx e he hb)
        · intro j hj hjs
          rw [getD_set_ne _ (by omega)]
          exact hk j hj hjs
theorem AW_region_drawA {id k j0 : Nat} {zs : List V} {vs : List V} (hm : P.follows .mixedOrders = true) (hd : drawOk ops k = true) (hj0 : j0 < k) (hj1 : j0 < ops.size) (hrun : RunA P ge ops j0 zs 0 st (ops.toList.take k) vs)
    (htail : AS P ge ops (ops.toList.drop k) Q ⟨st.n, (fin st (ops.toList.take k) vs).tm, st.h ++ [.var zs]⟩) : AW P ge (.region id ops true) Q st := by
  intro G a w hr
  refine wp_region_any hm ?_
  obtain ⟨G', hr', hx⟩ := hr.drawn (w.drawn + 1)
  have hrep : ∀ i, (Array.replicate ops.size false).getD i false = false := fun i => by
    simp only [Array.getD_eq_getD_getElem?, Array.getElem?_replicate]; split <;> rfl
  refine wpAny_drawA (drawOk_spec hd) hj0 hj1 hrun htail _ _ st G' a _ ⟨rfl, ?_, fun _ _ => rfl, ?_, by simp⟩ (by rw [hrep]; simp) ?_ (fun j _ _ => hrep j) hr' hx
  · intro i o t _ _ _ h; rw [hrep] at h; cases h
  · intro j o _ h; rw [hrep] at h; cases h
  · unfold unl; exact Nat.le_trans (List.length_filter_le _ _) (by simp)
/-- The walk of such a region: operations ahead of the chain, then the chain. -/
def APA (P : Program) (ge : GEnv) (ops : Array Oper) (K : List (Nat × V) → Prop) (j0 : Nat) (zs : List V) : Nat → List Oper → St → Prop
  | _, [], st => K st.tm
  | i, o :: r, st =>
    if i = j0 then (∃ e, o.op = .alloc e ∧ o.guard = none ∧ zeroOf P e = some zs) ∧ dstOk st.n o.dst = true ∧ APA P ge ops K j0 zs (i + 1) r { st with tm := putD o.dst (.ptr st.h.length 0) st.tm }
    else ∃ v, dstOk st.n o.dst = true ∧ PStep P ge ops st o v ∧ (∀ x ∈ o.op.operands, (ev ge st.tm x).lt st.h.length = true) ∧ APA P ge ops K j0 zs (i + 1) r { st with tm := putD o.dst v st.tm }
theorem APA.run {K : List (Nat × V) → Prop} {j0 : Nat} {zs : List V} : ∀ {l : List Oper} {i : Nat} {st : St}, APA P ge ops K j0 zs i l st → ∃ vs, RunA P ge ops j0 zs i st l vs ∧ K (fin st l vs).tm
  | [], _, _, h => ⟨[], trivial, h⟩
  | o :: r, i, st, h => by
    unfold APA at h
    split at h
    · rename_i hi
      obtain ⟨⟨e, h1, h2, h3⟩, h4, h5⟩ := h
      obtain ⟨vs, h6, h7⟩ := APA.run h5
      exact ⟨.ptr st.h.length 0 :: vs, ⟨h4, by rw [if_pos hi]; exact ⟨e, h1, h2, h3, rfl⟩, h6⟩, h7⟩
    · rename_i hi
      obtain ⟨v, h4, h1, h2, h5⟩ := h
      obtain ⟨vs, h6, h7⟩ := APA.run h5
      exact ⟨v :: vs, ⟨h4, by rw [if_neg hi]; exact ⟨h1, h2⟩, h6⟩, h7⟩
theorem AW_region_APA (k j0 : Nat) (zs : List V) {id : Nat} (hm : P.follows .mixedOrders = true) (hd : drawOk ops k = true) (hj : j0 < k ∧ j0 < ops.size)
    (h : APA P ge ops (fun tm => AO P ge ops Q (ops.toList.drop k) ⟨st.n, tm, st.h ++ [.var zs]⟩) j0 zs 0 (ops.toList.take k) st) : AW P ge (.region id ops true) Q st := by
  obtain ⟨vs, h1, h2⟩ := h.run
  exact AW_region_drawA hm hd hj.1 hj.2 h1 (AS_of_AO h2)
theorem APA_nil {K : List (Nat × V) → Prop} {j0 i : Nat} {zs : List V} (h : K st.tm) : APA P ge ops K j0 zs i [] st := by unfold APA; exact h
theorem APA_still {K : List (Nat × V) → Prop} {j0 i : Nat} {zs : List V} {d : Option Tmp} {op : Op} {t : TypeId} {p : String} {af : Array Edge} {r : List Oper} (hi : ¬ i = j0) (hs : stillOp op = true) (hd : dstOk st.n d = true) (ho : opOk P ge st op)
    (hl : V.lts st.h.length (evs ge st.tm op.operands.toList) = true) (h : APA P ge ops K j0 zs (i + 1) r { st with tm := putD d (opVal P ge st op).1 st.tm }) : APA P ge ops K j0 zs i (⟨d, op, t, p, af, none⟩ :: r) st := by
  unfold APA
  rw [if_neg hi]
  refine ⟨_, hd, .inl ⟨hs, ho, rfl⟩, fun x hx => ?_, h⟩
  rw [evs_eq] at hl
  obtain ⟨j, hj⟩ := List.getElem?_of_mem (Array.mem_toList_iff.2 hx)
  exact V.lts_get hl j _ (by rw [List.getElem?_map, hj]; rfl)
theorem APA_call {K : List (Nat × V) → Prop} {j0 i : Nat} {zs : List V} {d : Option Tmp} {x : Operand} {xs : Array Operand} {ts : Array TypeId} {t : TypeId} {p : String} {af : Array Edge} {r : List Oper} {f : Nat} {A C args : List V} {v : V}
    (hi : ¬ i = j0) (hx : ev ge st.tm x = .fn (.func f) A C) (ha : A ++ evs ge st.tm xs.toList ++ C = args) (hc : PCall P ge f args v) (hf : V.isFs args = true) (hp : v.plain = true) (hd : dstOk st.n d = true)
    (hl : V.lts st.h.length (evs ge st.tm (Op.call { callee := .value x, args := xs, argTypes := ts }).operands.toList) = true) (h : APA P ge ops K j0 zs (i + 1) r { st with tm := putD d v st.tm }) :
    APA P ge ops K j0 zs i (⟨d, .call { callee := .value x, args := xs, argTypes := ts }, t, p, af, none⟩ :: r) st := by
  subst ha
  rw [evs_eq] at hc hf
  unfold APA
  rw [if_neg hi]
  refine ⟨v, hd, .inr (.inl ⟨x, xs, ts, f, A, C, rfl, hx, hc, hf, hp⟩), fun y hy => ?_, h⟩
  rw [evs_eq] at hl
  obtain ⟨j, hj⟩ := List.getElem?_of_mem (Array.mem_toList_iff.2 hy)
  exact V.lts_get hl j _ (by rw [List.getElem?_map, hj]; rfl)
theorem APA_alloc {K : List (Nat × V) → Prop} {j0 : Nat} {zs : List V} {d : Option Tmp} {e : TypeId} {t : TypeId} {p : String} {af : Array Edge} {r : List Oper} (hz : zeroOf P e = some zs) (hd : dstOk st.n d = true)
    (h : APA P ge ops K j0 zs (j0 + 1) r { st with tm := putD d (.ptr st.h.length 0) st.tm }) : APA P ge ops K j0 zs j0 (⟨d, .alloc e, t, p, af, none⟩ :: r) st := by
  unfold APA
  rw [if_pos rfl]
  exact ⟨⟨e, rfl, rfl, hz⟩, hd, h⟩
/-- A result that lies in a variable. -/
theorem retqc {t : Nat} {T : TypeId} {cs : List V} {off : Nat} {r : V} (hp : place st.h (lk st.tm t) = some (cs, off)) (ho : loadOk P T cs off) (hc : Conv st.h (loadV P T cs off) r) : RetQ P #[.cell t T] r .ret st :=
  ⟨.inr rfl, _, ⟨cs, off, hp, ho, rfl⟩, hc⟩
theorem retq2ct {t u : Nat} {T : TypeId} {cs : List V} {off : Nat} {r : V} (hp : place st.h (lk st.tm t) = some (cs, off)) (ho : loadOk P T cs off) (hc : Conv st.h (.tup [loadV P T cs off, lk st.tm u]) r) : RetQ P #[.cell t T, .tmp u] r .ret st :=
  ⟨.inr rfl, _, ⟨[loadV P T cs off, lk st.tm u], rfl, ⟨cs, off, hp, ho, rfl⟩, rfl, trivial⟩, hc⟩
end
end Go.AM
end
section
set_option linter.unusedSimpArgs false
set_option linter.unusedVariables false
namespace Go.Proofs.YtgmlimipejcpgaaGreatDoor
open Go Go.AM Fx
def diagG (g : GuardD) : Bool := decide (g.other ≠ 0)
def greatG (g : GuardD) : Bool := decide (g.n < 0 ∨ 1048576 < g.n)
def greatS (s : SetD) : Bool := decide (s.clock ≠ 0 ∧ (s.n < 0 ∨ 1048576 < s.n))
def cmpG (g : GuardD) : Bool := decide (g.cmp < 1 ∨ 5 < g.cmp)
def isClk (n : NetD) (c : Int) : Bool := decide (1 ≤ c ∧ c ≤ n.clocks.length)
def clkG (n : NetD) (g : GuardD) : Bool := !isClk n g.clock || (decide (g.other ≠ 0) && !isClk n g.other)
def varV (v : VarD) : Bool := decide (v.init < v.lo ∨ v.hi < v.init ∨ v.lo < -1048576 ∨ 1048576 < v.hi)
theorem c_isClock (n : NetD) (c : Int) : PC 193 [.agg n.cells, .int .i64 c] (.bool (isClk n c)) := by
  refine pB Tryz.func193 rfl (by decide) Tryz.ntmps193 (by simp) Tryz.results193 ?_
  repeat' (first
 |refine aK fun K hK=>?_|refine Step.by1 ?_|refine sE (by decide) ?_|refine cz rfl ?_|refine Fork.by2 (fun h=>?_) fun h=>?_
 |(refine aR ?_;simp [vl, NetD.cells])
 |(refine Split.by2 (fun h=>?_) (fun h=>?_)<;>(simp [h, vl, NetD.cells]))
 |(apply hK;clear hK K)|refine AWh ‹_› ?_)
  all_goals first
    | exact r1q (cE (by simp [isClk, *]) rfl)
def diagE (l : List GuardD) : Int := if l.any (diagG) then 120 else 0
theorem c_diagE (l : List GuardD) (hl : l.length ≤ 1099511627776) : PC 61 [vl GuardD.cells l] (.int .i64 (diagE l)) := by
  refine pB Tryz.func61 rfl (by decide) Tryz.ntmps61 (by simp) Tryz.results61 ?_
  repeat' (first
 |refine aK fun K hK=>?_|refine Step.by1 ?_|refine sE (by decide) ?_|refine cz rfl ?_|refine Fork.by2 (fun h=>?_) fun h=>?_
 |(refine aR ?_;simp [vl])
 |(refine Split.by2 (fun h=>?_) (fun h=>?_)<;>(simp [h, vl]))
 |(apply hK;clear hK K)|refine AWh ‹_› ?_)
  refine aS1 (l) 7 [5, 6] (diagE) rfl (by apply Weak.mk' <;> simp [vl]) ?_ ?_
  · intro i x _ hlt hx hF
    repeat' (first
 |refine aK fun K hK=>?_|refine Step.by1 ?_|refine sE (by decide) ?_|refine cz rfl ?_|refine Fork.by2 (fun h=>?_) fun h=>?_
 |(refine aR ?_;simp [vl, GuardD.cells, hlt, hx, wI];try (simp (disch:=omega) only [wI];try simp [vl, GuardD.cells, hlt, hx, wI]))
 |(refine Split.by2 (fun h=>?_) (fun h=>?_)<;>(simp [h, vl, GuardD.cells, hlt, hx, wI];try (simp (disch:=omega) only [wI];try simp [vl, GuardD.cells, hlt, hx, wI])))
 |(apply hK;clear hK K)|refine AWh ‹_› ?_)
    all_goals first
      | exact r1q (cE (by rw [← hF]; simp [diagE, diagG, *]) rfl)
      | (refine ⟨by rw [← hF]; simp [diagE, diagG, *], ?_⟩; apply Weak.mk' <;> simp [vl])
  · intro hF
    repeat' (first
 |refine aK fun K hK=>?_|refine Step.by1 ?_|refine sE (by decide) ?_|refine cz rfl ?_|refine Fork.by2 (fun h=>?_) fun h=>?_
 |(refine aR ?_;simp [vl])
 |(refine Split.by2 (fun h=>?_) (fun h=>?_)<;>(simp [h, vl]))
 |(apply hK;clear hK K)|refine AWh ‹_› ?_)
    exact r1q (cE (by rw [← hF]; simp [diagE]) rfl)
def greatE (l : List GuardD) : Int := if l.any (greatG) then 13 else 0
theorem c_greatE (l : List GuardD) (hl : l.length ≤ 1099511627776) : PC 64 [vl GuardD.cells l] (.int .i64 (greatE l)) := by
  refine pB Tryz.func64 rfl (by decide) Tryz.ntmps64 (by simp) Tryz.results64 ?_
  repeat' (first
 |refine aK fun K hK=>?_|refine Step.by1 ?_|refine sE (by decide) ?_|refine cz rfl ?_|refine Fork.by2 (fun h=>?_) fun h=>?_
 |(refine aR ?_;simp [vl])
 |(refine Split.by2 (fun h=>?_) (fun h=>?_)<;>(simp [h, vl]))
 |(apply hK;clear hK K)|refine AWh ‹_› ?_)
  refine aS1 (l) 7 [5, 6] (greatE) rfl (by apply Weak.mk' <;> simp [vl]) ?_ ?_
  · intro i x _ hlt hx hF
    repeat' (first
 |refine aK fun K hK=>?_|refine Step.by1 ?_|refine sE (by decide) ?_|refine cz rfl ?_|refine Fork.by2 (fun h=>?_) fun h=>?_
 |(refine aR ?_;simp [vl, GuardD.cells, hlt, hx, wI];try (simp (disch:=omega) only [wI];try simp [vl, GuardD.cells, hlt, hx, wI]))
 |(refine Split.by2 (fun h=>?_) (fun h=>?_)<;>(simp [h, vl, GuardD.cells, hlt, hx, wI];try (simp (disch:=omega) only [wI];try simp [vl, GuardD.cells, hlt, hx, wI])))
 |(apply hK;clear hK K)|refine AWh ‹_› ?_)
    all_goals first
      | exact r1q (cE (by rw [← hF]; simp [greatE, greatG, *]) rfl)
      | (refine ⟨by rw [← hF]; simp [greatE, greatG, *], ?_⟩; apply Weak.mk' <;> simp [vl])
  · intro hF
    repeat' (first
 |refine aK fun K hK=>?_|refine Step.by1 ?_|refine sE (by decide) ?_|refine cz rfl ?_|refine Fork.by2 (fun h=>?_) fun h=>?_
 |(refine aR ?_;simp [vl])
 |(refine Split.by2 (fun h=>?_) (fun h=>?_)<;>(simp [h, vl]))
 |(apply hK;clear hK K)|refine AWh ‹_› ?_)
    exact r1q (cE (by rw [← hF]; simp [greatE]) rfl)
def greatSE (l : List SetD) : Int := if l.any (greatS) then 13 else 0
theorem c_greatSE (l : List SetD) (hl : l.length ≤ 1099511627776) : PC 66 [vl SetD.cells l] (.int .i64 (greatSE l)) := by
  refine pB Tryz.func66 rfl (by decide) Tryz.ntmps66 (by simp) Tryz.results66 ?_
  repeat' (first
 |refine aK fun K hK=>?_|refine Step.by1 ?_|refine sE (by decide) ?_|refine cz rfl ?_|refine Fork.by2 (fun h=>?_) fun h=>?_
 |(refine aR ?_;simp [vl])
 |(refine Split.by2 (fun h=>?_) (fun h=>?_)<;>(simp [h, vl]))
 |(apply hK;clear hK K)|refine AWh ‹_› ?_)
  refine aS1 (l) 7 [5, 6] (greatSE) rfl (by apply Weak.mk' <;> simp [vl]) ?_ ?_
  · intro i x _ hlt hx hF
    repeat' (first
 |refine aK fun K hK=>?_|refine Step.by1 ?_|refine sE (by decide) ?_|refine cz rfl ?_|refine Fork.by2 (fun h=>?_) fun h=>?_
 |(refine aR ?_;simp [vl, SetD.cells, hlt, hx, wI];try (simp (disch:=omega) only [wI];try simp [vl, SetD.cells, hlt, hx, wI]))
 |(refine Split.by2 (fun h=>?_) (fun h=>?_)<;>(simp [h, vl, SetD.cells, hlt, hx, wI];try (simp (disch:=omega) only [wI];try simp [vl, SetD.cells, hlt, hx, wI])))
 |(apply hK;clear hK K)|refine AWh ‹_› ?_)
    all_goals first
      | exact r1q (cE (by rw [← hF]; simp [greatSE, greatS, *]) rfl)
      | (refine ⟨by rw [← hF]; simp [greatSE, greatS, *], ?_⟩; apply Weak.mk' <;> simp [vl])
  · intro hF
    repeat' (first
 |refine aK fun K hK=>?_|refine Step.by1 ?_|refine sE (by decide) ?_|refine cz rfl ?_|refine Fork.by2 (fun h=>?_) fun h=>?_
 |(refine aR ?_;simp [vl])
 |(refine Split.by2 (fun h=>?_) (fun h=>?_)<;>(simp [h, vl]))
 |(apply hK;clear hK K)|refine AWh ‹_› ?_)
    exact r1q (cE (by rw [← hF]; simp [greatSE]) rfl)
def cmpE (l : List GuardD) : Int := if l.any (cmpG) then 7 else 0
theorem c_cmpE (l : List GuardD) (hl : l.length ≤ 1099511627776) : PC 150 [vl GuardD.cells l] (.int .i64 (cmpE l)) := by
  refine pB Tryz.func150 rfl (by decide) Tryz.ntmps150 (by simp) Tryz.results150 ?_
  repeat' (first
 |refine aK fun K hK=>?_|refine Step.by1 ?_|refine sE (by decide) ?_|refine cz rfl ?_|refine Fork.by2 (fun h=>?_) fun h=>?_
 |(refine aR ?_;simp [vl])
 |(refine Split.by2 (fun h=>?_) (fun h=>?_)<;>(simp [h, vl]))
 |(apply hK;clear hK K)|refine AWh ‹_› ?_)
  refine aS1 (l) 7 [5, 6] (cmpE) rfl (by apply Weak.mk' <;> simp [vl]) ?_ ?_
  · intro i x _ hlt hx hF
    repeat' (first
 |refine aK fun K hK=>?_|refine Step.by1 ?_|refine sE (by decide) ?_|refine cz rfl ?_|refine Fork.by2 (fun h=>?_) fun h=>?_
 |(refine aR ?_;simp [vl, GuardD.cells, hlt, hx, wI];try (simp (disch:=omega) only [wI];try simp [vl, GuardD.cells, hlt, hx, wI]))
 |(refine Split.by2 (fun h=>?_) (fun h=>?_)<;>(simp [h, vl, GuardD.cells, hlt, hx, wI];try (simp (disch:=omega) only [wI];try simp [vl, GuardD.cells, hlt, hx, wI])))
 |(apply hK;clear hK K)|refine AWh ‹_› ?_)
    all_goals first
      | exact r1q (cE (by rw [← hF]; simp [cmpE, cmpG, *]) rfl)
      | (refine ⟨by rw [← hF]; simp [cmpE, cmpG, *], ?_⟩; apply Weak.mk' <;> simp [vl])
  · intro hF
    repeat' (first
 |refine aK fun K hK=>?_|refine Step.by1 ?_|refine sE (by decide) ?_|refine cz rfl ?_|refine Fork.by2 (fun h=>?_) fun h=>?_
 |(refine aR ?_;simp [vl])
 |(refine Split.by2 (fun h=>?_) (fun h=>?_)<;>(simp [h, vl]))
 |(apply hK;clear hK K)|refine AWh ‹_› ?_)
    exact r1q (cE (by rw [← hF]; simp [cmpE]) rfl)
def clkE (n : NetD) (l : List GuardD) : Int := if l.any (clkG n) then 12 else 0
theorem c_clkE (n : NetD) (l : List GuardD) (hl : l.length ≤ 1099511627776) : PC 148 [.agg n.cells, vl GuardD.cells l] (.int .i64 (clkE n l)) := by
  refine pB Tryz.func148 rfl (by decide) Tryz.ntmps148 (by simp) Tryz.results148 ?_
  repeat' (first
 |refine aK fun K hK=>?_|refine Step.by1 ?_|refine sE (by decide) ?_|refine cz rfl ?_|refine Fork.by2 (fun h=>?_) fun h=>?_
 |(refine aR ?_;simp [vl, NetD.cells])
 |(refine Split.by2 (fun h=>?_) (fun h=>?_)<;>(simp [h, vl, NetD.cells]))
 |(apply hK;clear hK K)|refine AWh ‹_› ?_)
  refine aS1 (l) 9 [2, 7, 8] (clkE n) rfl (by apply Weak.mk' <;> simp [vl]) ?_ ?_
  · intro i x _ hlt hx hF
    have hc1 := c_isClock n x.clock
    have hc2 := c_isClock n x.other
    simp only [NetD.cells, vl] at hc1 hc2
    generalize hk1 : isClk n x.clock = k1 at hc1
    generalize hk2 : isClk n x.other = k2 at hc2
    repeat' (first
 |refine aK fun K hK=>?_|refine Step.by1 ?_|refine sE (by decide) ?_|refine cz rfl ?_|refine Fork.by2 (fun h=>?_) fun h=>?_
 |((first|refine aR ?_|refine aC (f:=193) rfl rfl (hc1) rfl rfl rfl ?_|refine aC (f:=193) rfl rfl (hc2) rfl rfl rfl ?_);simp [vl, GuardD.cells, NetD.cells, hlt, hx, wI];try (simp (disch:=omega) only [wI];try simp [vl, GuardD.cells, NetD.cells, hlt, hx, wI]))
 |(refine Split.by2 (fun h=>?_) (fun h=>?_)<;>(simp [h, vl, GuardD.cells, NetD.cells, hlt, hx, wI];try (simp (disch:=omega) only [wI];try simp [vl, GuardD.cells, NetD.cells, hlt, hx, wI])))
 |(apply hK;clear hK K)|refine AWh ‹_› ?_)
    all_goals first
      | exact r1q (cE (by rw [← hF]; simp [clkE, clkG, *]) rfl)
      | (refine ⟨by rw [← hF]; simp [clkE, clkG, *], ?_⟩; apply Weak.mk' <;> simp [vl, NetD.cells])
  · intro hF
    repeat' (first
 |refine aK fun K hK=>?_|refine Step.by1 ?_|refine sE (by decide) ?_|refine cz rfl ?_|refine Fork.by2 (fun h=>?_) fun h=>?_
 |(refine aR ?_;simp [vl, NetD.cells])
 |(refine Split.by2 (fun h=>?_) (fun h=>?_)<;>(simp [h, vl, NetD.cells]))
 |(apply hK;clear hK K)|refine AWh ‹_› ?_)
    exact r1q (cE (by rw [← hF]; simp [clkE]) rfl)
def varE (l : List VarD) : Int := if l.any (varV) then 124 else 0
theorem c_varE (n : NetD) (hl : n.vars.length ≤ 1099511627776) : PC 131 [.agg n.cells] (.int .i64 (varE n.vars)) := by
  refine pB Tryz.func131 rfl (by decide) Tryz.ntmps131 (by simp) Tryz.results131 ?_
  repeat' (first
 |refine aK fun K hK=>?_|refine Step.by1 ?_|refine sE (by decide) ?_|refine cz rfl ?_|refine Fork.by2 (fun h=>?_) fun h=>?_
 |(refine aR ?_;simp [vl, NetD.cells])
 |(refine Split.by2 (fun h=>?_) (fun h=>?_)<;>(simp [h, vl, NetD.cells]))
 |(apply hK;clear hK K)|refine AWh ‹_› ?_)
  refine aS1 (n.vars) 8 [6, 7] (varE) rfl (by apply Weak.mk' <;> simp [vl]) ?_ ?_
  · intro i x _ hlt hx hF
    repeat' (first
 |refine aK fun K hK=>?_|refine Step.by1 ?_|refine sE (by decide) ?_|refine cz rfl ?_|refine Fork.by2 (fun h=>?_) fun h=>?_
 |(refine aR ?_;simp [vl, VarD.cells, NetD.cells, hlt, hx, wI];try (simp (disch:=omega) only [wI];try simp [vl, VarD.cells, NetD.cells, hlt, hx, wI]))
 |(refine Split.by2 (fun h=>?_) (fun h=>?_)<;>(simp [h, vl, VarD.cells, NetD.cells, hlt, hx, wI];try (simp (disch:=omega) only [wI];try simp [vl, VarD.cells, NetD.cells, hlt, hx, wI])))
 |(apply hK;clear hK K)|refine AWh ‹_› ?_)
    all_goals first
      | exact r1q (cE (by rw [← hF]; simp [varE, varV, *]) rfl)
      | (refine ⟨by rw [← hF]; simp [varE, varV, *], ?_⟩; apply Weak.mk' <;> simp [vl, NetD.cells])
  · intro hF
    repeat' (first
 |refine aK fun K hK=>?_|refine Step.by1 ?_|refine sE (by decide) ?_|refine cz rfl ?_|refine Fork.by2 (fun h=>?_) fun h=>?_
 |(refine aR ?_;simp [vl, NetD.cells])
 |(refine Split.by2 (fun h=>?_) (fun h=>?_)<;>(simp [h, vl, NetD.cells]))
 |(apply hK;clear hK K)|refine AWh ‹_› ?_)
    exact r1q (cE (by rw [← hF]; simp [varE]) rfl)
end Go.Proofs.YtgmlimipejcpgaaGreatDoor
end
