/-
  YtgmlimipejcpgaaGreatDoorPart05: steps of the proof of a law of the program: what these texts prove holds under the hypotheses that their theorems name, and no others.
-/
import Derived.Test.YtgmlimipejcpgaaGreatDoorPart04
import Derived.Scope
import Derived.ChangeSlices
import Derived.Below
import Derived.MapKept
import Derived.Test.YtgmlimipejcpgaaGreatDoorRows
section
/-! AM, part N: a region that draws its order, as one that does not. -/
set_option linter.unusedVariables false
set_option linter.unusedSimpArgs false
namespace Go.AM
section
variable {P : Program} {ge : GEnv} {st : St} {Q : Exit → St → Prop} {ops : Array Oper}

theorem Rep.same {G : Gh} {s s' : St} {a : Act} {w : World} (hr : Rep P ge G s a w) (hn : s'.n = s.n) (hh : s'.h = s.h) (ht : ∀ t, lk s'.tm t = lk s.tm t) : Rep P ge G s' a w :=
  ⟨by rw [hh]; exact hr.rh, fun t => by rw [ht]; exact hr.tm t, by rw [hn]; exact hr.n, hr.d⟩

structure DInv (ops : Array Oper) (k : Nat) (st0 : St) (vs : List V) (listed : Array Bool) (S : St) : Prop where
  n : S.n = st0.n
  h : S.h = st0.h
  one : ∀ (i : Nat) (o : Oper) (t : Nat), i < k → ops[i]? = some o → o.dst = some t → listed.getD i false = true → lk S.tm t = vs.getD i .junk
  old : ∀ (t : Nat), (∀ (i : Nat) (o : Oper), i < k → ops[i]? = some o → listed.getD i false = true → o.dst ≠ some t) → lk S.tm t = lk st0.tm t
  closed : ∀ (j : Nat) (o : Oper), ops[j]? = some o → listed.getD j false = true → ∀ e ∈ o.after, Region.binds .any e = true → listed.getD e.on false = true
  size : listed.size = ops.size

theorem take_get {ops : Array Oper} {k i : Nat} {o : Oper} (hi : i < k) (h : ops[i]? = some o) : (ops.toList.take k)[i]? = some o := by
  rw [List.getElem?_take_of_lt hi]; simpa using h
theorem get_take {ops : Array Oper} {k i : Nat} {o : Oper} (h : (ops.toList.take k)[i]? = some o) : i < k ∧ ops[i]? = some o := by
  rw [List.getElem?_take] at h
  split at h
  · rename_i hi; exact ⟨hi, by simpa using h⟩
  · cases h

theorem apart_take {k : Nat} (hd : DrawOk ops k) : Apart (ops.toList.take k) := fun i j o o' t hij h1 h2 hdst => by
  obtain ⟨a1, a2⟩ := get_take h1
  obtain ⟨b1, b2⟩ := get_take h2
  exact (hd.apart i j o o' t a1 b1 (by omega) a2 b2 hdst).1

theorem apart_mono {l : List Oper} (h : Apart l) (m : Nat) : Apart (l.take m) := fun i j o o' t hij h1 h2 => by
  rw [List.getElem?_take] at h1 h2
  split at h1 <;> split at h2 <;> first | exact h i j o o' t hij h1 h2 | (cases h1; done) | (cases h2; done)

/-- What is looked at is the same as in order. -/
theorem DInv.look {k : Nat} {st0 S : St} {vs : List V} {listed : Array Bool} (hd : DrawOk ops k) (hrun : Run P ge ops st0 (ops.toList.take k) vs) (hI : DInv ops k st0 vs listed S)
    {i : Nat} {o : Oper} (hi : i < k) (ho : ops[i]? = some o) (hready : i ∈ Region.ready .any ops listed) :
    ∀ t ∈ o.looksAt ops, lk S.tm t = lk (fin st0 ((ops.toList.take k).take i) (vs.take i)).tm t := by
  intro t ht
  obtain ⟨hni, o', ho', haft⟩ := mem_ready.1 hready
  rw [ho] at ho'; cases ho'
  have hlt := (Array.getElem?_eq_some_iff.1 ho).1
  rw [getD_tf hI.size hlt] at hni
  have hap := apart_take hd
  by_cases hw : ∃ j oj, j < i ∧ ops[j]? = some oj ∧ oj.dst = some t
  · obtain ⟨j, oj, hji, hoj, hdst⟩ := hw
    have hb := (hd.apart j i oj o t (by omega) hi (by omega) hoj ho hdst).2 ht
    have hl : listed.getD j false = true := by
      rcases hb with hb | hb
      · obtain ⟨e, he, hbi, rfl⟩ := beforeB_spec hb
        exact haft e he hbi
      · obtain ⟨e, he, hbi, rfl⟩ := beforeB_spec hb
        have := hd.down j oj hoj e he hbi
        omega
    rw [hI.one j oj t (by omega) hoj hdst hl]
    have h1 : ((ops.toList.take k).take i)[j]? = some oj := by rw [List.getElem?_take_of_lt hji]; exact take_get (by omega) hoj
    rw [fin_new _ _ _ j oj t (by simp [hrun.len]) (apart_mono hap i) h1 hdst]
    simp [List.getD, List.getElem?_take_of_lt hji]
  · have h1 : lk (fin st0 ((ops.toList.take k).take i) (vs.take i)).tm t = lk st0.tm t := by
      refine fin_old _ _ _ t fun x hx hdx => ?_
      obtain ⟨j, hj⟩ := List.getElem?_of_mem hx
      rw [List.getElem?_take] at hj
      split at hj
      · rename_i hji
        exact hw ⟨j, x, hji, (get_take hj).2, hdx⟩
      · cases hj
    rw [h1]
    refine hI.old t fun j oj hjk hoj hlj hdst => ?_
    rcases Nat.lt_trichotomy j i with h2 | h2 | h2
    · exact hw ⟨j, oj, h2, hoj, hdst⟩
    · subst h2; rw [hni] at hlj; cases hlj
    · rcases (hd.apart j i oj o t hjk hi (by omega) hoj ho hdst).2 ht with hb | hb
      · obtain ⟨e, he, hbi, rfl⟩ := beforeB_spec hb
        have := hd.down i o ho e he hbi
        omega
      · obtain ⟨e, he, hbi, rfl⟩ := beforeB_spec hb
        rw [hI.closed j oj hoj hlj e he hbi] at hni; cases hni

theorem DInv.fin {k : Nat} {st0 S : St} {vs : List V} {listed : Array Bool} (hd : DrawOk ops k) (hrun : Run P ge ops st0 (ops.toList.take k) vs) (hI : DInv ops k st0 vs listed S)
    (hall : ∀ i, i < k → i < ops.size → listed.getD i false = true) : ∀ t, lk (fin st0 (ops.toList.take k) vs).tm t = lk S.tm t := by
  intro t
  by_cases hw : ∃ i o, i < k ∧ ops[i]? = some o ∧ o.dst = some t
  · obtain ⟨i, o, hi, ho, hdst⟩ := hw
    rw [hI.one i o t hi ho hdst (hall i hi (Array.getElem?_eq_some_iff.1 ho).1)]
    exact fin_new _ _ _ i o t hrun.len (apart_take hd) (take_get hi ho) hdst
  · rw [hI.old t fun i o hi ho _ hdst => hw ⟨i, o, hi, ho, hdst⟩]
    refine fin_old _ _ _ t fun x hx hdx => ?_
    obtain ⟨j, hj⟩ := List.getElem?_of_mem hx
    obtain ⟨h1, h2⟩ := get_take hj
    exact hw ⟨j, x, h1, h2, hdx⟩

theorem wpOp_of_AS {G : Gh} {S S' : St} {a : Act} {w : World} {o : Oper} {i : Nat} {Qc : Exit → Act → World → Prop} {K : Act → World → Prop} (ho : ops[i]? = some o)
    (h : AS P ge ops [o] (fun e s => e = .normal ∧ s = S') S) (hr : Rep P ge G S a w) (hK : ∀ G' a' w', Rep P ge G' S' a' w' → Ext G S.h w G' S'.h w' → K a' w') : wpOp P ops Qc i K a w := by
  have h1 := h G a w hr
  have hk : ∀ a' w', wpList P ops (CPost P ge (fun e s => e = .normal ∧ s = S') G S.h w) [] a' w' → K a' w' := fun a' w' h => by
    unfold wpList at h
    obtain ⟨G', s, ⟨_, rfl⟩, r, x⟩ := h
    exact hK G' a' w' r x
  have hq : ∀ e a' w', e ≠ .normal → ¬ CPost P ge (fun e s => e = .normal ∧ s = S') G S.h w e a' w' := fun e a' w' hne ⟨_, _, ⟨h, _⟩, _⟩ => hne h
  unfold wpOp
  rw [ho]
  unfold wpList at h1
  simp only
  split
  · rename_i hw
    rw [if_pos hw] at h1
    rcases h1 with h1 | ⟨_, a0, w0, h1⟩
    · refine .inl ?_
      unfold Oper.wp at h1 ⊢
      generalize (execOp a.eval o).run P w = r at *
      cases r with
      | ok n w' =>
        cases n <;> simp only [Oper.upon] at h1 ⊢ <;> first
          | exact hk _ _ h1
          | exact Calls.mono h1 (fun e w'' he => by
              cases e <;> first
                | exact hk _ _ he
                | exact absurd he (hq _ _ _ (by simp))
                | (obtain ⟨_, _, he⟩ := he; exact absurd he (hq _ _ _ (by simp))))
          | exact Rows.mono h1 (fun _ _ he => hk _ _ he)
      | halt x w' => cases x <;> simp only [Oper.upon] at h1 ⊢ <;> exact absurd h1 (hq _ _ _ (by simp))
    · exact absurd h1 (hq _ _ _ (by simp))
  · rename_i hw
    rw [if_neg hw] at h1
    exact hk _ _ h1

theorem wpAny_draw {k : Nat} {st0 : St} {vs : List V} {G0 : Gh} {w0 : World} (hd : DrawOk ops k) (hrun : Run P ge ops st0 (ops.toList.take k) vs) (htail : AS P ge ops (ops.toList.drop k) Q (fin st0 (ops.toList.take k) vs)) :
    ∀ (fuel : Nat) (listed : Array Bool) (S : St) (G : Gh) (a : Act) (w : World), DInv ops k st0 vs listed S → unl ops listed ≤ fuel → (∀ j, k ≤ j → j < ops.size → listed.getD j false = false) →
      Rep P ge G S a w → Ext G0 st0.h w0 G S.h w → wpAny P .any ops (CPost P ge Q G0 st0.h w0) fuel listed a w := by
  intro fuel
  induction fuel with
  | zero =>
    intro listed S G a w hI hf hk hr hx
    have hall : ∀ i, i < ops.size → listed.getD i false = true := fun i hi => by
      have : ((List.range ops.size).filter fun j => !listed.getD j true) = [] := List.eq_nil_of_length_eq_zero (Nat.le_zero.1 hf)
      have := List.filter_eq_nil_iff.1 this i (List.mem_range.2 hi)
      rw [← getD_tf hI.size hi]; simpa using this
    have hs := hI.fin hd hrun fun i _ hi => hall i hi
    have h1 := htail G a w (hr.same (by rw [(fin_n _ _ _).1, hI.n]) (by rw [(fin_n _ _ _).2, hI.h]) hs)
    rw [(fin_n _ _ _).2, ← hI.h] at h1
    have hks : ops.size ≤ k := by
      rcases Nat.lt_or_ge k ops.size with h2 | h2
      · have := hk k (Nat.le_refl _) h2; rw [hall k h2] at this; cases this
      · exact h2
    refine wpAny_tail hd 0 listed k a w (Nat.le_refl _) hI.size hf (fun i hi => ⟨fun _ => by omega, fun _ => hall i hi⟩) ?_
    exact wpList_mono' (fun _ _ _ hp => hp.mono hx fun _ _ h => h) h1
  | succ fuel ih =>
    intro listed S G a w hI hf hk hr hx
    by_cases hall : ∀ i, i < k → i < ops.size → listed.getD i false = true
    · have hs := hI.fin hd hrun hall
      have h1 := htail G a w (hr.same (by rw [(fin_n _ _ _).1, hI.n]) (by rw [(fin_n _ _ _).2, hI.h]) hs)
      rw [(fin_n _ _ _).2, ← hI.h] at h1
      refine wpAny_tail hd (fuel + 1) listed k a w (Nat.le_refl _) hI.size hf (fun i hi => ⟨fun h => ?_, fun h => hall i h hi⟩) (wpList_mono' (fun _ _ _ hp => hp.mono hx fun _ _ h => h) h1)
      rcases Nat.lt_or_ge i k with h2 | h2
      · exact h2
      · rw [hk i h2 hi] at h; cases h
    · have hlow : ∀ i, i ∈ Region.ready .any ops listed → i < k := fun i hi => by
        rcases Nat.lt_or_ge i k with h2 | h2
        · exact h2
        · exfalso
          refine hall fun j hj hjs => ?_
          obtain ⟨h1, o, h3, h4⟩ := mem_ready.1 hi
          exact beforeT_listed (L := fun x => listed.getD x false = true) hI.closed 3 o j h4 (hd.tail i o h3 h2 j (by omega))
      refine ⟨fun hrdy => ?_, fun i hi => ?_⟩
      · exfalso
        -- the first one that is not listed is ready
        have key : ∀ (m : Nat) (i : Nat), i < m → i < ops.size → listed.getD i false = true := by
          intro m
          induction m with
          | zero => intro i hi; omega
          | succ m ihm =>
            intro i hi hs
            rcases Nat.lt_or_ge i m with h1 | h1
            · exact ihm i h1 hs
            · have him : i = m := by omega
              subst him
              cases hh : listed.getD i false
              · have : i ∈ Region.ready .any ops listed := by
                  refine mem_ready.2 ⟨by rw [getD_tf hI.size hs]; exact hh, ops[i], by simp [hs], fun e he hb => ?_⟩
                  have := hd.down i ops[i] (by simp [hs]) e he hb
                  exact ihm e.on this (by omega)
                rw [hrdy] at this; cases this
              · rfl
        exact hall fun i hi hs => key (i + 1) i (by omega) hs
      · have hik := hlow i hi
        obtain ⟨hni, o, ho, haft⟩ := mem_ready.1 hi
        have hlt := (Array.getElem?_eq_some_iff.1 ho).1
        obtain ⟨hps, hdst⟩ := hrun.at (take_get hik ho)
        have hps' : PStep P ge ops S o (vs.getD i .junk) := hps.congr (by rw [(fin_n _ _ _).1, hI.n]) (by rw [(fin_n _ _ _).2, hI.h]) (fun t ht => hI.look hd hrun hik ho hi t ht)
        have hdst' : dstOk S.n o.dst = true := by rw [hI.n]; exact hdst
        have has : AS P ge ops [o] (fun e s => e = .normal ∧ s = { S with tm := putD o.dst (vs.getD i .junk) S.tm }) S := hps'.sound hdst' (AS_nil ⟨rfl, rfl⟩)
        refine wpOp_of_AS ho has hr fun G' a' w' hr' hx' => ?_
        refine ih _ { S with tm := putD o.dst (vs.getD i .junk) S.tm } G' a' w' ⟨hI.n, hI.h, ?_, ?_, ?_, by simp [hI.size]⟩ (by have := unl_set hlt hI.size hni; omega) ?_ hr' (hx.trans hx')
        · intro x ox t hxk hox hdx hlx
          show lk (putD o.dst _ S.tm) t = _
          rw [lk_putD]
          by_cases hxi : i = x
          · subst hxi; rw [ho] at hox; cases hox; rw [if_pos hdx]
          · rw [getD_set_ne _ hxi] at hlx
            rw [if_neg (fun hod => (hd.apart i x o ox t hik hxk hxi ho hox hod).1 hdx)]
            exact hI.one x ox t hxk hox hdx hlx
        · intro t ht
          show lk (putD o.dst _ S.tm) t = _
          rw [lk_putD, if_neg (ht i o hik ho (by simp [Array.getD, hI.size, hlt]))]
          refine hI.old t fun x ox hxk hox hlx => ht x ox hxk hox (getD_set_true hlx)
        · intro x ox hox hlx e he hb
          by_cases hxi : i = x
          · subst hxi; rw [ho] at hox; cases hox
            exact getD_set_true (haft e he hb)
          · rw [getD_set_ne _ hxi] at hlx
            exact getD_set_true (hI.closed x ox hox hlx e he hb)
        · intro j hj hjs
          rw [getD_set_ne _ (by omega)]
          exact hk j hj hjs

theorem Rep.drawn {G : Gh} {a : Act} {w : World} (hr : Rep P ge G st a w) (n : Nat) : ∃ G', Rep P ge G' st a { w with drawn := n } ∧ Ext G st.h w G' st.h { w with drawn := n } := by
  have kept : Kept G w G { w with drawn := n } := ⟨⟨Nat.le_refl _, fun _ _ => rfl, rfl, ⟨rfl, rfl⟩⟩, fun _ _ => rfl, hr.rh.fzlt⟩
  obtain ⟨h1, h2⟩ := kept.rh hr.rh
  exact ⟨_, ⟨h1, fun t => (hr.tm t).mono h2.le, hr.n, hr.d⟩, h2⟩

/-- A region that draws its order: pure operations, k of them, and a chain behind them. -/
theorem AW_region_draw {id k : Nat} {vs : List V} (hm : P.follows .mixedOrders = true) (hd : drawOk ops k = true) (hrun : Run P ge ops st (ops.toList.take k) vs) (htail : AS P ge ops (ops.toList.drop k) Q (fin st (ops.toList.take k) vs)) :
    AW P ge (.region id ops true) Q st := by
  intro G a w hr
  refine wp_region_any hm ?_
  obtain ⟨G', hr', hx⟩ := hr.drawn (w.drawn + 1)
  have hrep : ∀ i, (Array.replicate ops.size false).getD i false = false := fun i => by
    simp only [Array.getD_eq_getD_getElem?, Array.getElem?_replicate]; split <;> rfl
  refine wpAny_draw (drawOk_spec hd) hrun htail _ _ st G' a _ ⟨rfl, rfl, ?_, fun _ _ => rfl, ?_, by simp⟩ ?_ (fun j _ _ => hrep j) hr' hx
  · intro i o t _ _ _ h; rw [hrep] at h; cases h
  · intro j o _ h; rw [hrep] at h; cases h
  · unfold unl; exact Nat.le_trans (List.length_filter_le _ _) (by simp)
end
end Go.AM
end

section
/-! AM, part O: the walk of a region that draws its order. -/
set_option linter.unusedVariables false
set_option linter.unusedSimpArgs false
namespace Go.AM
section
variable {P : Program} {ge : GEnv} {st : St} {Q : Exit → St → Prop} {ops : Array Oper} {K : St → Prop}
variable {d : Option Tmp} {t : TypeId} {p : String} {af : Array Edge}

/-- A walk of pure operations. -/
def AP (P : Program) (ge : GEnv) (ops : Array Oper) (K : St → Prop) : List Oper → St → Prop
  | [], st => K st
  | o :: r, st => ∃ v, dstOk st.n o.dst = true ∧ PStep P ge ops st o v ∧ AP P ge ops K r { st with tm := putD o.dst v st.tm }
theorem AP.run : ∀ {l : List Oper} {st : St}, AP P ge ops K l st → ∃ vs, Run P ge ops st l vs ∧ K (fin st l vs)
  | [], st, h => ⟨[], trivial, h⟩
  | o :: r, st, ⟨v, h1, h2, h3⟩ =>
    let ⟨vs, h4, h5⟩ := h3.run
    ⟨v :: vs, ⟨h1, h2, h4⟩, h5⟩

mutual
def APx (P : Program) (ge : GEnv) (ops : Array Oper) (K : St → Prop) : List Oper → St → Prop
  | [], st => K st
  | o :: rest, st =>
    match o.guard with
    | none =>
      if stillOp o.op = true then
        dstOk st.n o.dst = true ∧ opOk P ge st o.op ∧ APx P ge ops K rest ⟨st.n, putD o.dst (opVal P ge st o.op).1 st.tm, st.h⟩
      else AP P ge ops K (o :: rest) st
    | some (j, want) =>
      match gdst ops j with
      | none => False
      | some dj => dj < st.n ∧ gOk (lk st.tm dj) = true ∧ dstOk st.n o.dst = true ∧ APg P ge ops K (gB (lk st.tm dj) want) o rest st
  termination_by l _ => 2 * l.length
def APg (P : Program) (ge : GEnv) (ops : Array Oper) (K : St → Prop) (b : Bool) (o : Oper) (rest : List Oper) (st : St) : Prop :=
  (b = true → if stillOp o.op = true then opOk P ge st o.op ∧ APx P ge ops K rest ⟨st.n, putD o.dst (opVal P ge st o.op).1 st.tm, st.h⟩
           else AP P ge ops K ({ o with guard := none } :: rest) st) ∧
  (b = false → APx P ge ops K rest ⟨st.n, putD o.dst .void st.tm, st.h⟩)
  termination_by 2 * rest.length + 1
end
@[simp] theorem APx_nil : APx P ge ops K [] st = K st := by rw [APx]
@[simp] theorem APx_plain {rest : List Oper} {op : Op} : APx P ge ops K (⟨d, op, t, p, af, none⟩ :: rest) st =
    if stillOp op = true then dstOk st.n d = true ∧ opOk P ge st op ∧ APx P ge ops K rest ⟨st.n, putD d (opVal P ge st op).1 st.tm, st.h⟩ else AP P ge ops K (⟨d, op, t, p, af, none⟩ :: rest) st := by rw [APx]
@[simp] theorem APx_guard {rest : List Oper} {op : Op} {j : Nat} {want : Bool} : APx P ge ops K (⟨d, op, t, p, af, some (j, want)⟩ :: rest) st =
    match gdst ops j with
    | none => False
    | some dj => dj < st.n ∧ gOk (lk st.tm dj) = true ∧ dstOk st.n d = true ∧ APg P ge ops K (gB (lk st.tm dj) want) ⟨d, op, t, p, af, some (j, want)⟩ rest st := by rw [APx]
@[simp] theorem APg_true {rest : List Oper} {op : Op} {gg : Option (Nat × Bool)} : APg P ge ops K true ⟨d, op, t, p, af, gg⟩ rest st =
    if stillOp op = true then opOk P ge st op ∧ APx P ge ops K rest ⟨st.n, putD d (opVal P ge st op).1 st.tm, st.h⟩ else AP P ge ops K (⟨d, op, t, p, af, none⟩ :: rest) st := by rw [APg]; simp
@[simp] theorem APg_false {rest : List Oper} {op : Op} {gg : Option (Nat × Bool)} : APg P ge ops K false ⟨d, op, t, p, af, gg⟩ rest st = APx P ge ops K rest ⟨st.n, putD d .void st.tm, st.h⟩ := by rw [APg]; simp
theorem APg_split {rest : List Oper} {o : Oper} {b : Bool} (h1 : b = true → APg P ge ops K true o rest st) (h2 : b = false → APg P ge ops K false o rest st) : APg P ge ops K b o rest st := by
  cases b
  · exact h2 rfl
  · exact h1 rfl
theorem APg_split_not {rest : List Oper} {o : Oper} {b : Bool} (h1 : b = false → APg P ge ops K true o rest st) (h2 : b = true → APg P ge ops K false o rest st) : APg P ge ops K (!b) o rest st := by
  cases b
  · exact h1 rfl
  · exact h2 rfl
theorem APg_split_dec {rest : List Oper} {o : Oper} {b : Prop} [Decidable b] (h1 : b → APg P ge ops K true o rest st) (h2 : ¬ b → APg P ge ops K false o rest st) : APg P ge ops K (decide b) o rest st := by
  by_cases h : b
  · rw [decide_eq_true h]; exact h1 h
  · rw [decide_eq_false h]; exact h2 h
theorem APg_split_notdec {rest : List Oper} {o : Oper} {b : Prop} [Decidable b] (h1 : ¬ b → APg P ge ops K true o rest st) (h2 : b → APg P ge ops K false o rest st) : APg P ge ops K (!decide b) o rest st :=
  APg_split_not (fun h => h1 (of_decide_eq_false h)) (fun h => h2 (of_decide_eq_true h))

theorem AP_of_APx : ∀ {l : List Oper} {st : St}, APx P ge ops K l st → AP P ge ops K l st
  | [], st, h => by rw [APx] at h; exact h
  | o :: rest, st, h => by
    rw [APx] at h
    split at h
    · rename_i hg
      split at h
      · rename_i hp
        obtain ⟨h1, h2, h3⟩ := h
        exact ⟨_, h1, by unfold PStep; rw [hg]; exact .inl ⟨hp, h2, rfl⟩, AP_of_APx h3⟩
      · exact h
    · rename_i j want hg
      split at h
      · exact h.elim
      · rename_i dj hdj
        obtain ⟨h1, h2, h3, h4⟩ := h
        rw [APg] at h4
        obtain ⟨h4, h5⟩ := h4
        cases hgb : gB (lk st.tm dj) want
        · exact ⟨.void, h3, by unfold PStep; rw [hg]; exact ⟨dj, hdj, h1, h2, fun h => (by rw [hgb] at h; cases h), fun _ => rfl⟩, AP_of_APx (h5 hgb)⟩
        · have h6 := h4 hgb
          split at h6
          · rename_i hp
            obtain ⟨h7, h8⟩ := h6
            exact ⟨_, h3, by unfold PStep; rw [hg]; exact ⟨dj, hdj, h1, h2, fun _ => .inl ⟨hp, h7, rfl⟩, fun h => (by rw [hgb] at h; cases h)⟩, AP_of_APx h8⟩
          · obtain ⟨v, h7, h8, h9⟩ := h6
            refine ⟨v, h3, ?_, h9⟩
            unfold PStep at h8 ⊢
            rw [hg]
            exact ⟨dj, hdj, h1, h2, fun _ => h8, fun h => (by rw [hgb] at h; cases h)⟩

theorem AP_call1 {rest : List Oper} {x : Operand} {xs : Array Operand} {ts : Array TypeId} {f : Nat} {A C args : List V} {r : V}
    (hx : ev ge st.tm x = .fn (.func f) A C) (ha : A ++ evs ge st.tm xs.toList ++ C = args) (hc : PCall P ge f args r) (hf : V.isFs args = true) (hp : r.plain = true) (hd : dstOk st.n d = true)
    (h : APx P ge ops K rest ⟨st.n, putD d r st.tm, st.h⟩) :
    AP P ge ops K (⟨d, .call { callee := .value x, args := xs, argTypes := ts }, t, p, af, none⟩ :: rest) st := by
  subst ha
  rw [evs_eq] at hc hf
  exact ⟨r, hd, .inr ⟨x, xs, ts, f, A, C, rfl, hx, hc, hf, hp⟩, AP_of_APx h⟩

theorem AW_region_APx (k : Nat) {id : Nat} (hm : P.follows .mixedOrders = true) (hd : drawOk ops k = true) (h : APx P ge ops (AO P ge ops Q (ops.toList.drop k)) (ops.toList.take k) st) : AW P ge (.region id ops true) Q st := by
  obtain ⟨vs, h1, h2⟩ := (AP_of_APx h).run
  exact AW_region_draw hm hd h1 (AS_of_AO h2)
end
attribute [simp] stillOp
end Go.AM
namespace Go.AM
theorem AWh {P : Program} {ge : GEnv} {c : Code} {Q : Exit → St → Prop} {K : St → Prop} {s : St} (h : ∀ s, AW P ge c Q s → K s) (h1 : AW P ge c Q s) : K s := h s h1
end Go.AM
end

section
/-! AM, part P: scopes and labels. -/
set_option linter.unusedVariables false
namespace Go.AM
section
variable {P : Program} {ge : GEnv} {st : St} {Q : Exit → St → Prop}
def SScope (Q : Exit → St → Prop) : Exit → St → Prop
  | .goto _, _ => False
  | e, st => Q e st
theorem AW_label {l : Nat} (h : Q .normal st) : AW P ge (.label l) Q st := fun G _ w hr => wp_label ⟨G, st, h, hr, .refl _ _ _⟩
theorem AW_scope {c : Code} (h : AW P ge c (SScope Q) st) : AW P ge (.scope c) Q st := by
  intro G a w hr
  refine wp_scope_straight (wp_mono (h G a w hr) ?_)
  rintro e a' w' ⟨G', s', q, r, x⟩
  cases e <;> simp only [SScope, Exit.noGoto] at q ⊢
  all_goals exact ⟨G', s', q, r, x⟩
theorem SScope_normal (h : Q .normal st) : SScope Q .normal st := h
theorem SScope_ret (h : Q .ret st) : SScope Q .ret st := h
theorem SScope_exit {id : Nat} (h : Q (.exit id) st) : SScope Q (.exit id) st := h
end
/-! The walk's steps, found by instances: one word in a proof's text for all of them. -/
class Step (g : Prop) (n : outParam Prop) : Prop where
  by1 : n → g
class Split (g : Prop) (a b x y : outParam Prop) : Prop where
  by2 : (a → x) → (b → y) → g
section
variable {P : Program} {ge : GEnv} {st : St} {Q : Exit → St → Prop} {K : St → Prop} {c : Code} {id : Nat} {ops : Array Oper}
instance : Step (AW P ge (.block id c) Q st) (AW P ge c (SBlock id Q) st) := ⟨AW_block⟩
instance : Step (AW P ge .skip Q st) (Q .normal st) := ⟨AW_skip⟩
instance : Step (AW P ge (.exit id) Q st) (Q (.exit id) st) := ⟨AW_exit⟩
instance : Step (AW P ge .ret Q st) (Q .ret st) := ⟨AW_ret⟩
instance : Step (AW P ge (.scope c) Q st) (AW P ge c (SScope Q) st) := ⟨AW_scope⟩
instance : Step (AW P ge (.label id) Q st) (Q .normal st) := ⟨AW_label⟩
instance : Step (SScope Q .normal st) (Q .normal st) := ⟨SScope_normal⟩
instance : Step (SScope Q .ret st) (Q .ret st) := ⟨SScope_ret⟩
instance : Step (SScope Q (.exit id) st) (Q (.exit id) st) := ⟨SScope_exit⟩
instance : Step (SThen K Q .normal st) (K st) := ⟨SThen_normal⟩
instance : Step (SThen K Q .ret st) (Q .ret st) := ⟨SThen_ret⟩
instance : Step (SThen K Q (.exit id) st) (Q (.exit id) st) := ⟨SThen_exit⟩
instance : Step (SBlock id Q .normal st) (Q .normal st) := ⟨SBlock_normal⟩
instance : Step (SBlock id Q .ret st) (Q .ret st) := ⟨SBlock_ret⟩
instance : Step (SBlock id Q (.exit id) st) (Q .normal st) := ⟨SBlock_exit⟩
variable {rest : List Oper} {o : Oper} {b : Bool} {p : Prop} [Decidable p]
instance (priority := 1300) : Split (AOg P ge ops Q (!decide p) o rest st) (¬ p) p (AOg P ge ops Q true o rest st) (AOg P ge ops Q false o rest st) := ⟨AOg_split_notdec⟩
instance (priority := 1200) : Split (AOg P ge ops Q (decide p) o rest st) p (¬ p) (AOg P ge ops Q true o rest st) (AOg P ge ops Q false o rest st) := ⟨AOg_split_dec⟩
instance (priority := 1100) : Split (AOg P ge ops Q (!b) o rest st) (b = false) (b = true) (AOg P ge ops Q true o rest st) (AOg P ge ops Q false o rest st) := ⟨AOg_split_not⟩
instance : Split (AOg P ge ops Q b o rest st) (b = true) (b = false) (AOg P ge ops Q true o rest st) (AOg P ge ops Q false o rest st) := ⟨AOg_split⟩
instance (priority := 1300) : Split (APg P ge ops K (!decide p) o rest st) (¬ p) p (APg P ge ops K true o rest st) (APg P ge ops K false o rest st) := ⟨APg_split_notdec⟩
instance (priority := 1200) : Split (APg P ge ops K (decide p) o rest st) p (¬ p) (APg P ge ops K true o rest st) (APg P ge ops K false o rest st) := ⟨APg_split_dec⟩
instance (priority := 1100) : Split (APg P ge ops K (!b) o rest st) (b = false) (b = true) (APg P ge ops K true o rest st) (APg P ge ops K false o rest st) := ⟨APg_split_not⟩
instance : Split (APg P ge ops K b o rest st) (b = true) (b = false) (APg P ge ops K true o rest st) (APg P ge ops K false o rest st) := ⟨APg_split⟩
theorem ct {x : Operand} {t e : Code} (hc : ev ge st.tm x = .bool true) (h : AW P ge t Q st) : AW P ge (.cond x t e) Q st := AW_cond_t hc h
theorem cf {x : Operand} {t e : Code} (hc : ev ge st.tm x = .bool false) (h : AW P ge e Q st) : AW P ge (.cond x t e) Q st := AW_cond_f hc h
theorem cnd {x : Operand} {t e : Code} {c : Prop} [Decidable c] (hc : ev ge st.tm x = .bool (!decide c)) (ht : ¬ c → AW P ge t Q st) (hf : c → AW P ge e Q st) : AW P ge (.cond x t e) Q st := AW_cond_notdec hc ht hf
theorem cd {x : Operand} {t e : Code} {c : Prop} [Decidable c] (hc : ev ge st.tm x = .bool (decide c)) (ht : c → AW P ge t Q st) (hf : ¬ c → AW P ge e Q st) : AW P ge (.cond x t e) Q st := AW_cond_dec hc ht hf
theorem cn {x : Operand} {t e : Code} {c : Bool} (hc : ev ge st.tm x = .bool (!c)) (ht : c = false → AW P ge t Q st) (hf : c = true → AW P ge e Q st) : AW P ge (.cond x t e) Q st := AW_cond_not hc ht hf
theorem cc {x : Operand} {t e : Code} {c : Bool} (hc : ev ge st.tm x = .bool c) (ht : c = true → AW P ge t Q st) (hf : c = false → AW P ge e Q st) : AW P ge (.cond x t e) Q st := AW_cond hc ht hf
end
end Go.AM
end

section
/-! AM, part Q: a nil slice as an empty row of one's own. -/
set_option linter.unusedVariables false
set_option linter.unusedSimpArgs false
namespace Go.AM
section
variable {P : Program} {ge : GEnv} {st : St} {Q : Exit → St → Prop} {G : Gh} {w : World}
theorem Rep_nilrow {a : Act} (hr : Rep P ge G st a w) (s : Nat) (T : TypeId) (hs : lk st.tm s = .nils) (h0 : 0 < szOf P T) :
    ∃ G', Rep P ge G' { st with tm := (s, .ref st.h.length 0 0 0) :: st.tm, h := st.h ++ [.row T 0 0 true []] } a w ∧ Ext G st.h w G' (st.h ++ [.row T 0 0 true []]) w := by
  have hk : ∀ k', (G.push none (szOf P T) 0).at G.n (.row T 0 0 true []) = some k' → w.heap.size ≤ k' := fun k' h => by
    simp [Gh.at, Gh.push] at h
  have hrb : RB P (G.push none (szOf P T) 0) w G.n (.row T 0 0 true []) := ⟨by simp [Gh.push], Nat.zero_le _, by simp [Gh.push, h0], .inl ⟨by simp [Gh.push], rfl⟩⟩
  have rh := hr.rh.push (.refl w) hrb hk
  have ext := Ext.push hr.rh (.refl w) hk
  refine ⟨_, ⟨rh, fun t => ?_, hr.n, hr.d⟩, ext⟩
  simp only [lk]
  split
  · rename_i hst
    subst hst
    have h1 := hr.tm s
    rw [hs] at h1
    generalize a.tmps.getD s undef = cv at h1 ⊢
    cases h1
    rw [hr.rh.n]
    exact .refn (by simp [Gh.push]) (by simp [Gh.push]) (by simp [Gh.push])
  · exact (hr.tm t).mono ext.le
def blOk (n : Nat) : List B → List B → Prop
  | [], _ => True
  | _ :: _, [] => False
  | x :: r, y :: r' => (x = .dead ∨ (y = x ∧ x.lt n)) ∧ blOk n r r'
theorem blOk_spec {n : Nat} : ∀ {l l' : List B}, blOk n l l' → ∀ (b : Nat) (x : B), l[b]? = some x → x = .dead ∨ (l'[b]? = some x ∧ x.lt n)
  | [], _, _, _, _, h => by simp at h
  | _ :: _, [], h, _, _, _ => h.elim
  | x :: r, y :: r', h, 0, z, hz => by
    simp at hz; subst hz
    rcases h.1 with h | ⟨rfl, h⟩
    · exact .inl h
    · exact .inr ⟨by simp, h⟩
  | x :: r, y :: r', h, b + 1, z, hz => by
    have := blOk_spec h.2 b z (by simpa using hz)
    simpa using this
/-- Weakening, by computation. -/
theorem Weak.mk' {st st' : St} (hn : st'.n = st.n) (hl : st'.h.length ≤ st.h.length) (ht : ∀ p ∈ st'.tm, lk st.tm p.1 = p.2 ∧ p.2.lt st'.h.length = true) (hb : blOk st'.h.length st'.h st.h) : Weak st st' := ⟨hn, hl, ht, blOk_spec hb⟩
theorem AW_nilrow {c : Code} (s : Nat) (T : TypeId) (hs : lk st.tm s = .nils) (h0 : 0 < szOf P T) (h : AW P ge c Q { st with tm := (s, .ref st.h.length 0 0 0) :: st.tm, h := st.h ++ [.row T 0 0 true []] }) : AW P ge c Q st := by
  intro G a w hr
  obtain ⟨G', hr', ext⟩ := Rep_nilrow hr s T hs h0
  exact wp_mono (h G' a w hr') fun _ _ _ hp => hp.mono ext fun _ _ h => h
theorem PCall.same {f : Nat} {args : List V} {r r' : V} (hc : PCall P ge f args r) (hp : r.plain = true) (h : ∀ G w c, R G w true r c → R G w true r' c) (hp' : match r' with | .own .. => False | .tup .. => False | _ => True) : PCall P ge f args r' :=
  ⟨hc.1, fun G w cargs ha hg => (hc.2 G w cargs ha hg).mono fun e w' ⟨c, G', h1, h2, h3⟩ => ⟨c, G', h1, h2, by
    have h4 := h _ _ _ (h3.plain hp)
    cases r' <;> first | exact h4 | exact hp'.elim⟩⟩
end
attribute [simp] blOk B.lt
end Go.AM
end

section
/-! AM, part R: bodies of general contracts. -/
set_option linter.unusedVariables false
set_option linter.unusedSimpArgs false
namespace Go.AM
section
variable {P : Program} {ge : GEnv}
def RetG (P : Program) (rs : Array ResultVar) (Q : V → List B → Prop) (h0 : List B) (e : Exit) (s : St) : Prop :=
  (e = .normal ∨ e = .ret) ∧ ∃ v h', RetV P s rs.toList v ∧ Q v h' ∧ v.lt h'.length = true ∧ Leaves h0 s.h h'
theorem GCall_body {f : Nat} {fn : Func} {code : Code} {args : List V} {h : List B} {Q : V → List B → Prop} (hf : P.funcs[f]? = some fn) (hb : fn.body = some code) (hname : fn.name ≠ "runtime.NumGoroutine") {n : Nat} (hn : fn.ntmps = n) (hl : args.length ≤ n) {rs : Array ResultVar} (hrs : fn.results = rs)
    (body : AW P ge code (RetG P rs Q h) ⟨n, argTm 0 args, h⟩) : GCall P ge f args h Q := by
  subst hn; subst hrs
  exact GCall_of_body hf hb hname hl body
theorem retg1 {st : St} {t : Nat} {Q : V → List B → Prop} {h0 h' : List B} (hq : Q (lk st.tm t) h') (hv : (lk st.tm t).lt h'.length = true) (hl : Leaves h0 st.h h') : RetG P #[.tmp t] Q h0 .ret st := ⟨.inr rfl, _, h', rfl, hq, hv, hl⟩
theorem Leaves.refl {h : List B} : Leaves h h h := ⟨Nat.le_refl _, Nat.le_refl _, fun b x hx => .inr ⟨hx, .inl hx⟩⟩
/-- A prefix has turned; what stands behind it stays; what is new falls. -/
theorem Leaves.tail {a a' e x : List B} (hl : a'.length = a.length) (ha : ∀ y ∈ a', y.lt a'.length) : Leaves (a ++ e) (a' ++ (e ++ x)) (a' ++ e) := by
  refine ⟨by simp [hl], by simp, fun b y hy => .inr ⟨?_, ?_⟩⟩
  · have hlt := (List.getElem?_eq_some_iff.1 hy).1
    rw [← List.append_assoc, List.getElem?_append_left hlt]; exact hy
  · rcases Nat.lt_or_ge b a'.length with h | h
    · rw [List.getElem?_append_left h] at hy
      exact .inr (B.lt_mono (by simp) (ha y (List.mem_of_getElem? hy)))
    · rw [List.getElem?_append_right h] at hy
      refine .inl ?_
      rw [List.getElem?_append_right (by omega), ← hl]; exact hy
theorem Weak.tail {st : St} {tm : List (Nat × V)} {a e x : List B} (hh : st.h = a ++ (e ++ x)) (ht : ∀ p ∈ tm, lk st.tm p.1 = p.2 ∧ p.2.lt (a ++ e).length = true) (ha : ∀ y ∈ a, y.lt (a ++ e).length) (he : ∀ y ∈ e, y.lt (a ++ e).length) :
    Weak st ⟨st.n, tm, a ++ e⟩ := by
  refine ⟨rfl, by rw [hh]; simp, ht, fun b y hy => .inr ⟨?_, ?_⟩⟩
  · have hlt := (List.getElem?_eq_some_iff.1 hy).1
    rw [hh, ← List.append_assoc, List.getElem?_append_left hlt]; exact hy
  · rcases List.mem_append.1 (List.mem_of_getElem? hy) with h | h
    · exact ha y h
    · exact he y h
theorem GCall.imp {f : Nat} {args : List V} {h : List B} {Q : V → List B → Prop} (hc : GCall P ge f args h Q) {args' : List V} {h' : List B} (e1 : args = args') (e2 : h = h') : GCall P ge f args' h' Q := by subst e1; subst e2; exact hc
theorem V.lts_mono {n m : Nat} (h : n ≤ m) {vs : List V} (hv : V.lts n vs = true) : V.lts m vs = true := by
  have := B.lt_mono (x := .var vs) h hv
  exact this
end
attribute [simp] Leaves.refl
end Go.AM
end

section
/-! AM, part S: what an argument's reading gives. -/
set_option linter.unusedVariables false
set_option linter.unusedSimpArgs false
namespace Go.AM

/-- All that is there is frozen for the call. -/
def Gall (w : World) : Gh := { fz := fun k => match w.heap[k]? with | some (.cells arr _ _) => arr.size | _ => 0, n := 0, gm := fun _ => 0, m := fun _ _ => none, sz := fun _ => 0, cap := fun _ _ => 0 }

theorem Gall_cell {w : World} {k o : Nat} {v : Value} (h : w.cell? ⟨k, o, none⟩ = some v) : o < (Gall w).fz k := by
  unfold World.cell? at h
  simp only [Gall]
  split at h
  · rename_i c _ _ hk
    simp only at hk
    rw [hk]
    simp at h
    exact (Array.getElem?_eq_some_iff.1 h).1
  · cases h
theorem cell_spot {w : World} {a : Addr} {v : Value} (h : w.cell? a = some v) : a = ⟨a.block, a.off, none⟩ := by
  obtain ⟨b, o, s⟩ := a
  unfold World.cell? at h
  split at h
  · cases s with
    | none => rfl
    | some _ => simp at h
  · cases h

theorem add_none (b o n : Nat) : Addr.add ⟨b, o, none⟩ n = ⟨b, o + n, none⟩ := by
  unfold Addr.add; split
  · rename_i h; subst h; rfl
  · rfl
theorem GE_all {ge : GEnv} {w : World} (hge : ∀ g cs, ge g = some cs → R (Gall w) w true (.fp cs 0) (.pointer (some ⟨g, 0, none⟩))) : GE ge (Gall w) w :=
  ⟨fun k hk => by simp only [Gall]; rw [Array.getElem?_eq_none hk], hge⟩

/-- Cells, and what stands for them. -/
def RdCells (w : World) (vs : List V) (cs : List Value) : Prop := vs.length = cs.length ∧ ∀ (i : Nat) (v : V), vs[i]? = some v → (cs.getD i undef).oneCell' = true ∧ R (Gall w) w true v (cs.getD i undef)

/-- Whatever a reading of this type gives stands for data of this shape. -/
def Rd (P : Program) (T : TypeId) {α : Type} (f : α → List V) (ok : α → Prop) : Prop :=
  ∀ (H : Type) (enc : TypeId × Value → H) (w : World) (held : Bool) (fuel : Nat) (cs : List Value) (x : DataW H × List MemPlace), DataW.trod enc P w 0 (fun _ => true) held fuel T cs = some x → ∃ a, ok a ∧ RdCells w (f a) cs

section
variable {P : Program} {T : TypeId}
theorem Rd.map {α β : Type} {f : α → List V} {ok : α → Prop} {f' : β → List V} {ok' : β → Prop} (h : Rd P T f ok) (g : α → β) (hf : ∀ a, f' (g a) = f a) (hok : ∀ a, ok a → ok' (g a)) : Rd P T f' ok' :=
  fun H enc w held fuel cs x hx => let ⟨a, h1, h2⟩ := h H enc w held fuel cs x hx; ⟨g a, hok a h1, by rw [hf]; exact h2⟩
theorem RdCells.one {w : World} {v : V} {c : Value} (ho : c.oneCell' = true) (hr : R (Gall w) w true v c) : RdCells w [v] [c] :=
  ⟨rfl, fun i u hu => by
    cases i with
    | zero => simp at hu; subst hu; exact ⟨ho, hr⟩
    | succ i => simp at hu⟩
theorem Rd_int {k : IntKind} (ht : P.underlying T = some (.int k)) : Rd P T (fun n : Int => [V.int k n]) (fun n => (Lit.int k n).wf = true) :=
  fun H enc w held fuel cs x hx => by
    obtain ⟨n, rfl, _, hw⟩ := DataW.trod_int ht hx
    exact ⟨n, hw, .one rfl .int⟩
theorem Rd_bool (ht : P.underlying T = some .bool) : Rd P T (fun b : Bool => [V.bool b]) (fun _ => True) :=
  fun H enc w held fuel cs x hx => by
    obtain ⟨b, rfl, _⟩ := DataW.trod_bool ht hx
    exact ⟨b, trivial, .one rfl .bool⟩
theorem Rd_string (ht : P.underlying T = some .string) : Rd P T (fun s : ByteArray => [V.str s]) (fun s => s.size ≤ maxLen) :=
  fun H enc w held fuel cs x hx => by
    obtain ⟨s, rfl, _, hs⟩ := DataW.trod_string ht hx
    exact ⟨s, hs, .one rfl .str⟩

theorem mapM_get {α β : Type} {g : α → Option β} : ∀ {l : List α} {r : List β}, l.mapM g = some r → r.length = l.length ∧ ∀ (i : Nat) (a : α), l[i]? = some a → g a = r[i]?
  | [], r, h => by simp at h; subst h; exact ⟨rfl, fun i a ha => by simp at ha⟩
  | b :: l, r, h => by
    rw [List.mapM_cons] at h
    cases hb : g b with
    | none => rw [hb] at h; simp at h
    | some c =>
      rw [hb] at h
      simp only [Option.pure_def, Option.bind_eq_bind, Option.bind_some] at h
      cases hl : l.mapM g with
      | none => rw [hl] at h; simp at h
      | some r' =>
        rw [hl] at h
        simp at h
        subst h
        obtain ⟨h1, h2⟩ := mapM_get hl
        refine ⟨by simp [h1], fun i a ha => ?_⟩
        cases i with
        | zero => simp at ha; subst ha; simp [hb]
        | succ i => simpa using h2 i a (by simpa using ha)

theorem cells_get {w : World} {a : Addr} {n : Nat} {cs : List Value} (h : w.cells? 0 a n = some cs) : cs.length = n ∧ ∀ i, i < n → w.cell? (a.add i) = some (cs.getD i undef) := by
  unfold World.cells? at h
  rw [if_pos (Nat.zero_le _)] at h
  obtain ⟨h1, h2⟩ := mapM_get h
  simp at h1
  refine ⟨h1, fun i hi => ?_⟩
  have := h2 i i (by rw [List.getElem?_range hi])
  rw [this]
  have hlt : i < cs.length := by omega
  simp [List.getD, List.getElem?_eq_getElem hlt]

theorem Rd_slice {e : TypeId} {α : Type} {f : α → List V} {ok : α → Prop} (ht : P.underlying T = some (.slice e)) (hc : 0 < P.cellsOf e) (he : Rd P e f ok) (hlen : ∀ a, (f a).length = P.cellsOf e) :
    Rd P T (fun l : List α => [V.vec (l.map f) l.length]) (fun l => ∀ a ∈ l, ok a) :=
  fun H enc w held fuel cs x hx => by
    rcases DataW.trod_slice ht hx with ⟨rfl, _⟩ | ⟨a, len, cap, elems, rest, n, _, rfl, _, _, hl, hm, hel, hget, _, _⟩
    · refine ⟨[], ?_⟩
      show (∀ a ∈ ([] : List α), ok a) ∧ RdCells w [V.vec [] 0] [_]
      exact ⟨fun a ha => (by cases ha), .one rfl (.emp (Nat.zero_le _))⟩
    -- element by element
    have each : ∀ i, i < len → ∃ (y : α), ok y ∧ ∃ ecs : List Value, w.cells? 0 (a.add (i * P.cellsOf e)) (P.cellsOf e) = some ecs ∧ RdCells w (f y) ecs := fun i hi => by
      have h1 := hget i hi
      rw [List.getElem?_eq_getElem (by omega)] at h1
      cases hcs : w.cells? 0 (a.add (i * P.cellsOf e)) (P.cellsOf e) with
      | none => rw [hcs] at h1; simp at h1
      | some ecs =>
        rw [hcs] at h1
        simp only [Option.bind_some] at h1
        obtain ⟨y, h2, h3⟩ := he H enc w held n ecs _ h1
        exact ⟨y, h2, ecs, rfl, h3⟩
    have hlist : ∀ m, m ≤ len → ∃ l : List α, l.length = m ∧ (∀ a ∈ l, ok a) ∧ ∀ (i : Nat) (y : α), l[i]? = some y → ∃ ecs : List Value, w.cells? 0 (a.add (i * P.cellsOf e)) (P.cellsOf e) = some ecs ∧ RdCells w (f y) ecs := by
      intro m
      induction m with
      | zero => intro _; exact ⟨[], rfl, fun a ha => (by cases ha), fun i y hy => by simp at hy⟩
      | succ m ih =>
        intro hm'
        obtain ⟨l, h1, h2, h3⟩ := ih (by omega)
        obtain ⟨y, h4, h5⟩ := each m (by omega)
        refine ⟨l ++ [y], by simp [h1], fun z hz => ?_, fun i z hz => ?_⟩
        · rcases List.mem_append.1 hz with h | h
          · exact h2 z h
          · simp at h; subst h; exact h4
        · rcases Nat.lt_or_ge i l.length with h | h
          · rw [List.getElem?_append_left h] at hz; exact h3 i z hz
          · rw [List.getElem?_append_right h] at hz
            have h0 : i - l.length = 0 := by
              rcases Nat.eq_zero_or_pos (i - l.length) with h | h
              · exact h
              · rw [List.getElem?_eq_none (by simp; omega)] at hz; cases hz
            rw [h0] at hz; simp at hz; subst hz
            have : i = m := by omega
            subst this; exact h5
    obtain ⟨l, h1, h2, h3⟩ := hlist len (Nat.le_refl _)
    refine ⟨l, h2, .one rfl ?_⟩
    rcases Nat.eq_zero_or_pos len with hz | hz
    · have : l = [] := List.eq_nil_of_length_eq_zero (by omega)
      subst this; subst hz
      exact .emp hm
    -- the address has no spot
    have hspot : a = ⟨a.block, a.off, none⟩ := by
      obtain ⟨ecs, h4, _⟩ := h3 0 l[0] (List.getElem?_eq_getElem (by omega))
      have h5 := (cells_get h4).2 0 hc
      have h6 := cell_spot h5
      have h7 := congrArg Addr.spot h6
      simp [Addr.add] at h7
      obtain ⟨b, o, s⟩ := a
      simp at h7; subst h7; rfl
    obtain ⟨ab, ao, asp⟩ := a
    have has : asp = none := by have := congrArg Addr.spot hspot; simpa using this
    subst has
    have hcell : ∀ (i : Nat) (y : List V) (j : Nat) (v : V), (l.map f)[i]? = some y → y[j]? = some v → ∃ c, w.cell? ⟨ab, ao + (i * P.cellsOf e + j), none⟩ = some c ∧ c.oneCell' = true ∧ R (Gall w) w true v c := by
      intro i y j v hy hv
      rw [List.getElem?_map] at hy
      obtain ⟨z, hz, rfl⟩ := Option.map_eq_some_iff.1 hy
      obtain ⟨ecs, h4, h5⟩ := h3 i z hz
      obtain ⟨h6, h7⟩ := cells_get h4
      have hj : j < P.cellsOf e := by have := (List.getElem?_eq_some_iff.1 hv).1; rw [hlen] at this; exact this
      have h8 := h7 j hj
      have h9 := h5.2 j v hv
      refine ⟨_, ?_, h9.1, h9.2⟩
      rw [← h8, add_none, add_none, Nat.add_assoc]
    rw [← h1]
    refine .vec (sz := P.cellsOf e) (by simp) (by simp; omega) hm (fun i y hy => ?_) (fun i y j v hy hv => ?_) (fun i y j v hy hv => ?_) (fun i y j v hy hv => ?_)
    · rw [List.getElem?_map] at hy
      obtain ⟨z, hz, rfl⟩ := Option.map_eq_some_iff.1 hy
      exact hlen z
    · obtain ⟨c, h4, h5, h6⟩ := hcell i y j v hy hv
      exact ⟨by rw [h4]; rfl, Gall_cell h4⟩
    · obtain ⟨c, h4, h5, h6⟩ := hcell i y j v hy hv
      unfold cellD; rw [h4]; exact h5
    · obtain ⟨c, h4, h5, h6⟩ := hcell i y j v hy hv
      unfold cellD; rw [h4]; exact h6

theorem RdCells.append {w : World} {a b : List V} {cs : List Value} {n : Nat} (hn : a.length = n) (h1 : RdCells w a (cs.take n)) (h2 : RdCells w b (cs.drop n)) : RdCells w (a ++ b) cs := by
  have hl : n ≤ cs.length := by have := h1.1; rw [hn, List.length_take] at this; omega
  refine ⟨by rw [List.length_append, h2.1, hn, List.length_drop]; omega, fun i v hv => ?_⟩
  rcases Nat.lt_or_ge i a.length with h | h
  · rw [List.getElem?_append_left h] at hv
    have := h1.2 i v hv
    have e : (cs.take n).getD i undef = cs.getD i undef := by simp [List.getD, List.getElem?_take_of_lt (show i < n by omega)]
    rw [e] at this; exact this
  · rw [List.getElem?_append_right h] at hv
    have := h2.2 _ v hv
    have e : (cs.drop n).getD (i - a.length) undef = cs.getD i undef := by
      simp only [List.getD, List.getElem?_drop]
      congr 2; omega
    rw [e] at this; exact this

/-- A struct's fields from one on. -/
def RdFs (P : Program) (tot : Nat) (fs : List Field) (off : Nat) {α : Type} (f : α → List V) (ok : α → Prop) : Prop :=
  ∀ (H : Type) (enc : TypeId × Value → H) (w : World) (held : Bool) (n : Nat) (cs : List Value) (xs : List (DataW H × List MemPlace)), cs.length = tot → xs.length = fs.length →
    (∀ (i : Nat) (g : Field), fs[i]? = some g → DataW.trod enc P w 0 (fun _ => true) held n g.type ((cs.drop g.offset).take (P.cellsOf g.type)) = xs[i]?) → ∃ a, ok a ∧ RdCells w (f a) (cs.drop off)
theorem RdFs_nil {tot off : Nat} (h : off = tot) : RdFs P tot [] off (fun _ : Unit => []) (fun _ => True) :=
  fun H enc w held n cs xs hl _ _ => ⟨(), trivial, by rw [List.drop_eq_nil_of_le (by omega)]; exact ⟨rfl, fun i v hv => by simp at hv⟩⟩
theorem RdFs_cons {tot off sz : Nat} {fd : Field} {fs : List Field} {α β : Type} {f : α → List V} {ok : α → Prop} {g : β → List V} {ok' : β → Prop} (ho : fd.offset = off) (hs : P.cellsOf fd.type = sz) (h : Rd P fd.type f ok) (hlen : ∀ a, (f a).length = sz)
    (h' : RdFs P tot fs (off + sz) g ok') : RdFs P tot (fd :: fs) off (fun p : α × β => f p.1 ++ g p.2) (fun p => ok p.1 ∧ ok' p.2) :=
  fun H enc w held n cs xs hl hxl hx => by
    cases xs with
    | nil => simp at hxl
    | cons x xs =>
      have h0 := hx 0 fd rfl
      obtain ⟨a, h1, h2⟩ := h H enc w held n _ x h0
      obtain ⟨b, h3, h4⟩ := h' H enc w held n cs xs hl (by simpa using hxl) (fun i g hg => by simpa using hx (i + 1) g (by simpa using hg))
      rw [ho, hs] at h2
      rw [← List.drop_drop] at h4
      exact ⟨(a, b), ⟨h1, h3⟩, .append (hlen a) h2 h4⟩
theorem Rd_struct {fs : Array Field} {tot : Nat} {α : Type} {f : α → List V} {ok : α → Prop} (ht : P.underlying T = some (.struct fs)) (hc : P.cellsOf T = tot) (h : RdFs P tot fs.toList 0 f ok) : Rd P T f ok :=
  fun H enc w held fuel cs x hx => by
    obtain ⟨xs, n, _, _, h1, h2, h3⟩ := DataW.trod_struct ht hx
    obtain ⟨a, h4, h5⟩ := h H enc w held n cs xs (by rw [h1, hc]) (by simpa using h2) (fun i g hg => h3 i g (by simpa using hg))
    exact ⟨a, h4, by simpa using h5⟩

/-- An argument of one cell. -/
theorem Rd.arg {α : Type} {f : α → V} {ok : α → Prop} (h : Rd P T (fun a => [f a]) ok) {H : Type} {enc : TypeId × Value → H} {w : World} {held : Bool} {v : Value} {d : DataW H} {ps : List MemPlace}
    (ht : DataW.Trod enc P w 0 (fun _ => true) held T v d ps) (hv : v.cells = #[v]) : ∃ a, ok a ∧ R (Gall w) w true (f a) v := by
  obtain ⟨fuel, hf⟩ := ht
  rw [hv] at hf
  obtain ⟨a, h1, h2⟩ := h H enc w held fuel _ _ hf
  exact ⟨a, h1, (h2.2 0 _ rfl).2⟩
/-- An argument that is a struct. -/
theorem Rd.aggArg {α : Type} {f : α → List V} {ok : α → Prop} (h : Rd P T f ok) {H : Type} {enc : TypeId × Value → H} {w : World} {held : Bool} {cs : Array Value} {d : DataW H} {ps : List MemPlace}
    (ht : DataW.Trod enc P w 0 (fun _ => true) held T (.agg cs) d ps) : ∃ a, ok a ∧ R (Gall w) w true (.agg (f a)) (.agg cs) := by
  obtain ⟨fuel, hf⟩ := ht
  obtain ⟨a, h1, h2⟩ := h H enc w held fuel _ _ hf
  have e : ∀ i, (Value.agg cs).cells.toList.getD i undef = cs.getD i undef := fun i => by simp [Value.cells, List.getD, Array.getD_eq_getD_getElem?]
  refine ⟨a, h1, .agg (by have := h2.1; simpa [Value.cells] using this.symm) (fun i v hv => ?_) (fun i v hv => ?_)⟩
  · have := (h2.2 i v hv).1; rw [e] at this; exact this
  · have := (h2.2 i v hv).2; rw [e] at this; exact this

/-- What a law's contract gives the row. -/
theorem law_calls {ge : GEnv} {f : Nat} {args : List V} {cargs : Array Value} {W : World} (hc : PCall P ge f args (.bool true)) (ha : ArgsR (Gall W) W true args cargs) (hg : GE ge (Gall W) W) :
    Calls P f cargs W fun e W' => e = .returned (.bool true) ∧ RowKit.Below W.heap.size W W' := by
  refine (hc.2 (Gall W) W cargs ha hg).mono ?_
  rintro e w' ⟨c, G', rfl, hk, hr⟩
  have h1 : R G' w' true (.bool true) c := hr
  cases h1
  exact ⟨rfl, hk.grow.os, hk.grow.out.2, hk.grow.out.1, hk.grow.size, fun k hk' => hk.grow.old k hk'⟩
end
end Go.AM
end

section
/-! AM, part Y: readings whose bulk is bounded. -/
set_option linter.unusedVariables false
set_option linter.unusedSimpArgs false
namespace Go.AM
/-- A measure of what is read, and its bound. -/
structure Bk where
  bk : (H : Type) → DataW H → Nat
  N : Nat
  len : ∀ {H : Type} (es sp : List (DataW H)), bk H (.slice es sp) ≤ N → es.length ≤ N ∧ ∀ d ∈ es, bk H d ≤ N
  agg : ∀ {H : Type} (ps : List (DataW H)), bk H (.agg ps) ≤ N → ∀ d ∈ ps, bk H d ≤ N
  str : ∀ {H : Type} (b : List UInt8), bk H (.lit (.string b)) ≤ N → b.length ≤ N
/-- Whatever a reading of this type within the bound gives stands for data of this shape. -/
def RdN (K : Bk) (P : Program) (T : TypeId) {α : Type} (f : α → List V) (ok : α → Prop) : Prop :=
  ∀ (H : Type) (enc : TypeId × Value → H) (w : World) (held : Bool) (fuel : Nat) (cs : List Value) (x : DataW H × List MemPlace), DataW.trod enc P w 0 (fun _ => true) held fuel T cs = some x → K.bk H x.1 ≤ K.N → ∃ a, ok a ∧ RdCells w (f a) cs

section
variable {P : Program} {T : TypeId} {K : Bk}
theorem RdN.map {α β : Type} {f : α → List V} {ok : α → Prop} {f' : β → List V} {ok' : β → Prop} (h : RdN K P T f ok) (g : α → β) (hf : ∀ a, f' (g a) = f a) (hok : ∀ a, ok a → ok' (g a)) : RdN K P T f' ok' :=
  fun H enc w held fuel cs x hx hbk => let ⟨a, h1, h2⟩ := h H enc w held fuel cs x hx hbk; ⟨g a, hok a h1, by rw [hf]; exact h2⟩
theorem RdN_int {k : IntKind} (ht : P.underlying T = some (.int k)) : RdN K P T (fun n : Int => [V.int k n]) (fun n => (Lit.int k n).wf = true) :=
  fun H enc w held fuel cs x hx hbk => by
    obtain ⟨n, rfl, _, hw⟩ := DataW.trod_int ht hx
    exact ⟨n, hw, .one rfl .int⟩
theorem RdN_bool (ht : P.underlying T = some .bool) : RdN K P T (fun b : Bool => [V.bool b]) (fun _ => True) :=
  fun H enc w held fuel cs x hx hbk => by
    obtain ⟨b, rfl, _⟩ := DataW.trod_bool ht hx
    exact ⟨b, trivial, .one rfl .bool⟩
theorem RdN_string (ht : P.underlying T = some .string) : RdN K P T (fun s : ByteArray => [V.str s]) (fun s => s.size ≤ maxLen ∧ s.size ≤ K.N) :=
  fun H enc w held fuel cs x hx hbk => by
    obtain ⟨s, rfl, rfl, hs⟩ := DataW.trod_string ht hx
    exact ⟨s, ⟨hs, by have := K.str _ hbk; simpa using this⟩, .one rfl .str⟩

theorem RdN_slice {e : TypeId} {α : Type} {f : α → List V} {ok : α → Prop} (ht : P.underlying T = some (.slice e)) (hc : 0 < P.cellsOf e) (he : RdN K P e f ok) (hlen : ∀ a, (f a).length = P.cellsOf e) :
    RdN K P T (fun l : List α => [V.vec (l.map f) l.length]) (fun l => l.length ≤ K.N ∧ ∀ a ∈ l, ok a) :=
  fun H enc w held fuel cs x hx hbk => by
    rcases DataW.trod_slice ht hx with ⟨rfl, _⟩ | ⟨a, len, cap, elems, rest, n, _, rfl, rfl, _, hl, hm, hel, hget, _, _⟩
    · refine ⟨[], ?_⟩
      show (([] : List α).length ≤ K.N ∧ ∀ a ∈ ([] : List α), ok a) ∧ RdCells w [V.vec [] 0] [_]
      exact ⟨⟨Nat.zero_le _, fun a ha => (by cases ha)⟩, .one rfl (.emp (Nat.zero_le _))⟩
    obtain ⟨hbl, hbm⟩ := K.len _ _ hbk
    rw [List.length_map] at hbl
    -- element by element
    have each : ∀ i, i < len → ∃ (y : α), ok y ∧ ∃ ecs : List Value, w.cells? 0 (a.add (i * P.cellsOf e)) (P.cellsOf e) = some ecs ∧ RdCells w (f y) ecs := fun i hi => by
      have h1 := hget i hi
      rw [List.getElem?_eq_getElem (by omega)] at h1
      cases hcs : w.cells? 0 (a.add (i * P.cellsOf e)) (P.cellsOf e) with
      | none => rw [hcs] at h1; simp at h1
      | some ecs =>
        rw [hcs] at h1
        simp only [Option.bind_some] at h1
        obtain ⟨y, h2, h3⟩ := he H enc w held n ecs _ h1 (hbm _ (List.mem_map_of_mem (List.getElem_mem (by omega))))
        exact ⟨y, h2, ecs, rfl, h3⟩
    have hlist : ∀ m, m ≤ len → ∃ l : List α, l.length = m ∧ (∀ a ∈ l, ok a) ∧ ∀ (i : Nat) (y : α), l[i]? = some y → ∃ ecs : List Value, w.cells? 0 (a.add (i * P.cellsOf e)) (P.cellsOf e) = some ecs ∧ RdCells w (f y) ecs := by
      intro m
      induction m with
      | zero => intro _; exact ⟨[], rfl, fun a ha => (by cases ha), fun i y hy => by simp at hy⟩
      | succ m ih =>
        intro hm'
        obtain ⟨l, h1, h2, h3⟩ := ih (by omega)
        obtain ⟨y, h4, h5⟩ := each m (by omega)
        refine ⟨l ++ [y], by simp [h1], fun z hz => ?_, fun i z hz => ?_⟩
        · rcases List.mem_append.1 hz with h | h
          · exact h2 z h
          · simp at h; subst h; exact h4
        · rcases Nat.lt_or_ge i l.length with h | h
          · rw [List.getElem?_append_left h] at hz; exact h3 i z hz
          · rw [List.getElem?_append_right h] at hz
            have h0 : i - l.length = 0 := by
              rcases Nat.eq_zero_or_pos (i - l.length) with h | h
              · exact h
              · rw [List.getElem?_eq_none (by simp; omega)] at hz; cases hz
            rw [h0] at hz; simp at hz; subst hz
            have : i = m := by omega
            subst this; exact h5
    obtain ⟨l, h1, h2, h3⟩ := hlist len (Nat.le_refl _)
    refine ⟨l, ⟨by omega, h2⟩, .one rfl ?_⟩
    rcases Nat.eq_zero_or_pos len with hz | hz
    · have : l = [] := List.eq_nil_of_length_eq_zero (by omega)
      subst this; subst hz
      exact .emp hm
    -- the address has no spot
    have hspot : a = ⟨a.block, a.off, none⟩ := by
      obtain ⟨ecs, h4, _⟩ := h3 0 l[0] (List.getElem?_eq_getElem (by omega))
      have h5 := (cells_get h4).2 0 hc
      have h6 := cell_spot h5
      have h7 := congrArg Addr.spot h6
      simp [Addr.add] at h7
      obtain ⟨b, o, s⟩ := a
      simp at h7; subst h7; rfl
    obtain ⟨ab, ao, asp⟩ := a
    have has : asp = none := by have := congrArg Addr.spot hspot; simpa using this
    subst has
    have hcell : ∀ (i : Nat) (y : List V) (j : Nat) (v : V), (l.map f)[i]? = some y → y[j]? = some v → ∃ c, w.cell? ⟨ab, ao + (i * P.cellsOf e + j), none⟩ = some c ∧ c.oneCell' = true ∧ R (Gall w) w true v c := by
      intro i y j v hy hv
      rw [List.getElem?_map] at hy
      obtain ⟨z, hz, rfl⟩ := Option.map_eq_some_iff.1 hy
      obtain ⟨ecs, h4, h5⟩ := h3 i z hz
      obtain ⟨h6, h7⟩ := cells_get h4
      have hj : j < P.cellsOf e := by have := (List.getElem?_eq_some_iff.1 hv).1; rw [hlen] at this; exact this
      have h8 := h7 j hj
      have h9 := h5.2 j v hv
      refine ⟨_, ?_, h9.1, h9.2⟩
      rw [← h8, add_none, add_none, Nat.add_assoc]
    rw [← h1]
    refine .vec (sz := P.cellsOf e) (by simp) (by simp; omega) hm (fun i y hy => ?_) (fun i y j v hy hv => ?_) (fun i y j v hy hv => ?_) (fun i y j v hy hv => ?_)
    · rw [List.getElem?_map] at hy
      obtain ⟨z, hz, rfl⟩ := Option.map_eq_some_iff.1 hy
      exact hlen z
    · obtain ⟨c, h4, h5, h6⟩ := hcell i y j v hy hv
      exact ⟨by rw [h4]; rfl, Gall_cell h4⟩
    · obtain ⟨c, h4, h5, h6⟩ := hcell i y j v hy hv
      unfold cellD; rw [h4]; exact h5
    · obtain ⟨c, h4, h5, h6⟩ := hcell i y j v hy hv
      unfold cellD; rw [h4]; exact h6

/-- A struct's fields from one on. -/
def RdNs (K : Bk) (P : Program) (tot : Nat) (fs : List Field) (off : Nat) {α : Type} (f : α → List V) (ok : α → Prop) : Prop :=
  ∀ (H : Type) (enc : TypeId × Value → H) (w : World) (held : Bool) (n : Nat) (cs : List Value) (xs : List (DataW H × List MemPlace)), cs.length = tot → xs.length = fs.length →
    (∀ (i : Nat) (g : Field), fs[i]? = some g → DataW.trod enc P w 0 (fun _ => true) held n g.type ((cs.drop g.offset).take (P.cellsOf g.type)) = xs[i]?) → (∀ x ∈ xs, K.bk H x.1 ≤ K.N) → ∃ a, ok a ∧ RdCells w (f a) (cs.drop off)
theorem RdNs_nil {tot off : Nat} (h : off = tot) : RdNs K P tot [] off (fun _ : Unit => []) (fun _ => True) :=
  fun H enc w held n cs xs hl _ _ _ => ⟨(), trivial, by rw [List.drop_eq_nil_of_le (by omega)]; exact ⟨rfl, fun i v hv => by simp at hv⟩⟩
theorem RdNs_cons {tot off sz : Nat} {fd : Field} {fs : List Field} {α β : Type} {f : α → List V} {ok : α → Prop} {g : β → List V} {ok' : β → Prop} (ho : fd.offset = off) (hs : P.cellsOf fd.type = sz) (h : RdN K P fd.type f ok) (hlen : ∀ a, (f a).length = sz)
    (h' : RdNs K P tot fs (off + sz) g ok') : RdNs K P tot (fd :: fs) off (fun p : α × β => f p.1 ++ g p.2) (fun p => ok p.1 ∧ ok' p.2) :=
  fun H enc w held n cs xs hl hxl hx hb => by
    cases xs with
    | nil => simp at hxl
    | cons x xs =>
      have h0 := hx 0 fd rfl
      obtain ⟨a, h1, h2⟩ := h H enc w held n _ x h0 (hb x (.head _))
      obtain ⟨b, h3, h4⟩ := h' H enc w held n cs xs hl (by simpa using hxl) (fun i g hg => by simpa using hx (i + 1) g (by simpa using hg)) (fun y hy => hb y (.tail _ hy))
      rw [ho, hs] at h2
      rw [← List.drop_drop] at h4
      exact ⟨(a, b), ⟨h1, h3⟩, .append (hlen a) h2 h4⟩
theorem RdN_struct {fs : Array Field} {tot : Nat} {α : Type} {f : α → List V} {ok : α → Prop} (ht : P.underlying T = some (.struct fs)) (hc : P.cellsOf T = tot) (h : RdNs K P tot fs.toList 0 f ok) : RdN K P T f ok :=
  fun H enc w held fuel cs x hx hbk => by
    obtain ⟨xs, n, _, rfl, h1, h2, h3⟩ := DataW.trod_struct ht hx
    obtain ⟨a, h4, h5⟩ := h H enc w held n cs xs (by rw [h1, hc]) (by simpa using h2) (fun i g hg => h3 i g (by simpa using hg)) (fun y hy => K.agg _ hbk _ (List.mem_map_of_mem hy))
    exact ⟨a, h4, by simpa using h5⟩

/-- An argument of one cell. -/
theorem RdN.arg {α : Type} {f : α → V} {ok : α → Prop} (h : RdN K P T (fun a => [f a]) ok) {H : Type} {enc : TypeId × Value → H} {w : World} {held : Bool} {v : Value} {d : DataW H} {ps : List MemPlace}
    (ht : DataW.Trod enc P w 0 (fun _ => true) held T v d ps) (hv : v.cells = #[v]) (hbk : K.bk H d ≤ K.N) : ∃ a, ok a ∧ R (Gall w) w true (f a) v := by
  obtain ⟨fuel, hf⟩ := ht
  rw [hv] at hf
  obtain ⟨a, h1, h2⟩ := h H enc w held fuel _ _ hf hbk
  exact ⟨a, h1, (h2.2 0 _ rfl).2⟩
/-- An argument that is a struct. -/
theorem RdN.aggArg {α : Type} {f : α → List V} {ok : α → Prop} (h : RdN K P T f ok) {H : Type} {enc : TypeId × Value → H} {w : World} {held : Bool} {cs : Array Value} {d : DataW H} {ps : List MemPlace}
    (ht : DataW.Trod enc P w 0 (fun _ => true) held T (.agg cs) d ps) (hbk : K.bk H d ≤ K.N) : ∃ a, ok a ∧ R (Gall w) w true (.agg (f a)) (.agg cs) := by
  obtain ⟨fuel, hf⟩ := ht
  obtain ⟨a, h1, h2⟩ := h H enc w held fuel _ _ hf hbk
  have e : ∀ i, (Value.agg cs).cells.toList.getD i undef = cs.getD i undef := fun i => by simp [Value.cells, List.getD, Array.getD_eq_getD_getElem?]
  refine ⟨a, h1, .agg (by have := h2.1; simpa [Value.cells] using this.symm) (fun i v hv => ?_) (fun i v hv => ?_)⟩
  · have := (h2.2 i v hv).1; rw [e] at this; exact this
  · have := (h2.2 i v hv).2; rw [e] at this; exact this

end
end Go.AM
end

section
/-! AM, part T: a cut, where branches meet again. -/
set_option linter.unusedVariables false
namespace Go.AM
section
variable {P : Program} {ge : GEnv} {st : St} {Q : Exit → St → Prop}
def SMeet (S : St) (Q : Exit → St → Prop) : Exit → St → Prop
  | .normal, s => Weak s S ∧ S.h.length = s.h.length
  | e, s => Q e s
theorem AW_mid {id : Nat} {ops : Array Oper} {b : Bool} {y z : Code} (S : St) (h1 : AW P ge (.seq (.region id ops b) y) (SMeet S Q) st) (h2 : AW P ge z Q S) :
    AW P ge (.seq (.seq (.region id ops b) y) z) Q st := by
  refine AW_seq (h1.mono fun e s h => ?_)
  cases e <;> simp only [SMeet, SThen] at h ⊢
  case normal => exact h2.weak h.1 h.2
  all_goals exact h
theorem AW_mid1 {id : Nat} {ops : Array Oper} {b : Bool} {z : Code} (S : St) (h1 : AW P ge (.region id ops b) (SMeet S Q) st) (h2 : AW P ge z Q S) :
    AW P ge (.seq (.region id ops b) z) Q st := by
  refine AW_seq (h1.mono fun e s h => ?_)
  cases e <;> simp only [SMeet, SThen] at h ⊢
  case normal => exact h2.weak h.1 h.2
  all_goals exact h
/-- Held back from a walk. -/
structure Hold (p : Prop) : Prop where
  mk' ::
  get : p
theorem Hold.mk {p : Prop} (h : Hold p) : p := h.get
theorem Hold.out {p : Prop} (h : p) : Hold p := ⟨h⟩
theorem SMeet_normal {S s : St} (h : Weak s S) (hl : S.h.length = s.h.length) : SMeet S Q .normal s := ⟨h, hl⟩
theorem SMeet_ret {S s : St} (h : Q .ret s) : SMeet S Q .ret s := h
theorem SMeet_exit {S s : St} {id : Nat} (h : Q (.exit id) s) : SMeet S Q (.exit id) s := h
end
end Go.AM
end

section
/-! AM, part U: loops whose head is told by the temps that turn; loops over a list; values cut to what is seen. -/
set_option linter.unusedVariables false
set_option linter.unusedSimpArgs false
namespace Go.AM

/-- The temps of a state that stay. -/
def pickTm (tm : List (Nat × V)) : List Nat → List (Nat × V)
  | [] => []
  | t :: r => (t, lk tm t) :: pickTm tm r

section
variable {P : Program} {ge : GEnv} {st : St} {Q : Exit → St → Prop}

/-- The state at the head of a loop: the index, what turns, what stays. -/
def headSt (st : St) (L : List Nat) (vs : List (Nat × V)) (h : List B) : St := ⟨st.n, vs ++ pickTm st.tm L, h⟩

/-- A loop whose head is told by what turns (vs, H) and the temps that stay (L). -/
theorem AW_loopL {σ : Type} (L : List Nat) (vs : σ → List (Nat × V)) (H : σ → List B) (I : σ → Prop) (μ : σ → Nat) {c : Code} (x0 : σ) (h0 : I x0)
    (hst : Weak st (headSt st L (vs x0) (H x0))) (hlen : ∀ x, I x → (H x).length = st.h.length)
    (round : ∀ x, I x → AW P ge c (SThen (fun s => ∃ x', I x' ∧ μ x' < μ x ∧ Weak s (headSt st L (vs x') (H x'))) Q) (headSt st L (vs x) (H x))) : AW P ge (.loop c) Q st :=
  AW_loop (fun x => headSt st L (vs x) (H x)) I μ h0 hst hlen round

/-- A loop over a list, element by element, told by a function of the rest of the list. -/
theorem AW_range {α acc ρ : Type} (l : List α) (ti : Nat) (L : List Nat) (vs : acc → List (Nat × V)) (H : acc → List B) (J : Nat → acc → Prop) (F : List α → acc → ρ) {c : Code} (a0 : acc) {r : ρ}
    (hr : F l a0 = r) (hJ : J 0 a0) (hst : Weak st (headSt st L ((ti, .int .i64 ((0 : Nat) : Int)) :: vs a0) (H a0))) (hlen : ∀ i a, J i a → (H a).length = st.h.length)
    (body : ∀ (i : Nat) (a : acc) (x : α), l[i]? = some x → (hlt : i < l.length) → l[i] = x → J i a → F (x :: l.drop (i + 1)) a = r →
      AW P ge c (SThen (fun s => ∃ a', F (l.drop (i + 1)) a' = r ∧ J (i + 1) a' ∧ Weak s (headSt st L ((ti, .int .i64 ((i + 1 : Nat) : Int)) :: vs a') (H a'))) Q) (headSt st L ((ti, .int .i64 (i : Int)) :: vs a) (H a)))
    (done : ∀ a, J l.length a → F [] a = r → AW P ge c (SThen (fun _ => False) Q) (headSt st L ((ti, .int .i64 (l.length : Int)) :: vs a) (H a))) : AW P ge (.loop c) Q st := by
  refine AW_loop (fun x : Nat × acc => headSt st L ((ti, .int .i64 (x.1 : Int)) :: vs x.2) (H x.2)) (fun x => x.1 ≤ l.length ∧ J x.1 x.2 ∧ F (l.drop x.1) x.2 = r) (fun x => l.length - x.1) (x0 := (0, a0))
    ⟨Nat.zero_le _, hJ, hr⟩ hst (fun x hx => hlen x.1 x.2 hx.2.1) ?_
  rintro ⟨i, a⟩ ⟨h1, h2, h3⟩
  simp only at h1 h2 h3
  rcases Nat.lt_or_ge i l.length with hlt | hge
  · have hx : l[i]? = some l[i] := List.getElem?_eq_getElem hlt
    rw [List.drop_eq_getElem_cons hlt] at h3
    refine (body i a l[i] hx hlt rfl h2 h3).mono fun e s h => ?_
    cases e <;> simp only [SThen] at h ⊢
    case normal =>
      obtain ⟨a', k1, k2, k3⟩ := h
      exact ⟨(i + 1, a'), ⟨hlt, k2, k1⟩, by simp only; omega, k3⟩
    all_goals exact h
  · have hi : i = l.length := by omega
    subst hi
    rw [List.drop_of_length_le (Nat.le_refl _)] at h3
    refine (done a h2 h3).mono fun e s h => ?_
    cases e <;> simp only [SThen] at h ⊢
    all_goals first | exact h.elim | exact h
/-- A loop over a list that only looks. -/
theorem AW_scan {α ρ : Type} (l : List α) (ti : Nat) (L : List Nat) (F : List α → ρ) {c : Code} {r : ρ} (hr : F l = r) (hst : Weak st (headSt st L [(ti, .int .i64 ((0 : Nat) : Int))] st.h))
    (body : ∀ (i : Nat) (x : α), l[i]? = some x → (hlt : i < l.length) → l[i] = x → F (x :: l.drop (i + 1)) = r →
      AW P ge c (SThen (fun s => F (l.drop (i + 1)) = r ∧ Weak s (headSt st L [(ti, .int .i64 ((i + 1 : Nat) : Int))] st.h)) Q) (headSt st L [(ti, .int .i64 (i : Int))] st.h))
    (done : F [] = r → AW P ge c (SThen (fun _ => False) Q) (headSt st L [(ti, .int .i64 (l.length : Int))] st.h)) : AW P ge (.loop c) Q st :=
  AW_range l ti L (fun _ : Unit => []) (fun _ => st.h) (fun _ _ => True) (fun l _ => F l) () hr trivial hst (fun _ _ _ => rfl)
    (fun i _ x h1 h2 h3 _ h4 => (body i x h1 h2 h3 h4).mono fun e s h => by
      cases e <;> simp only [SThen] at h ⊢
      case normal => exact ⟨(), h.1, trivial, h.2⟩
      all_goals exact h) (fun _ _ h => done h)
end

/-! ### Values cut to what is seen -/
mutual
def V.trim : V → V
  | .vec xs len => .vec (V.trimR len xs) len
  | .agg cs => .agg (V.trims cs)
  | .tup cs => .tup (V.trims cs)
  | .fp cs off => .fp (V.trims cs) off
  | .fn f a b => .fn f (V.trims a) (V.trims b)
  | .ifc t v => .ifc t (V.trim v)
  | v => v
def V.trims : List V → List V
  | [] => []
  | v :: r => V.trim v :: V.trims r
def V.trimR : Nat → List (List V) → List (List V)
  | 0, _ => []
  | _ + 1, [] => []
  | n + 1, x :: r => V.trims x :: V.trimR n r
end

theorem trims_eq : ∀ cs : List V, V.trims cs = cs.map V.trim
  | [] => rfl
  | v :: r => by rw [V.trims, List.map_cons, trims_eq r]
theorem trimR_eq : ∀ (n : Nat) (xs : List (List V)), V.trimR n xs = (xs.take n).map V.trims
  | 0, xs => by simp [V.trimR]
  | n + 1, [] => by simp [V.trimR]
  | n + 1, x :: r => by rw [V.trimR, List.take_succ_cons, List.map_cons, trimR_eq n r]

theorem R.trim {G : Gh} {w : World} {fr : Bool} {v : V} {c : Value} (h : R G w fr v c) : R G w fr v.trim c := by
  have tg : ∀ {cs : List V} {j : Nat} {v : V}, (V.trims cs)[j]? = some v → ∃ u, cs[j]? = some u ∧ v = u.trim := fun {cs j v} hv => by
    rw [trims_eq, List.getElem?_map] at hv
    obtain ⟨u, h1, h2⟩ := Option.map_eq_some_iff.1 hv
    exact ⟨u, h1, h2.symm⟩
  have rg : ∀ {xs : List (List V)} {n i : Nat} {x : List V}, (V.trimR n xs)[i]? = some x → ∃ y, xs[i]? = some y ∧ x = V.trims y := fun {xs n i x} hx => by
    rw [trimR_eq, List.getElem?_map] at hx
    obtain ⟨y, h1, h2⟩ := Option.map_eq_some_iff.1 hx
    rw [List.getElem?_take] at h1
    split at h1
    · exact ⟨y, h1, h2.symm⟩
    · cases h1
  induction h with
  | emp h => exact .emp h
  | @vec _ _ _ _ _ _ sz h1 h2 h3 hl hc ho hr ih =>
    refine .vec (sz := sz) (by rw [trimR_eq, List.length_map, List.length_take]; omega) (by rw [trimR_eq, List.length_map, List.length_take]; omega) h3 (fun i x hx => ?_) (fun i x j v hx hv => ?_) (fun i x j v hx hv => ?_) (fun i x j v hx hv => ?_)
    · obtain ⟨y, h4, rfl⟩ := rg hx; rw [trims_eq, List.length_map]; exact hl i y h4
    · obtain ⟨y, h4, rfl⟩ := rg hx; obtain ⟨u, h5, rfl⟩ := tg hv; exact hc i y j u h4 h5
    · obtain ⟨y, h4, rfl⟩ := rg hx; obtain ⟨u, h5, rfl⟩ := tg hv; exact ho i y j u h4 h5
    · obtain ⟨y, h4, rfl⟩ := rg hx; obtain ⟨u, h5, rfl⟩ := tg hv; exact ih i y j u h4 h5
  | fp hc ho hr ih =>
    refine .fp (fun j v hv => ?_) (fun j v hv => ?_) (fun j v hv => ?_)
    · obtain ⟨u, h5, rfl⟩ := tg hv; exact hc j u h5
    · obtain ⟨u, h5, rfl⟩ := tg hv; exact ho j u h5
    · obtain ⟨u, h5, rfl⟩ := tg hv; exact ih j u h5
  | agg hs ho hr ih =>
    refine .agg (by rw [trims_eq, List.length_map]; exact hs) (fun i v hv => ?_) (fun i v hv => ?_)
    · obtain ⟨u, h5, rfl⟩ := tg hv; exact ho i u h5
    · obtain ⟨u, h5, rfl⟩ := tg hv; exact ih i u h5
  | tup hs hr ih =>
    refine .tup (by rw [trims_eq, List.length_map]; exact hs) (fun i v hv => ?_)
    obtain ⟨u, h5, rfl⟩ := tg hv; exact ih i u h5
  | fn hs hr hs' hr' ih ih' =>
    refine .fn (by rw [trims_eq, List.length_map]; exact hs) (fun i v hv => ?_) (by rw [trims_eq, List.length_map]; exact hs') (fun i v hv => ?_)
    · obtain ⟨u, h5, rfl⟩ := tg hv; exact ih i u h5
    · obtain ⟨u, h5, rfl⟩ := tg hv; exact ih' i u h5
  | ifc hr ih => exact .ifc ih
  | junk => exact .junk
  | void => exact .void
  | bool => exact .bool
  | int => exact .int
  | str => exact .str
  | nils => exact .nils
  | nilp => exact .nilp
  | nilf => exact .nilf
  | nilm => exact .nilm
  | nili => exact .nili
  | ref hb hg hm hle => exact .ref hb hg hm hle
  | refn hb hg hm => exact .refn hb hg hm
  | ptr hb hm => exact .ptr hb hm
  | ep hb hg hm => exact .ep hb hg hm
  | mp hb hm => exact .mp hb hm

/-- A contract for what is seen of the arguments. -/
theorem PCall.trim {P : Program} {ge : GEnv} {f : Nat} {args args' : List V} {r : V} (hc : PCall P ge f args' r) (ha : V.trims args = args') : PCall P ge f args r := by
  subst ha
  refine ⟨hc.1, fun G w cargs h hg => hc.2 G w cargs ⟨by rw [trims_eq, List.length_map]; exact h.1, fun i v hv => ?_⟩ hg⟩
  rw [trims_eq, List.getElem?_map] at hv
  obtain ⟨u, h1, rfl⟩ := Option.map_eq_some_iff.1 hv
  exact (h.2 i u h1).trim

/-- A row of one's own, frozen. -/
theorem PCall.freeze {P : Program} {ge : GEnv} {f : Nat} {args : List V} {T : TypeId} {xs : List (List V)} (hc : PCall P ge f args (.own T xs)) : PCall P ge f args (.vec xs xs.length) := by
  refine ⟨hc.1, fun G w cargs ha hg => (hc.2 G w cargs ha hg).mono ?_⟩
  rintro e w' ⟨c, G', rfl, kept, h0, ⟨rfl, rfl⟩ | ⟨k, cap, arr, rfl, hb, hh, hfz, hs, hl, hcm, hlen, hc⟩⟩
  · exact ⟨_, G', rfl, kept, .emp (Nat.zero_le _)⟩
  · have hk : k < w'.heap.size := by
      rcases Nat.lt_or_ge k w'.heap.size with h | h
      · exact h
      · rw [Array.getElem?_eq_none h] at hh; cases hh
    have hle : ∀ j, G'.fz j ≤ (if j = k then arr.size else G'.fz j) := fun j => by
      split
      · rename_i h; subst h; omega
      · exact Nat.le_refl _
    refine ⟨_, G'.withFz fun j => if j = k then arr.size else G'.fz j, rfl, ⟨kept.grow, fun j hj => ?_, fun j hj => ?_⟩, ?_⟩
    · show (if j = k then arr.size else G'.fz j) = G.fz j
      rw [if_neg (by omega)]; exact kept.fz j hj
    · show (if j = k then arr.size else G'.fz j) = 0
      rw [if_neg (by omega)]; exact kept.fzlt j hj
    · have hlt : ∀ (i : Nat) (x : List V) (j : Nat) (v : V), xs[i]? = some x → x[j]? = some v → i * szOf P T + j < arr.size := fun i x j v hx hv => by
        have h1 := hlen i x hx
        have h2 : i < xs.length := (List.getElem?_eq_some_iff.1 hx).1
        have h3 : j < x.length := (List.getElem?_eq_some_iff.1 hv).1
        have h4 : (i + 1) * szOf P T ≤ cap * szOf P T := Nat.mul_le_mul_right _ (by omega)
        rw [hs]; rw [Nat.add_mul] at h4; omega
      have hcd : ∀ (o : Nat), o < arr.size → w'.cell? ⟨k, o, none⟩ = some (arr.getD o undef) := fun o ho => arr_cell hh ho
      have hd : ∀ (o : Nat), o < arr.size → cellD w' k o = arr.getD o undef := fun o ho => by unfold cellD; rw [hcd o ho]; rfl
      refine R.vec (sz := szOf P T) (Nat.le_refl _) hl hcm hlen (fun i x j v hx hv => ?_) (fun i x j v hx hv => ?_) (fun i x j v hx hv => ?_)
      · have := hlt i x j v hx hv
        rw [Nat.zero_add]
        refine ⟨by rw [hcd _ this]; rfl, ?_⟩
        show _ < if k = k then arr.size else G'.fz k
        rw [if_pos rfl]; exact this
      · rw [Nat.zero_add, hd _ (hlt i x j v hx hv)]; exact (hc i x j v hx hv).1
      · rw [Nat.zero_add, hd _ (hlt i x j v hx hv)]; exact ((hc i x j v hx hv).2).fz hle
attribute [simp] pickTm headSt
end Go.AM
end

section
/-! AM, part W: maps whose keys are strings. -/
set_option linter.unusedVariables false
set_option linter.unusedSimpArgs false
namespace Go.AM
open Go.MapKept

def smap (l : List (ByteArray × V)) : List (V × V) := l.map fun p => (.str p.1, p.2)
def sget (l : List (ByteArray × V)) (s : ByteArray) : Option V := (l.find? fun p => p.1 = s).map (·.2)
def sput (l : List (ByteArray × V)) (s : ByteArray) (v : V) : List (ByteArray × V) := match l.findIdx? fun p => p.1 = s with
  | some j => l.set j (s, v)
  | none => l ++ [(s, v)]

section
variable {P : Program} {ge : GEnv} {st : St} {Q : Exit → St → Prop}
variable {d : Option Tmp} {t : TypeId} {p : String} {af : Array Edge} {g : Option (Nat × Bool)}

theorem S_makeMap {T : TypeId} : OpS P ge st ⟨d, .makeMap T none, t, p, af, g⟩ (.mp st.h.length) (st.h ++ [.map []]) := by
  intro G a w hr
  have hk : ∀ k', (G.push (some w.heap.size) 1 1).at G.n (.map []) = some k' → w.heap.size ≤ k' := fun k' h => by
    simp [Gh.at, Gh.push] at h; omega
  have hrb : RB P (G.push (some w.heap.size) 1 1) (w.alloc (.map #[] 0)) G.n (.map []) :=
    ⟨by simp [Gh.push], w.heap.size, #[], 0, by simp [Gh.push], heap_alloc_new w _, rfl, fun i e c h => by simp at h⟩
  refine ⟨.map (some w.heap.size), G.push (some w.heap.size) 1 1, w.alloc (.map #[] 0), .inl ?_, hr.rh.push (.alloc w _) hrb hk, ?_, .push hr.rh (.alloc w _) hk⟩
  · simp [execOp, Instr.makeMap]
  · rw [hr.rh.n]; exact .mp (by simp [Gh.push]) (by simp [Gh.push])

/-- The keys of a map's entries are the strings. -/
theorem ents_keys {G : Gh} {w : World} {l : List (ByteArray × V)} {ents : Array MapEntry} (hs : ents.size = (smap l).length)
    (hc : ∀ (i : Nat) (e : V × V) (c : MapEntry), (smap l)[i]? = some e → ents[i]? = some c → R G w true e.1 c.key ∧ R G w true e.2 c.val) :
    (∀ x ∈ ents.toList, IsKey .string x.key) ∧ ∀ (j : Nat) (c : MapEntry), ents[j]? = some c → ∃ q, l[j]? = some q ∧ c.key = .string q.1 ∧ R G w true q.2 c.val := by
  have key : ∀ (j : Nat) (c : MapEntry), ents[j]? = some c → ∃ q, l[j]? = some q ∧ c.key = .string q.1 ∧ R G w true q.2 c.val := fun j c hj => by
    have hlt := (Array.getElem?_eq_some_iff.1 hj).1
    have hl : j < l.length := by rw [hs] at hlt; simpa [smap] using hlt
    have he : (smap l)[j]? = some (.str l[j].1, l[j].2) := by simp [smap, hl]
    obtain ⟨h1, h2⟩ := hc j _ c he hj
    exact ⟨l[j], List.getElem?_eq_getElem hl, h1.inv_str, h2⟩
  refine ⟨fun x hx => ?_, key⟩
  obtain ⟨j, hj⟩ := List.getElem?_of_mem hx
  obtain ⟨q, _, hq, _⟩ := key j x (by simpa using hj)
  rw [hq]; trivial

theorem find_at {l : List (ByteArray × V)} (hn : (l.map (·.1)).Nodup) {j : Nat} {q : ByteArray × V} (hj : l[j]? = some q) : sget l q.1 = some q.2 ∧ l.findIdx? (fun p => p.1 = q.1) = some j := by
  induction l generalizing j with
  | nil => simp at hj
  | cons a r ih =>
    rw [List.map_cons, List.nodup_cons] at hn
    cases j with
    | zero =>
      simp at hj; subst hj
      exact ⟨by simp [sget], by simp [List.findIdx?_cons]⟩
    | succ j =>
      have hj' : r[j]? = some q := by simpa using hj
      obtain ⟨h1, h2⟩ := ih hn.2 hj'
      have hne : ¬ a.1 = q.1 := fun e => hn.1 (by rw [e]; exact List.mem_map_of_mem (List.mem_of_getElem? hj'))
      refine ⟨?_, ?_⟩
      · unfold sget at h1 ⊢; rw [List.find?_cons]; simp only [hne, decide_false]; exact h1
      · rw [List.findIdx?_cons]; simp [hne, h2]
theorem find_none {l : List (ByteArray × V)} {s : ByteArray} (h : ∀ q ∈ l, q.1 ≠ s) : sget l s = none ∧ l.findIdx? (fun p => p.1 = s) = none := by
  constructor
  · unfold sget
    rw [List.find?_eq_none.2 (fun x hx => by simpa using h x hx)]; rfl
  · rw [List.findIdx?_eq_none_iff]; intro x hx; simpa using h x hx

theorem inv_mp {G : Gh} {w : World} {fr : Bool} {b : Nat} {c : Value} (h : R G w fr (.mp b) c) : ∃ k, c = .map (some k) ∧ G.m b 0 = some k := by
  cases h; exact ⟨_, rfl, by assumption⟩

theorem run_zero {et : TypeId} {zv : Value} (hz : (P.info? et).bind (·.zero) = some zv) (w : World) : (zeroValue et).run P w = .ok zv w := by
  cases hi : P.info? et with
  | none => rw [hi] at hz; cases hz
  | some i => rw [hi] at hz; simp only [Option.bind_some] at hz; simp [zeroValue, typeInfo, hi, hz]

theorem S_lookup {T kt et : TypeId} {x y : Operand} {b : Nat} {l : List (ByteArray × V)} {s : ByteArray} {zv : Value} (hT : P.underlying T = some (.map kt et)) (hkt : P.underlying kt = some .string) (hz : (P.info? et).bind (·.zero) = some zv)
    (hx : ev ge st.tm x = .mp b) (hb : st.h[b]? = some (.map (smap l))) (hy : ev ge st.tm y = .str s) (hn : (l.map (·.1)).Nodup) :
    OpS P ge st ⟨d, .lookup T x y false, t, p, af, g⟩ ((sget l s).getD (V.ofCell zv)) st.h := by
  refine OpS_pure fun G a w hr => ?_
  have hvx := hr.ev x
  have hvy := hr.ev y
  rw [hx] at hvx
  rw [hy] at hvy
  obtain ⟨k, hck, hm⟩ := inv_mp hvx
  have hcy := hvy.inv_str
  obtain ⟨h00, k', ents, clock, hm', hh, hs, hc⟩ := hr.rh.bl b _ hb
  rw [hm] at hm'; cases hm'
  obtain ⟨hks, hkey⟩ := ents_keys hs hc
  rcases findNow_spec (d := .string) (k := .string s) trivial ents.toList 0 hks with ⟨h1, h2⟩ | ⟨j, e, h1, h2, h3⟩
  · have hnone : sget l s = none := (find_none fun q hq e => by
      obtain ⟨j, hj⟩ := List.getElem?_of_mem hq
      have hl := (List.getElem?_eq_some_iff.1 hj).1
      have hl2 : j < ents.size := by rw [hs]; simpa [smap] using hl
      obtain ⟨q', h4, h5, _⟩ := hkey j ents[j] (Array.getElem?_eq_getElem hl2)
      rw [hj] at h4; cases h4
      exact h2 ents[j] (Array.getElem_mem_toList hl2) (by rw [h5, e])).1
    rw [hnone]
    refine ⟨zv, ?_, .ofCell zv⟩
    simp [execOp, Instr.lookup, hck, hcy, run_underlying hT, MapKept.run_getObj_map hh, MapKept.run_checkKey (d := .string) (k := .string s) hkt trivial, MapKept.run_findKey hkt h1, run_zero hz, Result.andThen]
  · obtain ⟨q, h4, h5, h6⟩ := hkey j e (by simpa using h2)
    have hqs : q.1 = s := by rw [h5] at h3; cases h3; rfl
    have := (find_at hn h4).1
    rw [hqs] at this
    rw [this]
    refine ⟨e.val, ?_, h6.weak rfl⟩
    simp [execOp, Instr.lookup, hck, hcy, run_underlying hT, MapKept.run_getObj_map hh, MapKept.run_checkKey (d := .string) (k := .string s) hkt trivial, MapKept.run_findKey hkt h1, Result.andThen]

theorem S_mapUpdate {T kt et : TypeId} {x y z : Operand} {b : Nat} {l : List (ByteArray × V)} {s : ByteArray} (hT : P.underlying T = some (.map kt et)) (hkt : P.underlying kt = some .string)
    (hx : ev ge st.tm x = .mp b) (hb : st.h[b]? = some (.map (smap l))) (hy : ev ge st.tm y = .str s) (hn : (l.map (·.1)).Nodup) (hv : (ev ge st.tm z).isF = true) :
    OpS P ge st ⟨d, .mapUpdate T x y z, t, p, af, g⟩ .void (st.h.set b (.map (smap (sput l s (ev ge st.tm z))))) := by
  intro G a w hr
  have hvx := hr.ev x
  have hvy := hr.ev y
  have hvz := (hr.ev z).frozen hv
  rw [hx] at hvx
  rw [hy] at hvy
  obtain ⟨k, hck, hm⟩ := inv_mp hvx
  have hcy := hvy.inv_str
  obtain ⟨h00, k', ents, clock, hm', hh, hs, hc⟩ := hr.rh.bl b _ hb
  rw [hm] at hm'; cases hm'
  obtain ⟨hks, hkey⟩ := ents_keys hs hc
  have hlt : k < w.heap.size := (Array.getElem?_eq_some_iff.1 hh).1
  have up : ∀ (ents' : Array MapEntry) (clock' : Nat) (l' : List (ByteArray × V)), ents'.size = l'.length →
      (∀ (i : Nat) (q : ByteArray × V) (c : MapEntry), l'[i]? = some q → ents'[i]? = some c → c.key = .string q.1 ∧ R G w true q.2 c.val) →
      RH P ge G (st.h.set b (.map (smap l'))) { w with heap := w.heap.setIfInBounds k (.map ents' clock') } ∧ Ext G st.h w G (st.h.set b (.map (smap l'))) { w with heap := w.heap.setIfInBounds k (.map ents' clock') } := by
    intro ents' clock' l' h1 h2
    have hother : ∀ k', k' ≠ k → (w.heap.setIfInBounds k (.map ents' clock'))[k']? = w.heap[k']? := (heap_set hh).2
    have le : GLe G w G { w with heap := w.heap.setIfInBounds k (.map ents' clock') } := ⟨fun _ => Nat.le_refl _, fun k' o ho => by
      by_cases e : k' = k
      · subst e
        simp [World.cell?, hh, (heap_set hh).1]
      · exact cell_eq (hother k' e), Nat.le_refl _, fun _ _ => Nat.le_refl _, fun _ _ _ _ => rfl, fun _ _ => rfl, fun _ _ _ _ => rfl⟩
    refine RH_upd hr.rh hb hm (by simp) hother rfl ⟨rfl, rfl⟩ le ⟨h00, k, ents', clock', hm, (heap_set hh).1, by simp [smap, h1], fun i e c he hcc => ?_⟩ hm
    rw [smap, List.getElem?_map] at he
    obtain ⟨q, hq, rfl⟩ := Option.map_eq_some_iff.1 he
    obtain ⟨h3, h4⟩ := h2 i q c hq hcc
    rw [h3]
    exact ⟨.str, h4.mono le⟩
  rcases findNow_spec (d := .string) (k := .string s) trivial ents.toList 0 hks with ⟨h1, h2⟩ | ⟨j, e, h1, h2, h3⟩
  · have hnone : l.findIdx? (fun p => p.1 = s) = none := (find_none fun q hq e => by
      obtain ⟨j, hj⟩ := List.getElem?_of_mem hq
      have hl := (List.getElem?_eq_some_iff.1 hj).1
      have hl2 : j < ents.size := by rw [hs]; simpa [smap] using hl
      obtain ⟨q', h4, h5, _⟩ := hkey j ents[j] (Array.getElem?_eq_getElem hl2)
      rw [hj] at h4; cases h4
      exact h2 ents[j] (Array.getElem_mem_toList hl2) (by rw [h5, e])).2
    have hsz : ents.size = l.length := by simpa [smap] using hs
    obtain ⟨r1, r2⟩ := up (ents.push { key := .string s, val := a.eval z, born := clock }) (clock + 1) (l ++ [(s, ev ge st.tm z)]) (by simp [hsz]) (fun i q c hq hcc => by
      rw [Array.getElem?_push] at hcc
      split at hcc
      · rename_i e
        cases hcc
        rw [hsz] at e
        subst e
        rw [List.getElem?_append_right (Nat.le_refl _), Nat.sub_self] at hq
        cases hq
        exact ⟨rfl, hvz⟩
      · have hi := (Array.getElem?_eq_some_iff.1 hcc).1
        rw [List.getElem?_append_left (by omega)] at hq
        obtain ⟨q', h4, h5, h6⟩ := hkey i c hcc
        rw [hq] at h4; cases h4
        exact ⟨h5, h6⟩)
    refine ⟨undef, G, { w with heap := w.heap.setIfInBounds k (.map (ents.push { key := .string s, val := a.eval z, born := clock }) (clock + 1)) }, .inr ⟨?_, rfl⟩, ?_, .void, ?_⟩
    rotate_left
    · unfold sput; rw [hnone]; exact r1
    · unfold sput; rw [hnone]; exact r2
    · simp [execOp, Instr.mapUpdate, hck, hcy, run_underlying hT, MapKept.run_getObj_map hh, MapKept.run_checkKey (d := .string) (k := .string s) hkt trivial, MapKept.run_findKey hkt h1, MapKept.run_setObj_map _ hh, Result.andThen]
  · have hj : ents[j]? = some e := by simpa using h2
    obtain ⟨q, h4, h5, h6⟩ := hkey j e hj
    have hqs : q.1 = s := by rw [h5] at h3; cases h3; rfl
    have hfi := (find_at hn h4).2
    rw [hqs] at hfi
    have hsz : ents.size = l.length := by simpa [smap] using hs
    have hjl := (List.getElem?_eq_some_iff.1 h4).1
    obtain ⟨r1, r2⟩ := up (ents.modify j fun e => { e with key := .string s, val := a.eval z }) clock (l.set j (s, ev ge st.tm z)) (by simp [hsz]) (fun i q' c hq hcc => by
      rw [Array.getElem?_modify] at hcc
      rw [List.getElem?_set] at hq
      split at hcc
      · rename_i e'
        subst e'
        rw [if_pos rfl, if_pos hjl] at hq
        rw [hj] at hcc
        cases hcc; cases hq
        exact ⟨rfl, hvz⟩
      · rename_i e'
        rw [if_neg e'] at hq
        obtain ⟨q'', h7, h8, h9⟩ := hkey i c hcc
        rw [hq] at h7; cases h7
        exact ⟨h8, h9⟩)
    refine ⟨undef, G, { w with heap := w.heap.setIfInBounds k (.map (ents.modify j fun e => { e with key := .string s, val := a.eval z }) clock) }, .inr ⟨?_, rfl⟩, ?_, .void, ?_⟩
    rotate_left
    · unfold sput; rw [hfi]; exact r1
    · unfold sput; rw [hfi]; exact r2
    · simp [execOp, Instr.mapUpdate, hck, hcy, run_underlying hT, MapKept.run_getObj_map hh, MapKept.run_checkKey (d := .string) (k := .string s) hkt trivial, MapKept.run_findKey hkt h1, hj, h3, MapKept.run_keyThatStays (d := .string) (k := .string s) trivial, MapKept.run_setObj_map _ hh, Result.andThen]

/-- An operation whose law is told by hand, in a walk. -/
theorem AS_op1 {ops : Array Oper} {op : Op} {rest : List Oper} {v : V} {h' : List B} (hd : dstOk st.n d = true) (ho : OpS P ge st ⟨d, op, t, p, af, none⟩ v h')
    (h : AO P ge ops Q rest ⟨st.n, putD d v st.tm, h'⟩) : AS P ge ops (⟨d, op, t, p, af, none⟩ :: rest) Q st := AS_op rfl hd ho (AS_of_AO h)
end
end Go.AM
end

section
set_option linter.unusedVariables false
namespace Go.Proofs.YtgmlimipejcpgaaGreatDoor
open Go Go.AM
/-! The measure of the statements' second form; the package variables; the words of all contracts of this seat. -/
theorem one_leB {H : Type} (d : DataW H) : 1 ≤ Rows.uptoBulk d := by
  cases d with
  | lit l => cases l <;> simp [Rows.uptoBulk]
  | nil => simp [Rows.uptoBulk]
  | ptr d => simp [Rows.uptoBulk]
  | slice elems spare => simp [Rows.uptoBulk]
  | agg parts => simp [Rows.uptoBulk]
  | iface t d => simp [Rows.uptoBulk]
  | map entries => simp [Rows.uptoBulk]
  | held h => simp [Rows.uptoBulk]
theorem part_leB {H : Type} {d : DataW H} {l : List (DataW H)} (h : d ∈ l) : Rows.uptoBulk d ≤ Rows.uptoBulkAll l := by
  induction l with
  | nil => cases h
  | cons x r ih =>
    simp only [Rows.uptoBulkAll]
    cases List.mem_cons.1 h with
    | inl e => subst e; omega
    | inr e => have := ih e; omega
theorem length_leB {H : Type} (l : List (DataW H)) : l.length ≤ Rows.uptoBulkAll l := by
  induction l with
  | nil => simp [Rows.uptoBulkAll]
  | cons x r ih => have := one_leB x; simp only [Rows.uptoBulkAll, List.length_cons]; omega
def KB : Bk where
  bk H d := Rows.uptoBulk d
  N := 1048576
  len es sp h := by
    simp only [Rows.uptoBulk] at h
    exact ⟨by have := length_leB es; omega, fun d hd => by have := part_leB hd; omega⟩
  agg ps h d hd := by
    simp only [Rows.uptoBulk] at h
    have := part_leB hd; omega
  str b h := by simp only [Rows.uptoBulk] at h; omega
def I64 (n : Int) : Prop := -9223372036854775808 ≤ n ∧ n ≤ 9223372036854775807
def I32 (n : Int) : Prop := -2147483648 ≤ n ∧ n ≤ 2147483647
theorem wf64 {n : Int} (h : (Lit.int .i64 n).wf = true) : I64 n := by
  have : -9223372036854775808 ≤ n ∧ n ≤ 9223372036854775807 := by simpa [Lit.wf, IntKind.min, IntKind.max, IntKind.signed, IntKind.bits] using h
  exact this
theorem wf32 {n : Int} (h : (Lit.int .i32 n).wf = true) : I32 n := by
  have : -2147483648 ≤ n ∧ n ≤ 2147483647 := by simpa [Lit.wf, IntKind.min, IntKind.max, IntKind.signed, IntKind.bits] using h
  exact this
theorem wfu8 {n : Int} (h : (Lit.int .u8 n).wf = true) : 0 ≤ n ∧ n ≤ 255 := by
  simpa [Lit.wf, IntKind.min, IntKind.max, IntKind.signed, IntKind.bits] using h
theorem wrap_i64 {n : Int} (h1 : -9223372036854775808 ≤ n) (h2 : n ≤ 9223372036854775807) : IntKind.i64.wrap n = n := by
  unfold IntKind.wrap; simp [IntKind.bits, IntKind.signed]; omega
theorem wrap_u8 {n : Int} (h1 : 0 ≤ n) (h2 : n ≤ 255) : IntKind.u8.wrap n = n := by
  unfold IntKind.wrap; simp [IntKind.bits, IntKind.signed]; omega
theorem mixed : Tryz.prog.follows .mixedOrders = true := by decide
/-- A slice of data. -/
def vl {α : Type} (c : α → List V) (l : List α) : V := .vec (l.map c) l.length
def big (n : Nat) : Prop := n ≤ 1099511627776
end Go.Proofs.YtgmlimipejcpgaaGreatDoor
end

section
set_option linter.unusedVariables false
namespace Go.Proofs.YtgmlimipejcpgaaGreatDoor
open Go Go.AM

theorem zco9 : Tryz.prog.cellsOf 9 = 1 := by kernel_rfl
structure VarD where
  name : ByteArray
  lo : Int
  hi : Int
  init : Int
  deriving DecidableEq, Inhabited
def VarD.cells (x : VarD) : List V := [.str x.name, .int .i64 x.lo, .int .i64 x.hi, .int .i64 x.init]
def VarD.ok (x : VarD) : Prop := x.name.size ≤ 1048576 ∧ I64 x.lo ∧ I64 x.hi ∧ I64 x.init
theorem zco3 : Tryz.prog.cellsOf 3 = 1 := by kernel_rfl
theorem zco167 : Tryz.prog.cellsOf 167 = 4 := by kernel_rfl
theorem rnVarD : RdN KB Tryz.prog 167 VarD.cells VarD.ok :=
  (RdN_struct Tryz.underlying167 zco167 (RdNs_cons rfl zco9 (RdN_string Tryz.underlying9) (fun _ => rfl) (RdNs_cons rfl zco3 (RdN_int Tryz.underlying3) (fun _ => rfl) (RdNs_cons rfl zco3 (RdN_int Tryz.underlying3) (fun _ => rfl) (RdNs_cons rfl zco3 (RdN_int Tryz.underlying3) (fun _ => rfl) (RdNs_nil rfl)))))).map
    (fun p => ⟨p.1, p.2.1, p.2.2.1, p.2.2.2.1⟩) (fun _ => rfl) (fun p h => ⟨(h.1).2, wf64 h.2.1, wf64 h.2.2.1, wf64 h.2.2.2.1⟩)
@[simp] theorem VarD.cells_len (x : VarD) : x.cells.length = 4 := rfl
structure GuardD where
  clock : Int
  other : Int
  cmp : Int
  n : Int
  deriving DecidableEq, Inhabited
def GuardD.cells (x : GuardD) : List V := [.int .i64 x.clock, .int .i64 x.other, .int .u8 x.cmp, .int .i64 x.n]
def GuardD.ok (x : GuardD) : Prop := I64 x.clock ∧ I64 x.other ∧ (0 ≤ x.cmp ∧ x.cmp ≤ 255) ∧ I64 x.n
theorem zco125 : Tryz.prog.cellsOf 125 = 1 := by kernel_rfl
theorem zco127 : Tryz.prog.cellsOf 127 = 4 := by kernel_rfl
theorem rnGuardD : RdN KB Tryz.prog 127 GuardD.cells GuardD.ok :=
  (RdN_struct Tryz.underlying127 zco127 (RdNs_cons rfl zco3 (RdN_int Tryz.underlying3) (fun _ => rfl) (RdNs_cons rfl zco3 (RdN_int Tryz.underlying3) (fun _ => rfl) (RdNs_cons rfl zco125 (RdN_int Tryz.underlying125) (fun _ => rfl) (RdNs_cons rfl zco3 (RdN_int Tryz.underlying3) (fun _ => rfl) (RdNs_nil rfl)))))).map
    (fun p => ⟨p.1, p.2.1, p.2.2.1, p.2.2.2.1⟩) (fun _ => rfl) (fun p h => ⟨wf64 h.1, wf64 h.2.1, wfu8 h.2.2.1, wf64 h.2.2.2.1⟩)
@[simp] theorem GuardD.cells_len (x : GuardD) : x.cells.length = 4 := rfl
structure LocD where
  name : ByteArray
  kind : Int
  inv : List GuardD
  deriving DecidableEq, Inhabited
def LocD.cells (x : LocD) : List V := [.str x.name, .int .u8 x.kind, vl GuardD.cells x.inv]
def LocD.ok (x : LocD) : Prop := x.name.size ≤ 1048576 ∧ (0 ≤ x.kind ∧ x.kind ≤ 255) ∧ (x.inv.length ≤ 1048576 ∧ ∀ a ∈ x.inv, a.ok)
theorem zco106 : Tryz.prog.cellsOf 106 = 1 := by kernel_rfl
theorem zco105 : Tryz.prog.cellsOf 105 = 1 := by kernel_rfl
theorem zco108 : Tryz.prog.cellsOf 108 = 3 := by kernel_rfl
theorem rnLocD : RdN KB Tryz.prog 108 LocD.cells LocD.ok :=
  (RdN_struct Tryz.underlying108 zco108 (RdNs_cons rfl zco9 (RdN_string Tryz.underlying9) (fun _ => rfl) (RdNs_cons rfl zco105 (RdN_int Tryz.underlying105) (fun _ => rfl) (RdNs_cons rfl zco106 (RdN_slice Tryz.underlying106 (by rw [zco127]; decide) rnGuardD (fun _ => by rw [zco127]; rfl)) (fun _ => rfl) (RdNs_nil rfl))))).map
    (fun p => ⟨p.1, p.2.1, p.2.2.1⟩) (fun _ => rfl) (fun p h => ⟨(h.1).2, wfu8 h.2.1, ⟨(h.2.2.1).1, fun a ha => ((h.2.2.1).2 a ha)⟩⟩)
@[simp] theorem LocD.cells_len (x : LocD) : x.cells.length = 3 := rfl
structure NodeD where
  op : Int
  n : Int
  deriving DecidableEq, Inhabited
def NodeD.cells (x : NodeD) : List V := [.int .u8 x.op, .int .i64 x.n]
def NodeD.ok (x : NodeD) : Prop := (0 ≤ x.op ∧ x.op ≤ 255) ∧ I64 x.n
theorem zco162 : Tryz.prog.cellsOf 162 = 1 := by kernel_rfl
theorem zco164 : Tryz.prog.cellsOf 164 = 2 := by kernel_rfl
theorem rnNodeD : RdN KB Tryz.prog 164 NodeD.cells NodeD.ok :=
  (RdN_struct Tryz.underlying164 zco164 (RdNs_cons rfl zco162 (RdN_int Tryz.underlying162) (fun _ => rfl) (RdNs_cons rfl zco3 (RdN_int Tryz.underlying3) (fun _ => rfl) (RdNs_nil rfl)))).map
    (fun p => ⟨p.1, p.2.1⟩) (fun _ => rfl) (fun p h => ⟨wfu8 h.1, wf64 h.2.1⟩)
@[simp] theorem NodeD.cells_len (x : NodeD) : x.cells.length = 2 := rfl
structure SetD where
  clock : Int
  n : Int
  var : Int
  expr : List NodeD
  deriving DecidableEq, Inhabited
def SetD.cells (x : SetD) : List V := [.int .i64 x.clock, .int .i64 x.n, .int .i64 x.var, vl NodeD.cells x.expr]
def SetD.ok (x : SetD) : Prop := I64 x.clock ∧ I64 x.n ∧ I64 x.var ∧ (x.expr.length ≤ 1048576 ∧ ∀ a ∈ x.expr, a.ok)
theorem zco110 : Tryz.prog.cellsOf 110 = 1 := by kernel_rfl
theorem zco116 : Tryz.prog.cellsOf 116 = 4 := by kernel_rfl
theorem rnSetD : RdN KB Tryz.prog 116 SetD.cells SetD.ok :=
  (RdN_struct Tryz.underlying116 zco116 (RdNs_cons rfl zco3 (RdN_int Tryz.underlying3) (fun _ => rfl) (RdNs_cons rfl zco3 (RdN_int Tryz.underlying3) (fun _ => rfl) (RdNs_cons rfl zco3 (RdN_int Tryz.underlying3) (fun _ => rfl) (RdNs_cons rfl zco110 (RdN_slice Tryz.underlying110 (by rw [zco164]; decide) rnNodeD (fun _ => by rw [zco164]; rfl)) (fun _ => rfl) (RdNs_nil rfl)))))).map
    (fun p => ⟨p.1, p.2.1, p.2.2.1, p.2.2.2.1⟩) (fun _ => rfl) (fun p h => ⟨wf64 h.1, wf64 h.2.1, wf64 h.2.2.1, ⟨(h.2.2.2.1).1, fun a ha => ((h.2.2.2.1).2 a ha)⟩⟩)
@[simp] theorem SetD.cells_len (x : SetD) : x.cells.length = 4 := rfl
structure EdgeD where
  frm : Int
  to : Int
  guards : List GuardD
  test : List NodeD
  chan : Int
  send : Bool
  sets : List SetD
  deriving DecidableEq, Inhabited
def EdgeD.cells (x : EdgeD) : List V := [.int .i64 x.frm, .int .i64 x.to, vl GuardD.cells x.guards, vl NodeD.cells x.test, .int .i64 x.chan, .bool x.send, vl SetD.cells x.sets]
def EdgeD.ok (x : EdgeD) : Prop := I64 x.frm ∧ I64 x.to ∧ (x.guards.length ≤ 1048576 ∧ ∀ a ∈ x.guards, a.ok) ∧ (x.test.length ≤ 1048576 ∧ ∀ a ∈ x.test, a.ok) ∧ I64 x.chan ∧ True ∧ (x.sets.length ≤ 1048576 ∧ ∀ a ∈ x.sets, a.ok)
theorem zco111 : Tryz.prog.cellsOf 111 = 1 := by kernel_rfl
theorem zco4 : Tryz.prog.cellsOf 4 = 1 := by kernel_rfl
theorem zco113 : Tryz.prog.cellsOf 113 = 7 := by kernel_rfl
theorem rnEdgeD : RdN KB Tryz.prog 113 EdgeD.cells EdgeD.ok :=
  (RdN_struct Tryz.underlying113 zco113 (RdNs_cons rfl zco3 (RdN_int Tryz.underlying3) (fun _ => rfl) (RdNs_cons rfl zco3 (RdN_int Tryz.underlying3) (fun _ => rfl) (RdNs_cons rfl zco106 (RdN_slice Tryz.underlying106 (by rw [zco127]; decide) rnGuardD (fun _ => by rw [zco127]; rfl)) (fun _ => rfl) (RdNs_cons rfl zco110 (RdN_slice Tryz.underlying110 (by rw [zco164]; decide) rnNodeD (fun _ => by rw [zco164]; rfl)) (fun _ => rfl) (RdNs_cons rfl zco3 (RdN_int Tryz.underlying3) (fun _ => rfl) (RdNs_cons rfl zco4 (RdN_bool Tryz.underlying4) (fun _ => rfl) (RdNs_cons rfl zco111 (RdN_slice Tryz.underlying111 (by rw [zco116]; decide) rnSetD (fun _ => by rw [zco116]; rfl)) (fun _ => rfl) (RdNs_nil rfl))))))))).map
    (fun p => ⟨p.1, p.2.1, p.2.2.1, p.2.2.2.1, p.2.2.2.2.1, p.2.2.2.2.2.1, p.2.2.2.2.2.2.1⟩) (fun _ => rfl) (fun p h => ⟨wf64 h.1, wf64 h.2.1, ⟨(h.2.2.1).1, fun a ha => ((h.2.2.1).2 a ha)⟩, ⟨(h.2.2.2.1).1, fun a ha => ((h.2.2.2.1).2 a ha)⟩, wf64 h.2.2.2.2.1, trivial, ⟨(h.2.2.2.2.2.2.1).1, fun a ha => ((h.2.2.2.2.2.2.1).2 a ha)⟩⟩)
@[simp] theorem EdgeD.cells_len (x : EdgeD) : x.cells.length = 7 := rfl
structure AutoD where
  name : ByteArray
  locs : List LocD
  edges : List EdgeD
  deriving DecidableEq, Inhabited
def AutoD.cells (x : AutoD) : List V := [.str x.name, vl LocD.cells x.locs, vl EdgeD.cells x.edges]
def AutoD.ok (x : AutoD) : Prop := x.name.size ≤ 1048576 ∧ (x.locs.length ≤ 1048576 ∧ ∀ a ∈ x.locs, a.ok) ∧ (x.edges.length ≤ 1048576 ∧ ∀ a ∈ x.edges, a.ok)
theorem zco102 : Tryz.prog.cellsOf 102 = 1 := by kernel_rfl
theorem zco101 : Tryz.prog.cellsOf 101 = 1 := by kernel_rfl
theorem zco104 : Tryz.prog.cellsOf 104 = 3 := by kernel_rfl
theorem rnAutoD : RdN KB Tryz.prog 104 AutoD.cells AutoD.ok :=
  (RdN_struct Tryz.underlying104 zco104 (RdNs_cons rfl zco9 (RdN_string Tryz.underlying9) (fun _ => rfl) (RdNs_cons rfl zco101 (RdN_slice Tryz.underlying101 (by rw [zco108]; decide) rnLocD (fun _ => by rw [zco108]; rfl)) (fun _ => rfl) (RdNs_cons rfl zco102 (RdN_slice Tryz.underlying102 (by rw [zco113]; decide) rnEdgeD (fun _ => by rw [zco113]; rfl)) (fun _ => rfl) (RdNs_nil rfl))))).map
    (fun p => ⟨p.1, p.2.1, p.2.2.1⟩) (fun _ => rfl) (fun p h => ⟨(h.1).2, ⟨(h.2.1).1, fun a ha => ((h.2.1).2 a ha)⟩, ⟨(h.2.2.1).1, fun a ha => ((h.2.2.1).2 a ha)⟩⟩)
@[simp] theorem AutoD.cells_len (x : AutoD) : x.cells.length = 3 := rfl
structure NetD where
  clocks : List ByteArray
  vars : List VarD
  chans : List ByteArray
  autos : List AutoD
  deriving DecidableEq, Inhabited
def NetD.cells (x : NetD) : List V := [vl (fun x => [.str x]) x.clocks, vl VarD.cells x.vars, vl (fun x => [.str x]) x.chans, vl AutoD.cells x.autos]
def NetD.ok (x : NetD) : Prop := (x.clocks.length ≤ 1048576 ∧ ∀ a ∈ x.clocks, a.size ≤ 1048576) ∧ (x.vars.length ≤ 1048576 ∧ ∀ a ∈ x.vars, a.ok) ∧ (x.chans.length ≤ 1048576 ∧ ∀ a ∈ x.chans, a.size ≤ 1048576) ∧ (x.autos.length ≤ 1048576 ∧ ∀ a ∈ x.autos, a.ok)
theorem zco24 : Tryz.prog.cellsOf 24 = 1 := by kernel_rfl
theorem zco22 : Tryz.prog.cellsOf 22 = 1 := by kernel_rfl
theorem zco23 : Tryz.prog.cellsOf 23 = 1 := by kernel_rfl
theorem zco26 : Tryz.prog.cellsOf 26 = 4 := by kernel_rfl
theorem rnNetD : RdN KB Tryz.prog 26 NetD.cells NetD.ok :=
  (RdN_struct Tryz.underlying26 zco26 (RdNs_cons rfl zco22 (RdN_slice Tryz.underlying22 (by rw [zco9]; decide) (RdN_string Tryz.underlying9) (fun _ => by rw [zco9]; rfl)) (fun _ => rfl) (RdNs_cons rfl zco23 (RdN_slice Tryz.underlying23 (by rw [zco167]; decide) rnVarD (fun _ => by rw [zco167]; rfl)) (fun _ => rfl) (RdNs_cons rfl zco22 (RdN_slice Tryz.underlying22 (by rw [zco9]; decide) (RdN_string Tryz.underlying9) (fun _ => by rw [zco9]; rfl)) (fun _ => rfl) (RdNs_cons rfl zco24 (RdN_slice Tryz.underlying24 (by rw [zco104]; decide) rnAutoD (fun _ => by rw [zco104]; rfl)) (fun _ => rfl) (RdNs_nil rfl)))))).map
    (fun p => ⟨p.1, p.2.1, p.2.2.1, p.2.2.2.1⟩) (fun _ => rfl) (fun p h => ⟨⟨(h.1).1, fun a ha => (((h.1).2 a ha)).2⟩, ⟨(h.2.1).1, fun a ha => ((h.2.1).2 a ha)⟩, ⟨(h.2.2.1).1, fun a ha => (((h.2.2.1).2 a ha)).2⟩, ⟨(h.2.2.2.1).1, fun a ha => ((h.2.2.2.1).2 a ha)⟩⟩)
@[simp] theorem NetD.cells_len (x : NetD) : x.cells.length = 4 := rfl
structure AtD where
  auto : Int
  loc : Int
  deriving DecidableEq, Inhabited
def AtD.cells (x : AtD) : List V := [.int .i64 x.auto, .int .i64 x.loc]
def AtD.ok (x : AtD) : Prop := I64 x.auto ∧ I64 x.loc
theorem zco171 : Tryz.prog.cellsOf 171 = 2 := by kernel_rfl
theorem rnAtD : RdN KB Tryz.prog 171 AtD.cells AtD.ok :=
  (RdN_struct Tryz.underlying171 zco171 (RdNs_cons rfl zco3 (RdN_int Tryz.underlying3) (fun _ => rfl) (RdNs_cons rfl zco3 (RdN_int Tryz.underlying3) (fun _ => rfl) (RdNs_nil rfl)))).map
    (fun p => ⟨p.1, p.2.1⟩) (fun _ => rfl) (fun p h => ⟨wf64 h.1, wf64 h.2.1⟩)
@[simp] theorem AtD.cells_len (x : AtD) : x.cells.length = 2 := rfl
structure PartD where
  locs : List AtD
  guards : List GuardD
  test : List NodeD
  deriving DecidableEq, Inhabited
def PartD.cells (x : PartD) : List V := [vl AtD.cells x.locs, vl GuardD.cells x.guards, vl NodeD.cells x.test]
def PartD.ok (x : PartD) : Prop := (x.locs.length ≤ 1048576 ∧ ∀ a ∈ x.locs, a.ok) ∧ (x.guards.length ≤ 1048576 ∧ ∀ a ∈ x.guards, a.ok) ∧ (x.test.length ≤ 1048576 ∧ ∀ a ∈ x.test, a.ok)
theorem zco128 : Tryz.prog.cellsOf 128 = 1 := by kernel_rfl
theorem zco130 : Tryz.prog.cellsOf 130 = 3 := by kernel_rfl
theorem rnPartD : RdN KB Tryz.prog 130 PartD.cells PartD.ok :=
  (RdN_struct Tryz.underlying130 zco130 (RdNs_cons rfl zco128 (RdN_slice Tryz.underlying128 (by rw [zco171]; decide) rnAtD (fun _ => by rw [zco171]; rfl)) (fun _ => rfl) (RdNs_cons rfl zco106 (RdN_slice Tryz.underlying106 (by rw [zco127]; decide) rnGuardD (fun _ => by rw [zco127]; rfl)) (fun _ => rfl) (RdNs_cons rfl zco110 (RdN_slice Tryz.underlying110 (by rw [zco164]; decide) rnNodeD (fun _ => by rw [zco164]; rfl)) (fun _ => rfl) (RdNs_nil rfl))))).map
    (fun p => ⟨p.1, p.2.1, p.2.2.1⟩) (fun _ => rfl) (fun p h => ⟨⟨(h.1).1, fun a ha => ((h.1).2 a ha)⟩, ⟨(h.2.1).1, fun a ha => ((h.2.1).2 a ha)⟩, ⟨(h.2.2.1).1, fun a ha => ((h.2.2.1).2 a ha)⟩⟩)
@[simp] theorem PartD.cells_len (x : PartD) : x.cells.length = 3 := rfl
end Go.Proofs.YtgmlimipejcpgaaGreatDoor
end
