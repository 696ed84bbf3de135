/-
  YtbgooadmonnjaaaGreatDoorRs00: steps of the proof of a law of the program: what these texts prove holds under the hypotheses that their theorems name, and no others.
-/
import Derived.Test.YtbgooadmonnjaaaGreatDoorProg
import Derived.Test.YtbgooadmonnjaaaGreatDoorRc07
import Derived.Test.YtbgooadmonnjaaaGreatDoorRc06
import Derived.Test.YtbgooadmonnjaaaGreatDoorRc05
import Derived.Test.YtbgooadmonnjaaaGreatDoorRc04
import Derived.Test.YtbgooadmonnjaaaGreatDoorRc03
import Derived.Test.YtbgooadmonnjaaaGreatDoorRc02
import Derived.Test.YtbgooadmonnjaaaGreatDoorRc01
import Derived.Test.YtbgooadmonnjaaaGreatDoorRc00
import Derived.Tactics
import Derived.Below
import Derived.Laws.AppendOwn
import Derived.Laws.CopyRow
import Derived.Laws.Rows
import Derived.Laws.Entries
import Derived.Laws.StructEq
import Derived.ChangeKeysEq
import Derived.Laws.IdiomStrings
import Derived.KernelRfl
import Derived.Test.YtbgooadmonnjaaaGreatDoorRc08
import Derived.Test.YtbgooadmonnjaaaGreatDoorRc12
import Derived.Test.YtbgooadmonnjaaaGreatDoorRc11
import Derived.Test.YtbgooadmonnjaaaGreatDoorRc10
import Derived.Test.YtbgooadmonnjaaaGreatDoorRc09
import Derived.Orders
import Derived.Scope
import Derived.MapKept
import Derived.Test.YtbgooadmonnjaaaGreatDoorRc19
import Derived.Test.YtbgooadmonnjaaaGreatDoorRc18
import Derived.Test.YtbgooadmonnjaaaGreatDoorRc17
import Derived.Test.YtbgooadmonnjaaaGreatDoorRc16
import Derived.ChangeSlices
import Derived.Test.YtbgooadmonnjaaaGreatDoorRows
import Derived.Test.YtbgooadmonnjaaaGreatDoorRc15
import Derived.Test.YtbgooadmonnjaaaGreatDoorRc13
import Derived.Test.YtbgooadmonnjaaaGreatDoorRc14
import Derived.Lib.AppendZeros
import Derived.Laws.IdiomCopy
import Derived.Test.YtbgooadmonnjaaaGreatDoorRc24
import Derived.Test.YtbgooadmonnjaaaGreatDoorRc21
import Derived.Test.YtbgooadmonnjaaaGreatDoorRc20
import Derived.Shelf.Spec.BitsCarry
section
set_option maxRecDepth 100000
namespace Go.Proofs.YtbgooadmonnjaaaGreatDoor
open Go.AM
namespace Fx
@[simp] theorem sz2 : szOf Tryz.prog 2 = 1 := by kernel_rfl
@[simp] theorem es71 : elemSz Tryz.prog 71 = 2 := by kernel_rfl
@[simp] theorem al71 : arrLen Tryz.prog 71 = some 2 := by kernel_rfl
@[simp] theorem sz157 : szOf Tryz.prog 157 = 2 := by kernel_rfl
@[simp] theorem zo157 : (zeroOf Tryz.prog 157).isSome = true := by kernel_rfl
@[simp] theorem zd157 : zeroD Tryz.prog 157 = [(.int .u64 0), (.int .u64 0)] := by kernel_rfl
@[simp] theorem ia157 : isAggT Tryz.prog 157 = true := by kernel_rfl
@[simp] theorem ss157 : isStructT Tryz.prog 157 = true := by kernel_rfl
@[simp] theorem fk157 : fldOk Tryz.prog 157 = true := by kernel_rfl
@[simp] theorem eqk157 : eqKinds Tryz.prog 157 = some [.int, .int] := by kernel_rfl
@[simp] theorem fo157_0 : fieldOff Tryz.prog 157 0 = some 0 := by kernel_rfl
@[simp] theorem fo157_1 : fieldOff Tryz.prog 157 1 = some 1 := by kernel_rfl
@[simp] theorem fi157_0 : fInfo Tryz.prog 157 0 = some (0, 1) := by kernel_rfl
@[simp] theorem fi157_1 : fInfo Tryz.prog 157 1 = some (1, 1) := by kernel_rfl
end Fx
end Go.Proofs.YtbgooadmonnjaaaGreatDoor
end
section
set_option linter.unusedVariables false
set_option linter.unusedSimpArgs false
namespace Go.AM
section
variable {P : Program} {ge : GEnv} {st : St} {Q : Exit → St → Prop} {G : Gh} {w : World}
variable {d : Option Tmp} {t : TypeId} {p : String} {af : Array Edge}
theorem seen_ext {h : List B} {v : V} (e : List B) (hl : v.lt h.length = true) : seenV (h ++ e) v = seenV h v := by
  cases v <;> try rfl
  rename_i b g off len
  have hb : b < h.length := by simpa [V.lt] using hl
  unfold seenV
  simp only [List.getElem?_append_left hb]
end
end Go.AM
end
section
set_option linter.unusedVariables false
set_option linter.unusedSimpArgs false
namespace Go.AM
section
variable {P : Program} {ge : GEnv} {st st' : St} {Q : Exit → St → Prop} {ops : Array Oper}
theorem get_ext {h e : List B} {b : Nat} (hb : b < h.length) : (h ++ e)[b]? = h[b]? := List.getElem?_append_left hb
theorem place_ext {h e : List B} {v : V} (hv : v.lt h.length = true) : place (h ++ e) v = place h v := by
  cases v <;> simp only [place]
  all_goals (simp only [V.lt, decide_eq_true_eq] at hv; rw [get_ext hv])
/-- Blocks laid behind the heap change no operation that does not look at them. -/
theorem op_ext {op : Op} (hs : stillOp op = true) (e : List B) (hl : ∀ x ∈ op.operands, (ev ge st.tm x).lt st.h.length = true) (ho : opOk P ge st op) :
    opOk P ge ⟨st.n, st.tm, st.h ++ e⟩ op ∧ (opVal P ge ⟨st.n, st.tm, st.h ++ e⟩ op).1 = (opVal P ge st op).1 := by
  unfold stillOp at hs
  split at hs
  case h_5 T x =>
    have := hl x (by simp [Op.operands])
    simp only [opOk, opVal, loadGood, loadVal] at ho ⊢
    rw [place_ext this]; exact ⟨ho, rfl⟩
  case h_9 s T x =>
    have := hl x (by simp [Op.operands])
    simp only [opOk, opVal] at ho ⊢
    generalize ev ge st.tm x = v at *
    cases v <;> first
      | exact ⟨ho, rfl⟩
      | (have hb := of_decide_eq_true this
         simp only [convGood, convVal, get_ext hb] at ho ⊢
         first | exact ⟨ho, rfl⟩ | exact ⟨ho, trivial⟩)
  case h_11 s x y =>
    have := hl x (by simp [Op.operands])
    simp only [opOk, opVal] at ho ⊢
    generalize ev ge st.tm x = v at *
    cases v <;> first
      | exact ⟨ho, rfl⟩
      | (have hb := of_decide_eq_true this
         simp only [idxGood, idxVal, get_ext hb] at ho ⊢
         first | exact ⟨ho, rfl⟩ | exact ⟨ho, trivial⟩)
  case h_15 T x lo hi =>
    have := hl x (by simp [Op.operands])
    simp only [opOk, opVal] at ho ⊢
    generalize ev ge st.tm x = v at *
    cases v <;> first
      | exact ⟨ho, rfl⟩
      | (have hb := of_decide_eq_true this
         simp only [sliceGood, sliceVal, get_ext hb] at ho ⊢
         first | exact ⟨ho, rfl⟩ | exact ⟨ho, trivial⟩)
  all_goals first
    | exact ⟨ho, rfl⟩
    | cases hs
theorem Core.ext {op : Op} {v : V} (e : List B) (hl : ∀ x ∈ op.operands, (ev ge st.tm x).lt st.h.length = true) (hc : Core P ge st op v) : Core P ge ⟨st.n, st.tm, st.h ++ e⟩ op v := by
  rcases hc with ⟨h1, h2, h3⟩ | h
  · obtain ⟨h4, h5⟩ := op_ext h1 e hl h2
    exact .inl ⟨h1, h4, h3.trans h5.symm⟩
  · rcases h with h | h | ⟨x, xs, ts, f, args', rfl, h1, h2, h3, h4⟩ | ⟨x, xs, ts, f, rfl, h1, h2, h3⟩
    · exact .inr (.inl h)
    · exact .inr (.inr (.inl h))
    · refine .inr (.inr (.inr (.inl ⟨x, xs, ts, f, args', rfl, h1, h2, ?_, h4⟩)))
      rw [← h3]
      refine List.map_congr_left fun y hy => seen_ext e ?_
      obtain ⟨z, hz, rfl⟩ := List.mem_map.1 hy
      exact hl z (by simp [Op.operands, Call.operands]; right; simpa using hz)
    · exact .inr (.inr (.inr (.inr ⟨x, xs, ts, f, rfl, h1, fun e2 => by have := h2 (e ++ e2); rw [← List.append_assoc] at this; exact this, h3⟩)))
theorem PStep.ext {o : Oper} {v : V} (hc : PStep P ge ops st o v) (e : List B) (hl : ∀ x ∈ o.op.operands, (ev ge st.tm x).lt st.h.length = true) : PStep P ge ops ⟨st.n, st.tm, st.h ++ e⟩ o v := by
  unfold PStep at hc ⊢
  split at hc
  · exact hc.ext e hl
  · obtain ⟨dj, h1, h2, h3, h4, h5⟩ := hc
    exact ⟨dj, h1, h2, h3, fun h => (h4 h).ext e hl, h5⟩
/-- A run in order; the operation j0 makes a variable. -/
def RunA (P : Program) (ge : GEnv) (ops : Array Oper) (j0 : Nat) (zs : List V) : Nat → St → List Oper → List V → Prop
  | _, _, [], [] => True
  | i, st, o :: r, v :: vs => dstOk st.n o.dst = true ∧
      (if i = j0 then (∃ e, o.op = .alloc e ∧ o.guard = none ∧ zeroOf P e = some zs ∧ v = .ptr st.h.length 0) else PStep P ge ops st o v ∧ ∀ x ∈ o.op.operands, (ev ge st.tm x).lt st.h.length = true) ∧
      RunA P ge ops j0 zs (i + 1) { st with tm := putD o.dst v st.tm } r vs
  | _, _, _, _ => False
theorem RunA.len {j0 : Nat} {zs : List V} : ∀ {l : List Oper} {vs : List V} {st : St} {s : Nat}, RunA P ge ops j0 zs s st l vs → vs.length = l.length
  | [], [], _, _, _ => rfl
  | [], _ :: _, _, _, h => h.elim
  | _ :: _, [], _, _, h => h.elim
  | o :: r, v :: vs, st, s, h => by simp [RunA.len h.2.2]
theorem RunA.at {j0 : Nat} {zs : List V} : ∀ {l : List Oper} {vs : List V} {st : St} {s i : Nat} {o : Oper}, RunA P ge ops j0 zs s st l vs → l[i]? = some o →
    (if s + i = j0 then (∃ e, o.op = .alloc e ∧ o.guard = none ∧ zeroOf P e = some zs ∧ vs.getD i .junk = .ptr (fin st (l.take i) (vs.take i)).h.length 0)
      else PStep P ge ops (fin st (l.take i) (vs.take i)) o (vs.getD i .junk) ∧ ∀ x ∈ o.op.operands, (ev ge (fin st (l.take i) (vs.take i)).tm x).lt (fin st (l.take i) (vs.take i)).h.length = true) ∧ dstOk st.n o.dst = true
  | [], _, _, _, _, _, _, h => by simp at h
  | _ :: _, [], _, _, _, _, h, _ => h.elim
  | o :: r, v :: vs, st, s, 0, o', h, ho => by
    simp at ho; subst ho
    simp only [List.take_zero, fin, Nat.add_zero]
    exact ⟨by simpa using h.2.1, h.1⟩
  | o :: r, v :: vs, st, s, i + 1, o', h, ho => by
    obtain ⟨h1, h2⟩ := RunA.at (i := i) h.2.2 (by simpa using ho)
    simp only [List.take_succ_cons, fin]
    rw [show s + (i + 1) = s + 1 + i by omega]
    exact ⟨by simpa using h1, h2⟩
structure DInvA (ops : Array Oper) (k : Nat) (st0 : St) (vs : List V) (listed : Array Bool) (S : St) : Prop where
  n : S.n = st0.n
  one : ∀ (i : Nat) (o : Oper) (t : Nat), i < k → ops[i]? = some o → o.dst = some t → listed.getD i false = true → lk S.tm t = vs.getD i .junk
  old : ∀ (t : Nat), (∀ (i : Nat) (o : Oper), i < k → ops[i]? = some o → listed.getD i false = true → o.dst ≠ some t) → lk S.tm t = lk st0.tm t
  closed : ∀ (j : Nat) (o : Oper), ops[j]? = some o → listed.getD j false = true → ∀ e ∈ o.after, Region.binds .any e = true → listed.getD e.on false = true
  size : listed.size = ops.size
/-- What is looked at is the same as in order. -/
theorem DInvA.look {k : Nat} {st0 S : St} {vs : List V} {listed : Array Bool} (hd : DrawOk ops k) (hlen : vs.length = (ops.toList.take k).length) (hI : DInvA ops k st0 vs listed S)
    {i : Nat} {o : Oper} (hi : i < k) (ho : ops[i]? = some o) (hready : i ∈ Region.ready .any ops listed) :
    ∀ t ∈ o.looksAt ops, lk S.tm t = lk (fin st0 ((ops.toList.take k).take i) (vs.take i)).tm t := by
  intro t ht
  obtain ⟨hni, o', ho', haft⟩ := mem_ready.1 hready
  rw [ho] at ho'; cases ho'
  have hlt := (Array.getElem?_eq_some_iff.1 ho).1
  rw [getD_tf hI.size hlt] at hni
  have hap := apart_take hd
  by_cases hw : ∃ j oj, j < i ∧ ops[j]? = some oj ∧ oj.dst = some t
  · obtain ⟨j, oj, hji, hoj, hdst⟩ := hw
    have hb := (hd.apart j i oj o t (by omega) hi (by omega) hoj ho hdst).2 ht
    have hl : listed.getD j false = true := by
      rcases hb with hb | hb
      · obtain ⟨e, he, hbi, rfl⟩ := beforeB_spec hb
        exact haft e he hbi
      · obtain ⟨e, he, hbi, rfl⟩ := beforeB_spec hb
        have := hd.down j oj hoj e he hbi
        omega
    rw [hI.one j oj t (by omega) hoj hdst hl]
    have h1 : ((ops.toList.take k).take i)[j]? = some oj := by rw [List.getElem?_take_of_lt hji]; exact take_get (by omega) hoj
    rw [fin_new _ _ _ j oj t (by simp [hlen]) (apart_mono hap i) h1 hdst]
    simp [List.getD, List.getElem?_take_of_lt hji]
  · have h1 : lk (fin st0 ((ops.toList.take k).take i) (vs.take i)).tm t = lk st0.tm t := by
      refine fin_old _ _ _ t fun x hx hdx => ?_
      obtain ⟨j, hj⟩ := List.getElem?_of_mem hx
      rw [List.getElem?_take] at hj
      split at hj
      · rename_i hji
        exact hw ⟨j, x, hji, (get_take hj).2, hdx⟩
      · cases hj
    rw [h1]
    refine hI.old t fun j oj hjk hoj hlj hdst => ?_
    rcases Nat.lt_trichotomy j i with h2 | h2 | h2
    · exact hw ⟨j, oj, h2, hoj, hdst⟩
    · subst h2; rw [hni] at hlj; cases hlj
    · rcases (hd.apart j i oj o t hjk hi (by omega) hoj ho hdst).2 ht with hb | hb
      · obtain ⟨e, he, hbi, rfl⟩ := beforeB_spec hb
        have := hd.down i o ho e he hbi
        omega
      · obtain ⟨e, he, hbi, rfl⟩ := beforeB_spec hb
        rw [hI.closed j oj hoj hlj e he hbi] at hni; cases hni
theorem DInvA.fin {k : Nat} {st0 S : St} {vs : List V} {listed : Array Bool} (hd : DrawOk ops k) (hlen : vs.length = (ops.toList.take k).length) (hI : DInvA ops k st0 vs listed S)
    (hall : ∀ i, i < k → i < ops.size → listed.getD i false = true) : ∀ t, lk (fin st0 (ops.toList.take k) vs).tm t = lk S.tm t := by
  intro t
  by_cases hw : ∃ i o, i < k ∧ ops[i]? = some o ∧ o.dst = some t
  · obtain ⟨i, o, hi, ho, hdst⟩ := hw
    rw [hI.one i o t hi ho hdst (hall i hi (Array.getElem?_eq_some_iff.1 ho).1)]
    exact fin_new _ _ _ i o t hlen (apart_take hd) (take_get hi ho) hdst
  · rw [hI.old t fun i o hi ho _ hdst => hw ⟨i, o, hi, ho, hdst⟩]
    refine fin_old _ _ _ t fun x hx hdx => ?_
    obtain ⟨j, hj⟩ := List.getElem?_of_mem hx
    obtain ⟨h1, h2⟩ := get_take hj
    exact hw ⟨j, x, h1, h2, hdx⟩
theorem wpAny_drawA {k j0 : Nat} {zs : List V} {st0 : St} {vs : List V} {G0 : Gh} {w0 : World} (hd : DrawOk ops k) (hj0 : j0 < k) (hj1 : j0 < ops.size) (hrun : RunA P ge ops j0 zs 0 st0 (ops.toList.take k) vs) (htail : AS P ge ops (ops.toList.drop k) Q ⟨st0.n, (fin st0 (ops.toList.take k) vs).tm, st0.h ++ [.var zs]⟩) :
    ∀ (fuel : Nat) (listed : Array Bool) (S : St) (G : Gh) (a : Act) (w : World), DInvA ops k st0 vs listed S → S.h = st0.h ++ (if listed.getD j0 false = true then [.var zs] else []) → unl ops listed ≤ fuel → (∀ j, k ≤ j → j < ops.size → listed.getD j false = false) →
      Rep P ge G S a w → Ext G0 st0.h w0 G S.h w → wpAny P .any ops (CPost P ge Q G0 st0.h w0) fuel listed a w := by
  intro fuel
  induction fuel with
  | zero =>
    intro listed S G a w hI hSh hf hk hr hx
    have hall : ∀ i, i < ops.size → listed.getD i false = true := fun i hi => by
      have : ((List.range ops.size).filter fun j => !listed.getD j true) = [] := List.eq_nil_of_length_eq_zero (Nat.le_zero.1 hf)
      have := List.filter_eq_nil_iff.1 this i (List.mem_range.2 hi)
      rw [← getD_tf hI.size hi]; simpa using this
    have hs := hI.fin hd hrun.len fun i _ hi => hall i hi
    have hSh' : S.h = st0.h ++ [.var zs] := by rw [hSh, if_pos (hall j0 hj1)]
    have h1 := htail G a w (hr.same (by simp only; rw [hI.n]) (by simp only; rw [hSh']) hs)
    simp only at h1
    rw [← hSh'] at h1
    have hks : ops.size ≤ k := by
      rcases Nat.lt_or_ge k ops.size with h2 | h2
      · have := hk k (Nat.le_refl _) h2; rw [hall k h2] at this; cases this
      · exact h2
    refine wpAny_tail hd 0 listed k a w (Nat.le_refl _) hI.size hf (fun i hi => ⟨fun _ => by omega, fun _ => hall i hi⟩) ?_
    exact wpList_mono' (fun _ _ _ hp => hp.mono hx fun _ _ h => h) h1
  | succ fuel ih =>
    intro listed S G a w hI hSh hf hk hr hx
    by_cases hall : ∀ i, i < k → i < ops.size → listed.getD i false = true
    · have hs := hI.fin hd hrun.len hall
      have hSh' : S.h = st0.h ++ [.var zs] := by rw [hSh, if_pos (hall j0 hj0 hj1)]
      have h1 := htail G a w (hr.same (by simp only; rw [hI.n]) (by simp only; rw [hSh']) hs)
      simp only at h1
      rw [← hSh'] at h1
      refine wpAny_tail hd (fuel + 1) listed k a w (Nat.le_refl _) hI.size hf (fun i hi => ⟨fun h => ?_, fun h => hall i h hi⟩) (wpList_mono' (fun _ _ _ hp => hp.mono hx fun _ _ h => h) h1)
      rcases Nat.lt_or_ge i k with h2 | h2
      · exact h2
      · rw [hk i h2 hi] at h; cases h
    · have hlow : ∀ i, i ∈ Region.ready .any ops listed → i < k := fun i hi => by
        rcases Nat.lt_or_ge i k with h2 | h2
        · exact h2
        · exfalso
          refine hall fun j hj hjs => ?_
          obtain ⟨h1, o, h3, h4⟩ := mem_ready.1 hi
          exact tail_listed (L := fun x => listed.getD x false = true) hI.closed h4 (hd.tail i o h3 h2) j (by omega)
      refine ⟨fun hrdy => ?_, fun i hi => ?_⟩
      · exfalso
        -- the first one that is not listed is ready
        have key : ∀ (m : Nat) (i : Nat), i < m → i < ops.size → listed.getD i false = true := by
          intro m
          induction m with
          | zero => intro i hi; omega
          | succ m ihm =>
            intro i hi hs
            rcases Nat.lt_or_ge i m with h1 | h1
            · exact ihm i h1 hs
            · have him : i = m := by omega
              subst him
              cases hh : listed.getD i false
              · have : i ∈ Region.ready .any ops listed := by
                  refine mem_ready.2 ⟨by rw [getD_tf hI.size hs]; exact hh, ops[i], by simp [hs], fun e he hb => ?_⟩
                  have := hd.down i ops[i] (by simp [hs]) e he hb
                  exact ihm e.on this (by omega)
                rw [hrdy] at this; cases this
              · rfl
        exact hall fun i hi hs => key (i + 1) i (by omega) hs
      · have hik := hlow i hi
        obtain ⟨hni, o, ho, haft⟩ := mem_ready.1 hi
        have hlt := (Array.getElem?_eq_some_iff.1 ho).1
        obtain ⟨hps, hdst⟩ := hrun.at (take_get hik ho)
        rw [Nat.zero_add] at hps
        have hdst' : dstOk S.n o.dst = true := by rw [hI.n]; exact hdst
        obtain ⟨S', has, hS'n, hS'tm, hS'h⟩ : ∃ S' : St, AS P ge ops [o] (fun e s => e = .normal ∧ s = S') S ∧ S'.n = S.n ∧ S'.tm = putD o.dst (vs.getD i .junk) S.tm ∧
            S'.h = st0.h ++ (if (listed.setIfInBounds i true).getD j0 false = true then [.var zs] else []) := by
          by_cases hij : i = j0
          · rw [if_pos hij] at hps
            obtain ⟨e, he, hg, hz, hv⟩ := hps
            have hlf : listed.getD j0 false = false := by rw [← hij, ← getD_tf hI.size hlt]; exact hni
            have hSh0 : S.h = st0.h := by rw [hSh, if_neg (by rw [hlf]; simp), List.append_nil]
            obtain ⟨d, op, t, p, af, g⟩ := o
            simp only at he hg hdst'
            subst he; subst hg
            have hl0 : (fin st0 ((ops.toList.take k).take i) (vs.take i)).h.length = S.h.length := by rw [(fin_n _ _ _).2, hSh0]
            rw [hl0] at hv
            refine ⟨⟨S.n, putD d (vs.getD i .junk) S.tm, S.h ++ [.var zs]⟩, ?_, rfl, rfl, ?_⟩
            · rw [hv]; exact AS_op rfl hdst' (S_alloc hz) (AS_nil ⟨rfl, rfl⟩)
            · show S.h ++ [B.var zs] = _
              rw [hSh0, ← hij, if_pos (by simp [Array.getD, hI.size, hlt])]
          · rw [if_neg hij] at hps
            have hps1 := hps.1.ext (if listed.getD j0 false = true then [.var zs] else []) hps.2
            have hps' : PStep P ge ops S o (vs.getD i .junk) := by
              refine PStep.congr (hc := hps1) ?_ ?_ ?_
              · show S.n = (fin st0 _ _).n
                rw [(fin_n _ _ _).1, hI.n]
              · show S.h = (fin st0 _ _).h ++ _
                rw [(fin_n _ _ _).2, hSh]
              · exact fun t ht => hI.look hd hrun.len hik ho hi t ht
            refine ⟨{ S with tm := putD o.dst (vs.getD i .junk) S.tm }, hps'.sound hdst' (AS_nil ⟨rfl, rfl⟩), rfl, rfl, ?_⟩
            rw [getD_set_ne _ hij]; exact hSh
        refine wpOp_of_AS ho has hr fun G' a' w' hr' hx' => ?_
        refine ih _ S' G' a' w' ⟨hS'n.trans hI.n, ?_, ?_, ?_, by simp [hI.size]⟩ hS'h (by have := unl_set hlt hI.size hni; omega) ?_ hr' (hx.trans hx')
        · intro x ox t hxk hox hdx hlx
          rw [hS'tm]
          rw [lk_putD]
          by_cases hxi : i = x
          · subst hxi; rw [ho] at hox; cases hox; rw [if_pos hdx]
          · rw [getD_set_ne _ hxi] at hlx
            rw [if_neg (fun hod => (hd.apart i x o ox t hik hxk hxi ho hox hod).1 hdx)]
            exact hI.one x ox t hxk hox hdx hlx
        · intro t ht
          rw [hS'tm]
          rw [lk_putD, if_neg (ht i o hik ho (by simp [Array.getD, hI.size, hlt]))]
          refine hI.old t fun x ox hxk hox hlx => ht x ox hxk hox (getD_set_true hlx)
        · intro x ox hox hlx e he hb
          by_cases hxi : i = x
          · subst hxi; rw [ho] at hox; cases hox
            exact getD_set_true (haft e he hb)
          · rw [getD_set_ne _ hxi] at hlx
            exact getD_set_true (hI.closed x ox hox hlx e he hb)
        · intro j hj hjs
          rw [getD_set_ne _ (by omega)]
          exact hk j hj hjs
theorem AW_region_drawA {id k j0 : Nat} {zs : List V} {vs : List V} (hm : P.follows .mixedOrders = true) (hd : drawOk ops k = true) (hj0 : j0 < k) (hj1 : j0 < ops.size) (hrun : RunA P ge ops j0 zs 0 st (ops.toList.take k) vs)
    (htail : AS P ge ops (ops.toList.drop k) Q ⟨st.n, (fin st (ops.toList.take k) vs).tm, st.h ++ [.var zs]⟩) : AW P ge (.region id ops true) Q st := by
  intro G a w hr
  refine wp_region_any hm ?_
  obtain ⟨G', hr', hx⟩ := hr.drawn (w.drawn + 1)
  have hrep : ∀ i, (Array.replicate ops.size false).getD i false = false := fun i => by
    simp only [Array.getD_eq_getD_getElem?, Array.getElem?_replicate]; split <;> rfl
  refine wpAny_drawA (drawOk_spec hd) hj0 hj1 hrun htail _ _ st G' a _ ⟨rfl, ?_, fun _ _ => rfl, ?_, by simp⟩ (by rw [hrep]; simp) ?_ (fun j _ _ => hrep j) hr' hx
  · intro i o t _ _ _ h; rw [hrep] at h; cases h
  · intro j o _ h; rw [hrep] at h; cases h
  · unfold unl; exact Nat.le_trans (List.length_filter_le _ _) (by simp)
/-- The walk of such a region: operations ahead of the chain, then the chain. -/
def APA (P : Program) (ge : GEnv) (ops : Array Oper) (K : List (Nat × V) → Prop) (j0 : Nat) (zs : List V) : Nat → List Oper → St → Prop
  | _, [], st => K st.tm
  | i, o :: r, st =>
    if i = j0 then (∃ e, o.op = .alloc e ∧ o.guard = none ∧ zeroOf P e = some zs) ∧ dstOk st.n o.dst = true ∧ APA P ge ops K j0 zs (i + 1) r { st with tm := putD o.dst (.ptr st.h.length 0) st.tm }
    else ∃ v, dstOk st.n o.dst = true ∧ PStep P ge ops st o v ∧ (∀ x ∈ o.op.operands, (ev ge st.tm x).lt st.h.length = true) ∧ APA P ge ops K j0 zs (i + 1) r { st with tm := putD o.dst v st.tm }
theorem APA.run {K : List (Nat × V) → Prop} {j0 : Nat} {zs : List V} : ∀ {l : List Oper} {i : Nat} {st : St}, APA P ge ops K j0 zs i l st → ∃ vs, RunA P ge ops j0 zs i st l vs ∧ K (fin st l vs).tm
  | [], _, _, h => ⟨[], trivial, h⟩
  | o :: r, i, st, h => by
    unfold APA at h
    split at h
    · rename_i hi
      obtain ⟨⟨e, h1, h2, h3⟩, h4, h5⟩ := h
      obtain ⟨vs, h6, h7⟩ := APA.run h5
      exact ⟨.ptr st.h.length 0 :: vs, ⟨h4, by rw [if_pos hi]; exact ⟨e, h1, h2, h3, rfl⟩, h6⟩, h7⟩
    · rename_i hi
      obtain ⟨v, h4, h1, h2, h5⟩ := h
      obtain ⟨vs, h6, h7⟩ := APA.run h5
      exact ⟨v :: vs, ⟨h4, by rw [if_neg hi]; exact ⟨h1, h2⟩, h6⟩, h7⟩
theorem AW_region_APA (k j0 : Nat) (zs : List V) {id : Nat} (hm : P.follows .mixedOrders = true) (hd : drawOk ops k = true) (hj : j0 < k ∧ j0 < ops.size)
    (h : APA P ge ops (fun tm => AO P ge ops Q (ops.toList.drop k) ⟨st.n, tm, st.h ++ [.var zs]⟩) j0 zs 0 (ops.toList.take k) st) : AW P ge (.region id ops true) Q st := by
  obtain ⟨vs, h1, h2⟩ := h.run
  exact AW_region_drawA hm hd hj.1 hj.2 h1 (AS_of_AO h2)
theorem APA_nil {K : List (Nat × V) → Prop} {j0 i : Nat} {zs : List V} (h : K st.tm) : APA P ge ops K j0 zs i [] st := by unfold APA; exact h
theorem APA_still {K : List (Nat × V) → Prop} {j0 i : Nat} {zs : List V} {d : Option Tmp} {op : Op} {t : TypeId} {p : String} {af : Array Edge} {r : List Oper} (hi : ¬ i = j0) (hs : stillOp op = true) (hd : dstOk st.n d = true) (ho : opOk P ge st op)
    (hl : V.lts st.h.length (evs ge st.tm op.operands.toList) = true) (h : APA P ge ops K j0 zs (i + 1) r { st with tm := putD d (opVal P ge st op).1 st.tm }) : APA P ge ops K j0 zs i (⟨d, op, t, p, af, none⟩ :: r) st := by
  unfold APA
  rw [if_neg hi]
  refine ⟨_, hd, .inl ⟨hs, ho, rfl⟩, fun x hx => ?_, h⟩
  rw [evs_eq] at hl
  obtain ⟨j, hj⟩ := List.getElem?_of_mem (Array.mem_toList_iff.2 hx)
  exact V.lts_get hl j _ (by rw [List.getElem?_map, hj]; rfl)
theorem APA_call {K : List (Nat × V) → Prop} {j0 i : Nat} {zs : List V} {d : Option Tmp} {x : Operand} {xs : Array Operand} {ts : Array TypeId} {t : TypeId} {p : String} {af : Array Edge} {r : List Oper} {f : Nat} {A C args : List V} {v : V}
    (hi : ¬ i = j0) (hx : ev ge st.tm x = .fn (.func f) A C) (ha : A ++ evs ge st.tm xs.toList ++ C = args) (hc : PCall P ge f args v) (hf : V.isFs args = true) (hp : v.plain = true) (hd : dstOk st.n d = true)
    (hl : V.lts st.h.length (evs ge st.tm (Op.call { callee := .value x, args := xs, argTypes := ts }).operands.toList) = true) (h : APA P ge ops K j0 zs (i + 1) r { st with tm := putD d v st.tm }) :
    APA P ge ops K j0 zs i (⟨d, .call { callee := .value x, args := xs, argTypes := ts }, t, p, af, none⟩ :: r) st := by
  subst ha
  rw [evs_eq] at hc hf
  unfold APA
  rw [if_neg hi]
  refine ⟨v, hd, .inr (.inl ⟨x, xs, ts, f, A, C, rfl, hx, hc, hf, hp⟩), fun y hy => ?_, h⟩
  rw [evs_eq] at hl
  obtain ⟨j, hj⟩ := List.getElem?_of_mem (Array.mem_toList_iff.2 hy)
  exact V.lts_get hl j _ (by rw [List.getElem?_map, hj]; rfl)
theorem APA_alloc {K : List (Nat × V) → Prop} {j0 : Nat} {zs : List V} {d : Option Tmp} {e : TypeId} {t : TypeId} {p : String} {af : Array Edge} {r : List Oper} (hz : zeroOf P e = some zs) (hd : dstOk st.n d = true)
    (h : APA P ge ops K j0 zs (j0 + 1) r { st with tm := putD d (.ptr st.h.length 0) st.tm }) : APA P ge ops K j0 zs j0 (⟨d, .alloc e, t, p, af, none⟩ :: r) st := by
  unfold APA
  rw [if_pos rfl]
  exact ⟨⟨e, rfl, rfl, hz⟩, hd, h⟩
end
end Go.AM
end
section
set_option linter.unusedSimpArgs false
set_option linter.unusedVariables false
namespace Go.Proofs.YtbgooadmonnjaaaGreatDoor
open Go Go.AM Fx
theorem zco63 : Tryz.prog.cellsOf 63 = 2 := by kernel_rfl
theorem zco61 : Tryz.prog.cellsOf 61 = 1 := by kernel_rfl
theorem rnInts : RdN KB Tryz.prog 61 (fun l : List Int => [V.vec (ivs l) l.length]) (fun l => l.length ≤ 1048576) :=
  (RdN_slice Tryz.underlying61 (by rw [zco3]; decide) (RdN_int Tryz.underlying3) (fun _ => by rw [zco3]; rfl)).map id (fun _ => rfl) (fun l h => h.1)
theorem rnStateD : RdN KB Tryz.prog 63 StateD.cells StateD.ok :=
  (RdN_struct Tryz.underlying63 zco63 (rC rfl zco61 rnInts (fun _ => rfl) (rC rfl zco61 rnInts (fun _ => rfl) (RdNs_nil rfl)))).map
    (fun p => ⟨p.1, p.2.1⟩) (fun _ => rfl) (fun p h => ⟨h.1, h.2.1⟩)
theorem red_eq {a b a' b' : Nat} (hb : 0 < b) (hb' : 0 < b') (h : a * b' = a' * b) : a / Nat.gcd a b = a' / Nat.gcd a' b' ∧ b / Nat.gcd a b = b' / Nat.gcd a' b' := by
  have g0 : 0 < Nat.gcd a b := Nat.gcd_pos_of_pos_right _ hb
  have g1 : 0 < Nat.gcd a' b' := Nat.gcd_pos_of_pos_right _ hb'
  have cx : Nat.Coprime (a / Nat.gcd a b) (b / Nat.gcd a b) := Nat.coprime_div_gcd_div_gcd g0
  have cy : Nat.Coprime (a' / Nat.gcd a' b') (b' / Nat.gcd a' b') := Nat.coprime_div_gcd_div_gcd g1
  obtain ⟨x, hx⟩ := Nat.gcd_dvd_left a b
  obtain ⟨y, hy⟩ := Nat.gcd_dvd_right a b
  obtain ⟨x', hx'⟩ := Nat.gcd_dvd_left a' b'
  obtain ⟨y', hy'⟩ := Nat.gcd_dvd_right a' b'
  generalize Nat.gcd a b = g at *
  generalize Nat.gcd a' b' = g' at *
  subst hx hy hx' hy'
  rw [Nat.mul_div_cancel_left _ g0, Nat.mul_div_cancel_left _ g0] at *
  rw [Nat.mul_div_cancel_left _ g1, Nat.mul_div_cancel_left _ g1] at *
  have hgg : 0 < g * g' := Nat.mul_pos g0 g1
  have h2 : (g * g') * (x * y') = (g * g') * (x' * y) := by
    rw [show (g * g') * (x * y') = g * x * (g' * y') by ac_rfl, show (g * g') * (x' * y) = g' * x' * (g * y) by ac_rfl]; exact h
  have h3 := Nat.eq_of_mul_eq_mul_left hgg h2
  have d1 : y ∣ y' := Nat.Coprime.dvd_of_dvd_mul_left cx.symm ⟨x', by rw [h3]; ac_rfl⟩
  have d2 : y' ∣ y := Nat.Coprime.dvd_of_dvd_mul_left cy.symm ⟨x, by rw [← h3]; ac_rfl⟩
  have e := Nat.dvd_antisymm d1 d2
  subst e
  have hy0 : 0 < y := by
    rcases Nat.eq_zero_or_pos y with h0 | h0
    · subst h0; simp at hb
    · exact h0
  exact ⟨Nat.eq_of_mul_eq_mul_right hy0 h3, rfl⟩
theorem low_eq {n n' : Int} {d d' : Nat} (hd : 0 < d) (hd' : 0 < d') (h : n * d' = n' * d) : lowQ n d = lowQ n' d' := by
  have hb : n.natAbs * d' = n'.natAbs * d := by
    have := congrArg Int.natAbs h
    rw [Int.natAbs_mul, Int.natAbs_mul] at this
    simpa using this
  obtain ⟨e1, e2⟩ := red_eq hd hd' hb
  have sg : n < 0 ↔ n' < 0 := by
    constructor
    · intro hn
      have : n * d' < 0 := Int.mul_neg_of_neg_of_pos hn (by omega)
      rw [h] at this
      rcases (by omega : n' < 0 ∨ 0 ≤ n') with h0 | h0
      · exact h0
      · have := Int.mul_nonneg h0 (show (0 : Int) ≤ d by omega); omega
    · intro hn
      have : n' * d < 0 := Int.mul_neg_of_neg_of_pos hn (by omega)
      rw [← h] at this
      rcases (by omega : n < 0 ∨ 0 ≤ n) with h0 | h0
      · exact h0
      · have := Int.mul_nonneg h0 (show (0 : Int) ≤ d' by omega); omega
  unfold lowQ
  rw [e1, e2]
  by_cases hn : n < 0
  · rw [if_pos hn, if_pos (sg.1 hn)]
  · rw [if_neg hn, if_neg (fun h => hn (sg.2 h))]
theorem lowE_eq {n n' : Int} {d d' : Nat} (hd : 0 < d) (hd' : 0 < d') (h : n * d' = n' * d) : lowE n d = lowE n' d' := by
  unfold lowE
  rw [low_eq hd hd' h]
/-- To add twice is to add the sum. -/
theorem addQ_assoc {c d e : RatD} (hc : rightQ c = true) (hd : rightQ d = true) (he : rightQ e = true) (h1 : (addQ c d).2 = 0) (h2 : (addQ d e).2 = 0) : addQ (addQ c d).1 e = addQ c (addQ d e).1 := by
  obtain ⟨_, a2, a3⟩ := addQ_ok hc hd h1
  obtain ⟨_, b2, b3⟩ := addQ_ok hd he h2
  generalize (addQ c d).1 = x at *
  generalize (addQ d e).1 = y at *
  rw [addQ_eq a2 he, addQ_eq hc b2]
  have pc := rightQ_den hc
  have pd := rightQ_den hd
  have pe := rightQ_den he
  have px := rightQ_den a2
  have py := rightQ_den b2
  obtain ⟨d1, d2⟩ := den_abs px pe
  obtain ⟨d3, d4⟩ := den_abs pc py
  refine lowE_eq d1 d3 ?_
  rw [d2, d4]
  have pp : 0 < c.den * d.den * e.den := Int.mul_pos (Int.mul_pos pc pd) pe
  have key : ((x.num * e.den + e.num * x.den) * (c.den * y.den)) * (d.den) = ((c.num * y.den + y.num * c.den) * (x.den * e.den)) * (d.den) := by
    clear h1 h2 hc hd he a2 b2 d1 d2 d3 d4 pp
    grind
  exact Int.eq_of_mul_eq_mul_right (by omega) key
end Go.Proofs.YtbgooadmonnjaaaGreatDoor
end
