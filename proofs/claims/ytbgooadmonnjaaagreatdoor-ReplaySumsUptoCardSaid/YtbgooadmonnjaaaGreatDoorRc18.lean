/-
  YtbgooadmonnjaaaGreatDoorRc18: steps of the proof of a law of the program: what these texts prove holds under the hypotheses that their theorems name, and no others.
-/
import Derived.Test.YtbgooadmonnjaaaGreatDoorRc10
import Derived.Test.YtbgooadmonnjaaaGreatDoorRc17
import Derived.Test.YtbgooadmonnjaaaGreatDoorRc15
import Derived.Laws.CopyRow
import Derived.Laws.IdiomCopy
section
set_option linter.unusedSimpArgs false
set_option linter.unusedVariables false
namespace Go.AM

end Go.AM
end
section
set_option linter.unusedSimpArgs false
set_option linter.unusedVariables false
namespace Go.Proofs.YtbgooadmonnjaaaGreatDoor
open Go Go.AM Fx













theorem wrap_u64 (n : Int) : IntKind.u64.wrap n = n % 18446744073709551616 := by
  unfold IntKind.wrap; simp [IntKind.bits, IntKind.signed]
theorem and_mask (x : Int) (hx : 0 ≤ x) (hx' : x < 18446744073709551616) : bits .and .u64 x 4294967295 = x % 4294967296 := by
  have h : (BitVec.ofInt 64 x &&& BitVec.ofInt 64 4294967295).toNat = (x % 4294967296).toNat := by
    have h1 : BitVec.ofInt 64 4294967295 = 4294967295#64 := by decide
    rw [h1, BitVec.toNat_and]
    have h2 : (4294967295#64).toNat = 2 ^ 32 - 1 := by decide
    rw [h2, Nat.and_two_pow_sub_one_eq_mod, BitVec.toNat_ofInt]
    omega
  show IntKind.u64.wrap ((BitVec.ofInt 64 x &&& BitVec.ofInt 64 4294967295).toNat : Int) = x % 4294967296
  rw [h, wrap_u64]
  omega
theorem shr32 (x : Int) : x.fdiv (2 ^ min 32 IntKind.u64.bits) = x / 4294967296 := by
  have : (2 : Int) ^ min 32 IntKind.u64.bits = 4294967296 := by decide
  rw [this, Int.fdiv_eq_ediv_of_nonneg _ (by decide)]
theorem mul_lt {a b n : Int} (ha : 0 ≤ a) (hb : 0 ≤ b) (ha' : a ≤ n) (hb' : b ≤ n) : 0 ≤ a * b ∧ a * b ≤ n * n :=
  ⟨Int.mul_nonneg ha hb, Int.mul_le_mul ha' hb' hb (by omega)⟩
theorem mul64_law (x y : Int) (hx : 0 ≤ x) (hx' : x < 18446744073709551616) (hy : 0 ≤ y) (hy' : y < 18446744073709551616) :
    ((x / 4294967296) * (y / 4294967296) % 18446744073709551616 + ((x / 4294967296) * (y % 4294967296) % 18446744073709551616 + (x % 4294967296) * (y % 4294967296) % 18446744073709551616 / 4294967296) % 18446744073709551616 / 4294967296) % 18446744073709551616 +
      (((x / 4294967296) * (y % 4294967296) % 18446744073709551616 + (x % 4294967296) * (y % 4294967296) % 18446744073709551616 / 4294967296) % 18446744073709551616 % 4294967296 + (x % 4294967296) * (y / 4294967296) % 18446744073709551616) % 18446744073709551616 / 4294967296 = x * y / 18446744073709551616 := by
  have h1 : x = x / 4294967296 * 4294967296 + x % 4294967296 := by omega
  have h2 : y = y / 4294967296 * 4294967296 + y % 4294967296 := by omega
  have b1 : 0 ≤ x / 4294967296 ∧ x / 4294967296 ≤ 4294967295 := by omega
  have b2 : 0 ≤ x % 4294967296 ∧ x % 4294967296 ≤ 4294967295 := by omega
  have b3 : 0 ≤ y / 4294967296 ∧ y / 4294967296 ≤ 4294967295 := by omega
  have b4 : 0 ≤ y % 4294967296 ∧ y % 4294967296 ≤ 4294967295 := by omega
  generalize x / 4294967296 = a at *
  generalize x % 4294967296 = b at *
  generalize y / 4294967296 = c at *
  generalize y % 4294967296 = d at *
  have hxy : x * y = a * c * 18446744073709551616 + (a * d + b * c) * 4294967296 + b * d := by
    rw [h1, h2]
    have e : (18446744073709551616 : Int) = 4294967296 * 4294967296 := by decide
    rw [e]
    generalize (4294967296 : Int) = m
    simp only [Int.add_mul, Int.mul_add, Int.mul_assoc, Int.mul_left_comm, Int.mul_comm, Int.add_assoc, Int.add_left_comm, Int.add_comm]
  have p1 := mul_lt b1.1 b3.1 b1.2 b3.2
  have p2 := mul_lt b1.1 b4.1 b1.2 b4.2
  have p3 := mul_lt b2.1 b3.1 b2.2 b3.2
  have p4 := mul_lt b2.1 b4.1 b2.2 b4.2
  rw [hxy]
  generalize a * c = s at *
  generalize a * d = q at *
  generalize b * c = r at *
  generalize b * d = p at *
  clear h1 h2 hxy b1 b2 b3 b4 hx hx' hy hy'
  omega
theorem mul_hi (x y : Int) (hx : 0 ≤ x) (hx' : x < 18446744073709551616) (hy : 0 ≤ y) (hy' : y < 18446744073709551616) : 0 ≤ x * y ∧ x * y ≤ 340282366920938463426481119284349108225 :=
  mul_lt (n := 18446744073709551615) hx hy (by omega) (by omega)
theorem c_mul64 (x y : Int) (hx : 0 ≤ x) (hx' : x < 18446744073709551616) (hy : 0 ≤ y) (hy' : y < 18446744073709551616) : PC 159 [.int .u64 x, .int .u64 y] (.tup [.int .u64 (x * y / 18446744073709551616), .int .u64 (x * y % 18446744073709551616)]) := by
  refine pB Tryz.func159 rfl (by decide) Tryz.ntmps159 (by simp) Tryz.results159 ?_
  repeat' (first
 |refine aK fun K hK=>?_|refine Step.by1 ?_|refine sE (by decide) ?_|refine cz rfl ?_|refine Fork.by2 (fun h=>?_) fun h=>?_
 |(refine aR ?_;simp)
 |(refine Split.by2 (fun h=>?_) (fun h=>?_)<;>(simp [h]))
 |(apply hK;clear hK K)|refine AWh ‹_› ?_)
  refine retq2 (cE ?_ rfl)
  simp [and_mask x hx hx', and_mask y hy hy', shr32, wrap_u64]
  rw [and_mask _ (by omega) (by omega)]
  have hl := mul64_law x y hx hx' hy hy'
  have hm := mul_hi x y hx hx' hy hy'
  omega
end Go.Proofs.YtbgooadmonnjaaaGreatDoor
end
section
set_option linter.unusedSimpArgs false
set_option linter.unusedVariables false
namespace Go.AM

theorem spl_get {α : Type} {L zs : List α} {off : Nat} (h : off + zs.length ≤ L.length) (i : Nat) : (L.take off ++ zs ++ L.drop (off + zs.length))[i]? = if off ≤ i ∧ i < off + zs.length then zs[i - off]? else L[i]? := by
  have h1 : (L.take off).length = off := by simp; omega
  by_cases a : i < off
  · rw [if_neg (by omega), List.append_assoc, List.getElem?_append_left (by omega), List.getElem?_take_of_lt a]
  · by_cases c : i < off + zs.length
    · rw [if_pos ⟨by omega, c⟩, List.append_assoc, List.getElem?_append_right (by omega), h1, List.getElem?_append_left (by omega)]
    · rw [if_neg (by omega), List.getElem?_append_right (by simp; omega), List.getElem?_drop]
      congr 1
      simp; omega
theorem spl_len {α : Type} {L zs : List α} {off : Nat} (h : off + zs.length ≤ L.length) : (L.take off ++ zs ++ L.drop (off + zs.length)).length = L.length := by simp; omega
end Go.AM
namespace Go.AM
end Go.AM
end
section
set_option linter.unusedVariables false
set_option linter.unusedSimpArgs false
namespace Go.AM
/-- The pure ones (A) of the first k wait for pure ones alone. -/
def chainOk (A : List Nat) (ops : Array Oper) (k : Nat) : Bool := (List.range k).all fun j => match ops.toList[j]? with
  | none => true
  | some o => !A.contains j || (binders o).all fun i => A.contains i
/-- The others that may come next. -/
def readyI (A : List Nat) (ops : Array Oper) (k : Nat) (done : List Nat) : List Nat := (List.range k).filter fun i => !A.contains i && !done.contains i && match ops.toList[i]? with
  | none => false
  | some o => (binders o).all fun j => A.contains j || done.contains j
def allDone (A : List Nat) (ops : Array Oper) (k : Nat) (done : List Nat) : Bool := (List.range k).all fun i => A.contains i || done.contains i || decide (ops.size ≤ i)
def AllI (p : Nat → Prop) : List Nat → Prop
  | [] => True
  | i :: r => p i ∧ AllI p r
theorem AllI.mem {p : Nat → Prop} : ∀ {l : List Nat}, AllI p l → ∀ i ∈ l, p i
  | [], _, i, hi => by cases hi
  | a :: r, h, i, hi => by
    rcases List.mem_cons.1 hi with rfl | hi
    · exact h.1
    · exact h.2.mem i hi
section
variable {P : Program} {ge : GEnv} {st : St} {Q : Exit → St → Prop} {ops : Array Oper} {A : List Nat} {Stab : List B → Prop}
/-- The pure ones, in order; each says the same over any heap that may be met. -/
def PX (P : Program) (ge : GEnv) (ops : Array Oper) (A : List Nat) (Stab : List B → Prop) (n : Nat) (K : List (Nat × V) → Prop) : List Oper → Nat → List (Nat × V) → Prop
  | [], _, tm => K tm
  | o :: r, i, tm => if A.contains i = true then ∃ v, dstOk n o.dst = true ∧ (∀ h, Stab h → PStep P ge ops ⟨n, tm, h⟩ o v) ∧ PX P ge ops A Stab n K r (i + 1) (putD o.dst v tm) else PX P ge ops A Stab n K r (i + 1) tm
def tmA (A : List Nat) (vs : Nat → V) : List Oper → Nat → List (Nat × V) → List (Nat × V)
  | [], _, tm => tm
  | o :: r, i, tm => tmA A vs r (i + 1) (if A.contains i = true then putD o.dst (vs i) tm else tm)
theorem tmA_congr {vs vs' : Nat → V} : ∀ (l : List Oper) (i : Nat) (tm : List (Nat × V)), (∀ m, i ≤ m → vs m = vs' m) → tmA A vs l i tm = tmA A vs' l i tm
  | [], _, _, _ => rfl
  | o :: r, i, tm, h => by rw [tmA, tmA, h i (Nat.le_refl _), tmA_congr r (i + 1) _ fun m hm => h m (by omega)]
theorem tmA_old {vs : Nat → V} {t : Nat} : ∀ (l : List Oper) (i : Nat) (tm : List (Nat × V)), (∀ j o, l[j]? = some o → A.contains (i + j) = true → o.dst ≠ some t) → lk (tmA A vs l i tm) t = lk tm t
  | [], _, _, _ => rfl
  | o :: r, i, tm, h => by
    rw [tmA, tmA_old r (i + 1) _ fun j o' hj hA => h (j + 1) o' (by simpa using hj) (by rw [show i + (j + 1) = i + 1 + j by omega]; exact hA)]
    split
    · rename_i hA
      rw [lk_putD, if_neg (h 0 o rfl hA)]
    · rfl
theorem tmA_new {vs : Nat → V} {t : Nat} {o : Oper} (hd : o.dst = some t) : ∀ (l : List Oper) (i : Nat) (tm : List (Nat × V)) (j : Nat), l[j]? = some o → A.contains (i + j) = true →
    (∀ j' o', j' ≠ j → l[j']? = some o' → A.contains (i + j') = true → o'.dst ≠ some t) → lk (tmA A vs l i tm) t = vs (i + j) := by
  intro l
  induction l with
  | nil => intro i tm j h; simp at h
  | cons x r ih =>
    intro i tm j h hA ha
    cases j with
    | zero =>
      have hx : x = o := by simpa using h
      subst hx
      have hA' : A.contains i = true := hA
      rw [tmA, tmA_old r (i + 1) _ fun j o' hj hA => ha (j + 1) o' (by omega) (by simpa using hj) (by rw [show i + (j + 1) = i + 1 + j by omega]; exact hA), if_pos hA', lk_putD, if_pos hd]; rfl
    | succ j =>
      have e : i + 1 + j = i + (j + 1) := by omega
      have := ih (i + 1) (if A.contains i = true then putD x.dst (vs i) tm else tm) j (by simpa using h) (by rw [e]; exact hA) fun j' o'' hj hg hA' => ha (j' + 1) o'' (by omega) (by simpa using hg) (by rw [show i + (j' + 1) = i + 1 + j' by omega]; exact hA')
      rw [tmA, this, e]
theorem PX.run {n : Nat} {K : List (Nat × V) → Prop} : ∀ {l : List Oper} {i : Nat} {tm : List (Nat × V)}, PX P ge ops A Stab n K l i tm →
    ∃ vs : Nat → V, K (tmA A vs l i tm) ∧ ∀ j o, l[j]? = some o → A.contains (i + j) = true → dstOk n o.dst = true ∧ ∀ h, Stab h → PStep P ge ops ⟨n, tmA A vs (l.take j) i tm, h⟩ o (vs (i + j))
  | [], i, tm, h => ⟨fun _ => .junk, h, fun j o hj => by simp at hj⟩
  | o :: r, i, tm, h => by
    rw [PX] at h
    split at h
    · rename_i hA
      obtain ⟨v, h1, h2, h3⟩ := h
      obtain ⟨vs, k1, k2⟩ := h3.run
      have hc : ∀ l tm, tmA A (fun m => if m = i then v else vs m) l (i + 1) tm = tmA A vs l (i + 1) tm := fun l tm => tmA_congr l _ _ fun m hm => by rw [if_neg (by omega)]
      refine ⟨fun m => if m = i then v else vs m, by rw [tmA, if_pos hA, hc, if_pos rfl]; exact k1, fun j o' hj hA' => ?_⟩
      cases j with
      | zero => simp at hj; subst hj; exact ⟨h1, fun h hs => by simpa [tmA] using h2 h hs⟩
      | succ j =>
        obtain ⟨q1, q2⟩ := k2 j o' (by simpa using hj) (by rw [show i + 1 + j = i + (j + 1) by omega]; exact hA')
        refine ⟨q1, fun h hs => ?_⟩
        rw [List.take_succ_cons, tmA, if_pos hA, hc, if_pos rfl]
        simp only [show ¬ i + (j + 1) = i by omega, if_false]
        rw [show i + (j + 1) = i + 1 + j by omega]; exact q2 h hs
    · rename_i hA
      obtain ⟨vs, k1, k2⟩ := h.run
      refine ⟨vs, by rw [tmA, if_neg hA]; exact k1, fun j o' hj hA' => ?_⟩
      cases j with
      | zero => exact absurd hA' hA
      | succ j =>
        obtain ⟨q1, q2⟩ := k2 j o' (by simpa using hj) (by rw [show i + 1 + j = i + (j + 1) by omega]; exact hA')
        refine ⟨q1, fun h hs => ?_⟩
        rw [List.take_succ_cons, tmA, if_neg hA, show i + (j + 1) = i + 1 + j by omega]; exact q2 h hs
/-- The others, in any order that they may come in, and the tail. -/
def Ch (P : Program) (ge : GEnv) (ops : Array Oper) (A : List Nat) (Stab : List B → Prop) (k : Nat) (Q : Exit → St → Prop) : Nat → List Nat → St → Prop
  | 0, _, _ => False
  | m + 1, done, T => (allDone A ops k done = true → AS P ge ops (ops.toList.drop k) Q T) ∧ AllI (fun i => match ops.toList[i]? with
      | none => True
      | some o => dstOk T.n o.dst = true ∧ ∀ S : St, S.n = T.n → S.h = T.h → (∀ t ∈ o.looksAt ops, lk S.tm t = lk T.tm t) →
        AS P ge ops [o] (fun e s => e = .normal ∧ ∃ v, s.n = S.n ∧ (∀ t, lk s.tm t = lk (putD o.dst v S.tm) t) ∧ Stab s.h ∧ Ch P ge ops A Stab k Q m (i :: done) ⟨T.n, putD o.dst v T.tm, s.h⟩) S) (readyI A ops k done)
def cntI (A : List Nat) (k : Nat) (listed : Array Bool) : Nat := ((List.range k).filter fun j => !A.contains j && !listed.getD j true).length
theorem wpOp_of_ASx {G : Gh} {S : St} {a : Act} {w : World} {o : Oper} {i : Nat} {Qc : Exit → Act → World → Prop} {K : Act → World → Prop} {Φ : St → Prop} (ho : ops[i]? = some o)
    (h : AS P ge ops [o] (fun e s => e = .normal ∧ Φ s) S) (hr : Rep P ge G S a w) (hK : ∀ S' G' a' w', Φ S' → Rep P ge G' S' a' w' → Ext G S.h w G' S'.h w' → K a' w') : wpOp P ops Qc i K a w := by
  have h1 := h G a w hr
  have hk : ∀ a' w', wpList P ops (CPost P ge (fun e s => e = .normal ∧ Φ s) G S.h w) [] a' w' → K a' w' := fun a' w' h => by
    unfold wpList at h
    obtain ⟨G', s, ⟨_, hs⟩, r, x⟩ := h
    exact hK s G' a' w' hs r x
  have hq : ∀ e a' w', e ≠ .normal → ¬ CPost P ge (fun e s => e = .normal ∧ Φ s) G S.h w e a' w' := fun e a' w' hne ⟨_, _, ⟨h, _⟩, _⟩ => hne h
  unfold wpOp
  rw [ho]
  unfold wpList at h1
  simp only
  split
  · rename_i hw
    rw [if_pos hw] at h1
    rcases h1 with h1 | ⟨_, a0, w0, h1⟩
    · refine .inl ?_
      unfold Oper.wp at h1 ⊢
      generalize (execOp a.eval o).run P w = r at *
      cases r with
      | ok n w' =>
        cases n <;> simp only [Oper.upon] at h1 ⊢ <;> first
          | exact hk _ _ h1
          | exact Calls.mono h1 (fun e w'' he => by
              cases e <;> first
                | exact hk _ _ he
                | exact absurd he (hq _ _ _ (by simp))
                | (obtain ⟨_, _, he⟩ := he; exact absurd he (hq _ _ _ (by simp))))
          | exact Rows.mono h1 (fun _ _ he => hk _ _ he)
      | halt x w' => cases x <;> simp only [Oper.upon] at h1 ⊢ <;> exact absurd h1 (hq _ _ _ (by simp))
    · exact absurd h1 (hq _ _ _ (by simp))
  · rename_i hw
    rw [if_neg hw] at h1
    exact hk _ _ h1
structure DI (P : Program) (ge : GEnv) (ops : Array Oper) (A : List Nat) (Stab : List B → Prop) (k : Nat) (Q : Exit → St → Prop) (st0 : St) (vs : Nat → V) (listed : Array Bool) (S T : St) (m : Nat) (done : List Nat) : Prop where
  n : S.n = st0.n ∧ T.n = st0.n
  h : S.h = T.h
  stab : Stab S.h
  dn : ∀ i, i < k → A.contains i = false → (done.contains i = true ↔ listed.getD i false = true)
  cnt : cntI A k listed < m
  pure : ∀ (i : Nat) (o : Oper) (t : Nat), i < k → A.contains i = true → ops[i]? = some o → o.dst = some t → lk T.tm t = vs i ∧ (listed.getD i false = true → lk S.tm t = vs i)
  old : ∀ (t : Nat), (∀ (i : Nat) (o : Oper), i < k → ops[i]? = some o → listed.getD i false = true → o.dst ≠ some t) → lk S.tm t = lk st0.tm t
  same : ∀ (t : Nat), (∀ (i : Nat) (o : Oper), i < k → A.contains i = true → ops[i]? = some o → o.dst ≠ some t) → lk S.tm t = lk T.tm t
  closed : ∀ (j : Nat) (o : Oper), ops[j]? = some o → listed.getD j false = true → ∀ e ∈ o.after, Region.binds .any e = true → listed.getD e.on false = true
  size : listed.size = ops.size
  ch : Ch P ge ops A Stab k Q m done T
theorem chainOk_spec {k : Nat} (h : chainOk A ops k = true) {j : Nat} {o : Oper} (hj : j < k) (ho : ops[j]? = some o) : A.contains j = true → ∀ i ∈ binders o, A.contains i = true := by
  have h1 := List.all_eq_true.1 h j (List.mem_range.2 hj)
  rw [show ops.toList[j]? = some o by simpa using ho] at h1
  intro hA
  simp only [hA, Bool.not_true, Bool.false_or] at h1
  exact List.all_eq_true.1 h1
theorem wpAny_chain {k : Nat} {st0 : St} {vs : Nat → V} {G0 : Gh} {w0 : World} (hd : DrawOk ops k) (hc : chainOk A ops k = true)
    (hrun : ∀ j o, (ops.toList.take k)[j]? = some o → A.contains j = true → dstOk st0.n o.dst = true ∧ ∀ h, Stab h → PStep P ge ops ⟨st0.n, tmA A vs ((ops.toList.take k).take j) 0 st0.tm, h⟩ o (vs j)) :
    ∀ (fuel : Nat) (listed : Array Bool) (S T : St) (m : Nat) (done : List Nat) (G : Gh) (a : Act) (w : World), DI P ge ops A Stab k Q st0 vs listed S T m done → unl ops listed ≤ fuel → (∀ j, k ≤ j → j < ops.size → listed.getD j false = false) →
      Rep P ge G S a w → Ext G0 st0.h w0 G S.h w → wpAny P .any ops (CPost P ge Q G0 st0.h w0) fuel listed a w := by
  have fin : ∀ (fuel : Nat) (listed : Array Bool) (S T : St) (m : Nat) (done : List Nat) (G : Gh) (a : Act) (w : World), DI P ge ops A Stab k Q st0 vs listed S T m done → unl ops listed ≤ fuel → (∀ j, k ≤ j → j < ops.size → listed.getD j false = false) →
      Rep P ge G S a w → Ext G0 st0.h w0 G S.h w → (∀ i, i < k → i < ops.size → listed.getD i false = true) → wpAny P .any ops (CPost P ge Q G0 st0.h w0) fuel listed a w := by
    intro fuel listed S T m done G a w hI hf hk hr hx hall
    have hs : ∀ t, lk T.tm t = lk S.tm t := fun t => by
      by_cases hw : ∃ i o, i < k ∧ A.contains i = true ∧ ops[i]? = some o ∧ o.dst = some t
      · obtain ⟨i, o, hi, hA, ho, hdst⟩ := hw
        obtain ⟨h1, h2⟩ := hI.pure i o t hi hA ho hdst
        rw [h1, h2 (hall i hi (Array.getElem?_eq_some_iff.1 ho).1)]
      · exact (hI.same t fun i o hi hA ho hdst => hw ⟨i, o, hi, hA, ho, hdst⟩).symm
    have hch : AS P ge ops (ops.toList.drop k) Q T := by
      have h1 := hI.ch
      cases m with
      | zero => exact absurd hI.cnt (Nat.not_lt_zero _)
      | succ m =>
        rw [Ch] at h1
        refine h1.1 (List.all_eq_true.2 fun i hi => ?_)
        have hik := List.mem_range.1 hi
        cases hA : A.contains i
        · by_cases hs : i < ops.size
          · rw [(hI.dn i hik hA).2 (hall i hik hs)]; simp
          · simp; omega
        · simp
    have h1 := hch G a w (hr.same (by rw [hI.n.2, hI.n.1]) hI.h.symm hs)
    rw [← hI.h] at h1
    rcases Nat.lt_or_ge ops.size k with hks | hks
    · refine wpAny_tail hd fuel listed k a w (Nat.le_refl _) hI.size hf (fun i hi => ⟨fun _ => by omega, fun h => hall i h hi⟩) (wpList_mono' (fun _ _ _ hp => hp.mono hx fun _ _ h => h) h1)
    · refine wpAny_tail hd fuel listed k a w (Nat.le_refl _) hI.size hf (fun i hi => ⟨fun h => ?_, fun h => hall i h hi⟩) (wpList_mono' (fun _ _ _ hp => hp.mono hx fun _ _ h => h) h1)
      rcases Nat.lt_or_ge i k with h2 | h2
      · exact h2
      · rw [hk i h2 hi] at h; cases h
  intro fuel
  induction fuel with
  | zero =>
    intro listed S T m done G a w hI hf hk hr hx
    refine fin 0 listed S T m done G a w hI hf hk hr hx fun i _ hi => ?_
    have : ((List.range ops.size).filter fun j => !listed.getD j true) = [] := List.eq_nil_of_length_eq_zero (Nat.le_zero.1 hf)
    have := List.filter_eq_nil_iff.1 this i (List.mem_range.2 hi)
    rw [← getD_tf hI.size hi]; simpa using this
  | succ fuel ih =>
    intro listed S T m done G a w hI hf hk hr hx
    by_cases hall : ∀ i, i < k → i < ops.size → listed.getD i false = true
    · exact fin _ listed S T m done G a w hI hf hk hr hx hall
    · have hlow : ∀ i, i ∈ Region.ready .any ops listed → i < k := fun i hi => by
        rcases Nat.lt_or_ge i k with h2 | h2
        · exact h2
        · exfalso
          refine hall fun j hj hjs => ?_
          obtain ⟨h1, o, h3, h4⟩ := mem_ready.1 hi
          exact tail_listed (L := fun x => listed.getD x false = true) hI.closed h4 (hd.tail i o h3 h2) j (by omega)
      refine ⟨fun hrdy => ?_, fun i hi => ?_⟩
      · exfalso
        have key : ∀ (m : Nat) (i : Nat), i < m → i < ops.size → listed.getD i false = true := by
          intro m
          induction m with
          | zero => intro i hi; omega
          | succ m ihm =>
            intro i hi hs
            rcases Nat.lt_or_ge i m with h1 | h1
            · exact ihm i h1 hs
            · have him : i = m := by omega
              subst him
              cases hh : listed.getD i false
              · have : i ∈ Region.ready .any ops listed := by
                  refine mem_ready.2 ⟨by rw [getD_tf hI.size hs]; exact hh, ops[i], by simp [hs], fun e he hb => ?_⟩
                  have := hd.down i ops[i] (by simp [hs]) e he hb
                  exact ihm e.on this (by omega)
                rw [hrdy] at this; cases this
              · rfl
        exact hall fun i hi hs => key (i + 1) i (by omega) hs
      · have hik := hlow i hi
        obtain ⟨hni0, o, ho, haft⟩ := mem_ready.1 hi
        have hlt := (Array.getElem?_eq_some_iff.1 ho).1
        have hni := hni0
        rw [getD_tf hI.size hlt] at hni
        have hcp := chainOk_spec hc hik ho
        have hsz : (listed.setIfInBounds i true).size = ops.size := by simp [hI.size]
        have hsi : (listed.setIfInBounds i true).getD i false = true := by simp [Array.getD, hI.size, hlt]
        have hcl' : ∀ (j : Nat) (o : Oper), ops[j]? = some o → (listed.setIfInBounds i true).getD j false = true → ∀ e ∈ o.after, Region.binds .any e = true → (listed.setIfInBounds i true).getD e.on false = true := fun x ox hox hlx e he hb => by
          by_cases hxi : i = x
          · subst hxi; rw [ho] at hox; cases hox
            exact getD_set_true (haft e he hb)
          · rw [getD_set_ne _ hxi] at hlx
            exact getD_set_true (hI.closed x ox hox hlx e he hb)
        have hkk : ∀ j, k ≤ j → j < ops.size → (listed.setIfInBounds i true).getD j false = false := fun j hj hjs => by
          rw [getD_set_ne _ (by omega)]; exact hk j hj hjs
        have hfu : unl ops (listed.setIfInBounds i true) ≤ fuel := by have := unl_set hlt hI.size hni0; omega
        -- who waits for whom
        have before_listed : ∀ {j : Nat}, beforeB o j = true → listed.getD j false = true := fun {j} hb => by
          obtain ⟨e, he, hbi, rfl⟩ := beforeB_spec hb; exact haft e he hbi
        have after_unlisted : ∀ {j : Nat} {oj : Oper}, ops[j]? = some oj → beforeB oj i = true → listed.getD j false = false := fun {j oj} hoj hb => by
          obtain ⟨e, he, hbi, rfl⟩ := beforeB_spec hb
          cases hl : listed.getD j false
          · rfl
          · rw [hI.closed j oj hoj hl e he hbi] at hni; cases hni
        cases hA : A.contains i
        · -- one of the chain
          have hch := hI.ch
          cases m with
          | zero => exact absurd hI.cnt (Nat.not_lt_zero _)
          | succ m =>
          rw [Ch] at hch
          have hnd : done.contains i = false := by
            cases h : done.contains i
            · rfl
            · rw [(hI.dn i hik hA).1 h] at hni; cases hni
          have hstep0 := hch.2.mem i (List.mem_filter.2 ⟨List.mem_range.2 hik, by
            rw [hA, hnd, show ops.toList[i]? = some o by simpa using ho]
            simp only [Bool.not_false, Bool.true_and]
            refine List.all_eq_true.2 fun j hj => ?_
            obtain ⟨e, he, hb, rfl⟩ := mem_binders.1 hj
            have hjk : e.on < k := by have := hd.down i o ho e he hb; omega
            cases hAj : A.contains e.on
            · rw [(hI.dn e.on hjk hAj).2 (haft e he hb)]; simp
            · simp⟩)
          rw [show ops.toList[i]? = some o by simpa using ho] at hstep0
          obtain ⟨hdst, hstep⟩ := hstep0
          have hlook : ∀ t ∈ o.looksAt ops, lk S.tm t = lk T.tm t := fun t ht => by
            by_cases hw : ∃ j oj, j < k ∧ A.contains j = true ∧ ops[j]? = some oj ∧ oj.dst = some t
            · obtain ⟨j, oj, hj, hAj, hoj, hdj⟩ := hw
              have hne : j ≠ i := fun e => by subst e; rw [hA] at hAj; cases hAj
              obtain ⟨h1, h2⟩ := hI.pure j oj t hj hAj hoj hdj
              rcases (hd.apart j i oj o t hj hik hne hoj ho hdj).2 ht with hb | hb
              · rw [h1, h2 (before_listed hb)]
              · obtain ⟨e, he, hbi, rfl⟩ := beforeB_spec hb
                have := chainOk_spec hc hj hoj hAj e.on (mem_binders.2 ⟨e, he, hbi, rfl⟩)
                rw [hA] at this; cases this
            · exact hI.same t fun j oj hj hAj hoj hdj => hw ⟨j, oj, hj, hAj, hoj, hdj⟩
          refine wpOp_of_ASx ho (hstep S (by rw [hI.n.1, hI.n.2]) hI.h hlook) hr fun S' G' a' w' hS' hr' hx' => ?_
          obtain ⟨v, hn', htm', hst', hch'⟩ := hS'
          have hdd : ∀ {j : Nat} {oj : Oper} {t : Nat}, j < k → A.contains j = true → ops[j]? = some oj → oj.dst = some t → o.dst ≠ some t := fun {j oj t} hj hAj hoj hdj =>
            (hd.apart j i oj o t hj hik (fun e => by subst e; rw [hA] at hAj; cases hAj) hoj ho hdj).1
          refine ih _ S' ⟨T.n, putD o.dst v T.tm, S'.h⟩ m (i :: done) G' a' w' ⟨⟨hn'.trans hI.n.1, hI.n.2⟩, rfl, hst', ?_, ?_, ?_, ?_, ?_, hcl', hsz, hch'⟩ hfu hkk hr' (hx.trans hx')
          · intro j hj hAj
            by_cases e : i = j
            · subst e; rw [hsi]; simp
            · rw [getD_set_ne _ e, ← hI.dn j hj hAj]
              have e' : ¬ j = i := fun h => e h.symm
              simp [e']
          · have hlt2 : cntI A k (listed.setIfInBounds i true) < cntI A k listed := by
              unfold cntI
              refine filter_lt (i := i) (by show (!A.contains i && !listed.getD i true) = true; rw [hA, hni0]; rfl) (by simp [Array.getD, hI.size, hlt]) _ (fun x _ hx => ?_) (List.mem_range.2 hik)
              simp only [Bool.and_eq_true, Bool.not_eq_true'] at hx ⊢
              refine ⟨hx.1, ?_⟩
              by_cases hxi : i = x
              · subst hxi; exact hni0
              · have h2 := hx.2; rwa [getD_set_ne _ hxi] at h2
            have := hI.cnt; omega
          · intro j oj t hj hAj hoj hdj
            have hne : ¬ i = j := fun e => by subst e; rw [hA] at hAj; cases hAj
            obtain ⟨h1, h2⟩ := hI.pure j oj t hj hAj hoj hdj
            refine ⟨?_, fun hl => ?_⟩
            · rw [lk_putD, if_neg (hdd hj hAj hoj hdj)]; exact h1
            · rw [getD_set_ne _ hne] at hl
              rw [htm', lk_putD, if_neg (hdd hj hAj hoj hdj)]; exact h2 hl
          · intro t ht
            rw [htm', lk_putD, if_neg (ht i o hik ho hsi)]
            exact hI.old t fun x ox hxk hox hlx => ht x ox hxk hox (getD_set_true hlx)
          · intro t ht
            show lk S'.tm t = lk (putD o.dst v T.tm) t
            rw [htm', lk_putD, lk_putD]
            split
            · rfl
            · exact hI.same t ht
        · -- a pure one
          obtain ⟨hdst, hps⟩ := hrun i o (take_get hik ho) hA
          have htk : (ops.toList.take k).take i = ops.toList.take i := by rw [List.take_take, Nat.min_eq_left (by omega)]
          have hlook : ∀ t ∈ o.looksAt ops, lk S.tm t = lk (tmA A vs ((ops.toList.take k).take i) 0 st0.tm) t := fun t ht => by
            rw [htk]
            by_cases hw : ∃ j oj, j < i ∧ A.contains j = true ∧ ops[j]? = some oj ∧ oj.dst = some t
            · obtain ⟨j, oj, hji, hAj, hoj, hdj⟩ := hw
              have hj : j < k := by omega
              have hl : listed.getD j false = true := by
                rcases (hd.apart j i oj o t hj hik (by omega) hoj ho hdj).2 ht with hb | hb
                · exact before_listed hb
                · obtain ⟨e, he, hbi, rfl⟩ := beforeB_spec hb
                  have := hd.down j oj hoj e he hbi
                  omega
              rw [(hI.pure j oj t hj hAj hoj hdj).2 hl]
              have := tmA_new (A := A) (vs := vs) (t := t) hdj (ops.toList.take i) 0 st0.tm j (by rw [List.getElem?_take_of_lt hji]; simpa using hoj) (by rw [Nat.zero_add]; exact hAj) fun j' o' hne hg hA' => by
                rw [List.getElem?_take] at hg
                split at hg
                · rename_i hj'
                  exact (hd.apart j j' oj o' t hj (by omega) (fun e => hne e.symm) hoj (by simpa using hg) hdj).1
                · cases hg
              rw [this, Nat.zero_add]
            · have h1 : lk (tmA A vs (ops.toList.take i) 0 st0.tm) t = lk st0.tm t := tmA_old _ _ _ fun j oj hg hA' hdj => by
                rw [List.getElem?_take] at hg
                split at hg
                · rename_i hj'
                  exact hw ⟨j, oj, hj', by rw [Nat.zero_add] at hA'; exact hA', by simpa using hg, hdj⟩
                · cases hg
              rw [h1]
              refine hI.old t fun j oj hjk hoj hlj hdj => ?_
              by_cases e : j = i
              · subst e; rw [hni] at hlj; cases hlj
              · rcases (hd.apart j i oj o t hjk hik e hoj ho hdj).2 ht with hb | hb
                · obtain ⟨e', he, hbi, hbe⟩ := beforeB_spec hb
                  have hAj : A.contains j = true := by rw [← hbe]; exact hcp hA e'.on (mem_binders.2 ⟨e', he, hbi, rfl⟩)
                  have hji : j < i := by have := hd.down i o ho e' he hbi; omega
                  exact hw ⟨j, oj, hji, hAj, hoj, hdj⟩
                · rw [after_unlisted hoj hb] at hlj; cases hlj
          have hps' : PStep P ge ops S o (vs i) := PStep.congr (st := ⟨st0.n, tmA A vs ((ops.toList.take k).take i) 0 st0.tm, S.h⟩) (st' := S) hI.n.1 rfl hlook (hps S.h hI.stab)
          have hdst' : dstOk S.n o.dst = true := by rw [hI.n.1]; exact hdst
          have has : AS P ge ops [o] (fun e s => e = .normal ∧ s = { S with tm := putD o.dst (vs i) S.tm }) S := hps'.sound hdst' (AS_nil ⟨rfl, rfl⟩)
          refine wpOp_of_AS ho has hr fun G' a' w' hr' hx' => ?_
          refine ih _ { S with tm := putD o.dst (vs i) S.tm } T m done G' a' w' ⟨hI.n, hI.h, hI.stab, ?_, ?_, ?_, ?_, ?_, hcl', hsz, hI.ch⟩ hfu hkk hr' (hx.trans hx')
          · intro j hj hAj
            rw [getD_set_ne _ (fun e => by subst e; rw [hA] at hAj; cases hAj)]; exact hI.dn j hj hAj
          · have : cntI A k (listed.setIfInBounds i true) = cntI A k listed := by
              unfold cntI
              congr 1
              refine List.filter_congr fun x _ => ?_
              by_cases hxi : i = x
              · subst hxi; rw [hA]; rfl
              · rw [getD_set_ne _ hxi]
            rw [this]; exact hI.cnt
          · intro j oj t hj hAj hoj hdj
            obtain ⟨h1, h2⟩ := hI.pure j oj t hj hAj hoj hdj
            refine ⟨h1, fun hl => ?_⟩
            show lk (putD o.dst (vs i) S.tm) t = vs j
            rw [lk_putD]
            by_cases e : i = j
            · subst e; rw [ho] at hoj; cases hoj; rw [if_pos hdj]
            · rw [getD_set_ne _ e] at hl
              rw [if_neg (fun hod => (hd.apart i j o oj t hik hj e ho hoj hod).1 hdj)]; exact h2 hl
          · intro t ht
            show lk (putD o.dst (vs i) S.tm) t = _
            rw [lk_putD, if_neg (ht i o hik ho hsi)]
            exact hI.old t fun x ox hxk hox hlx => ht x ox hxk hox (getD_set_true hlx)
          · intro t ht
            show lk (putD o.dst (vs i) S.tm) t = _
            rw [lk_putD, if_neg (ht i o hik hA ho)]
            exact hI.same t ht
/-- A region that draws its order: k operations, those in A pure, the others as they come; then a tail. -/
theorem AW_region_chain (k m : Nat) (A : List Nat) (Stab : List B → Prop) {id : Nat} (hm : P.follows .mixedOrders = true) (hd : drawOk ops k = true) (hc : chainOk A ops k = true) (hm2 : decide (k < m) = true) (h0 : Stab st.h)
    (h : PX P ge ops A Stab st.n (fun tm => Ch P ge ops A Stab k Q m [] ⟨st.n, tm, st.h⟩) (ops.toList.take k) 0 st.tm) : AW P ge (.region id ops true) Q st := by
  intro G a w hr
  refine wp_region_any hm ?_
  obtain ⟨G', hr', hx⟩ := hr.drawn (w.drawn + 1)
  obtain ⟨vs, hK, hrun⟩ := h.run
  have hd' := drawOk_spec hd
  have hrep : ∀ i, (Array.replicate ops.size false).getD i false = false := fun i => by
    simp only [Array.getD_eq_getD_getElem?, Array.getElem?_replicate]; split <;> rfl
  refine wpAny_chain hd' hc (fun j o hj hA => by simpa using hrun j o hj (by simpa using hA)) _ _ st ⟨st.n, tmA A vs (ops.toList.take k) 0 st.tm, st.h⟩ m [] G' a _ ⟨⟨rfl, rfl⟩, rfl, h0, fun i _ _ => by rw [hrep]; simp, ?_, ?_, fun _ _ => rfl, ?_, ?_, by simp, hK⟩ ?_ (fun j _ _ => hrep j) hr' hx
  · have h1 : cntI A k (Array.replicate ops.size false) ≤ k := Nat.le_trans (List.length_filter_le _ _) (by simp)
    have := of_decide_eq_true hm2
    omega
  · intro i o t hi hA ho hdst
    refine ⟨?_, fun h => by rw [hrep] at h; cases h⟩
    have := tmA_new (A := A) (vs := vs) (t := t) hdst (ops.toList.take k) 0 st.tm i (take_get hi ho) (by rw [Nat.zero_add]; exact hA) fun j' o' hne hg hA' => by
      obtain ⟨h1, h2⟩ := get_take hg
      exact (hd'.apart i j' o o' t hi h1 (fun e => hne e.symm) ho h2 hdst).1
    simpa using this
  · intro t ht
    refine (tmA_old _ _ _ fun j oj hg hA' hdj => ?_).symm
    obtain ⟨h1, h2⟩ := get_take hg
    exact ht j oj h1 (by rw [Nat.zero_add] at hA'; exact hA') h2 hdj
  · intro j o _ h; rw [hrep] at h; cases h
  · unfold unl; exact Nat.le_trans (List.length_filter_le _ _) (by simp)
end
end Go.AM
end
section
set_option linter.unusedVariables false
set_option linter.unusedSimpArgs false
namespace Go.AM
def chainOp : Op → Bool
  | .buildSlice .. => true
  | .call { callee := .builtin .append, .. } => true
  | .alloc _ => true
  | .store .. => true
  | _ => false
section
variable {P : Program} {ge : GEnv} {st st' : St} {Q : Exit → St → Prop} {ops : Array Oper} {A : List Nat} {Stab : List B → Prop}
theorem op_congrC {op : Op} (hs : chainOp op = true) (hh : st'.h = st.h) (he : ∀ x ∈ op.operands, ev ge st'.tm x = ev ge st.tm x) (ho : opOk P ge st op) :
    opOk P ge st' op ∧ opVal P ge st' op = opVal P ge st op := by
  unfold chainOp at hs
  split at hs
  case h_1 T len parts =>
    have e : partsV ge st'.tm parts.toList = partsV ge st.tm parts.toList := partsV_congr _ fun x hx => he x.2 (by simp only [Op.operands]; simp; exact ⟨x.1, by simpa using hx⟩)
    simp only [opOk, opVal] at ho ⊢; rw [e, hh]; exact ⟨ho, rfl⟩
  case h_2 xs ts =>
    simp only [opOk, opVal] at ho ⊢
    have h1 := ho.1
    have ex := he (xs.getD 0 default) (by
      simp only [Op.operands, Call.operands]
      have : 0 < xs.size := by omega
      simp [Array.getD, this])
    have ey := he (xs.getD 1 default) (by
      simp only [Op.operands, Call.operands]
      have : 1 < xs.size := by omega
      simp [Array.getD, this])
    rw [ex, ey, hh]; exact ⟨ho, rfl⟩
  case h_3 => simp only [opOk, opVal] at ho ⊢; rw [hh]; exact ⟨ho, rfl⟩
  case h_4 e x y =>
    have ex := he x (by simp [Op.operands])
    have ey := he y (by simp [Op.operands])
    simp only [opOk, opVal] at ho ⊢; rw [ex, ey, hh]; exact ⟨ho, rfl⟩
  case h_5 => cases hs
theorem PX_nil {n i : Nat} {K : List (Nat × V) → Prop} {tm : List (Nat × V)} (h : K tm) : PX P ge ops A Stab n K [] i tm := h
theorem PX_skip {n i : Nat} {K : List (Nat × V) → Prop} {tm : List (Nat × V)} {o : Oper} {r : List Oper} (hA : A.contains i = false) (h : PX P ge ops A Stab n K r (i + 1) tm) : PX P ge ops A Stab n K (o :: r) i tm := by
  rw [PX, if_neg (by rw [hA]; simp)]; exact h
theorem PX_op {n i : Nat} {K : List (Nat × V) → Prop} {tm : List (Nat × V)} {o : Oper} {r : List Oper} {v : V} (hA : A.contains i = true) (hg : o.guard = none) (hs : stillOp o.op = true) (hd : dstOk n o.dst = true)
    (hv : ∀ h, Stab h → opOk P ge ⟨n, tm, h⟩ o.op ∧ (opVal P ge ⟨n, tm, h⟩ o.op).1 = v) (h : PX P ge ops A Stab n K r (i + 1) (putD o.dst v tm)) : PX P ge ops A Stab n K (o :: r) i tm := by
  rw [PX, if_pos hA]
  refine ⟨v, hd, fun h hs' => ?_, h⟩
  unfold PStep; rw [hg]
  exact .inl ⟨hs, (hv h hs').1, (hv h hs').2.symm⟩
theorem PX_call {n i : Nat} {K : List (Nat × V) → Prop} {tm : List (Nat × V)} {r : List Oper} {d : Option Tmp} {x : Operand} {xs : Array Operand} {ts : Array TypeId} {f : Nat} {B C args : List V} {v : V} {t : TypeId} {p : String} {af : Array Edge} (hA : A.contains i = true) (hd : dstOk n d = true)
    (hx : ev ge tm x = .fn (.func f) B C) (ha : B ++ evs ge tm xs.toList ++ C = args) (hc : PCall P ge f args v) (hf : V.isFs args = true) (hp : v.plain = true) (h : PX P ge ops A Stab n K r (i + 1) (putD d v tm)) :
    PX P ge ops A Stab n K (⟨d, .call { callee := .value x, args := xs, argTypes := ts }, t, p, af, none⟩ :: r) i tm := by
  subst ha
  rw [evs_eq] at hc hf
  rw [PX, if_pos hA]
  exact ⟨v, hd, fun h hs' => .inr (.inl ⟨x, xs, ts, f, B, C, rfl, hx, hc, hf, hp⟩), h⟩
/-- One step of the others. -/
def ChS (P : Program) (ge : GEnv) (ops : Array Oper) (A : List Nat) (Stab : List Go.AM.B → Prop) (k : Nat) (Q : Exit → St → Prop) (m : Nat) (done : List Nat) (T : St) (i : Nat) : Prop := match ops.toList[i]? with
  | none => True
  | some o => dstOk T.n o.dst = true ∧ ∀ S : St, S.n = T.n → S.h = T.h → (∀ t ∈ o.looksAt ops, lk S.tm t = lk T.tm t) →
    AS P ge ops [o] (fun e s => e = .normal ∧ ∃ v, s.n = S.n ∧ (∀ t, lk s.tm t = lk (putD o.dst v S.tm) t) ∧ Stab s.h ∧ Ch P ge ops A Stab k Q m (i :: done) ⟨T.n, putD o.dst v T.tm, s.h⟩) S
variable {k m i j : Nat} {done : List Nat} {T : St}
theorem Ch_end (hr : (readyI A ops k done).isEmpty = true) (h : AS P ge ops (ops.toList.drop k) Q T) : Ch P ge ops A Stab k Q (m + 1) done T := by
  rw [Ch, List.isEmpty_iff.1 hr]; exact ⟨fun _ => h, trivial⟩
theorem Ch_1 (i : Nat) (hr : (readyI A ops k done == [i]) = true) (hd : allDone A ops k done = false) (h : ChS P ge ops A Stab k Q m done T i) : Ch P ge ops A Stab k Q (m + 1) done T := by
  rw [Ch, eq_of_beq hr]; exact ⟨fun h => (by rw [hd] at h; cases h), h, trivial⟩
theorem Ch_2 (i j : Nat) (hr : (readyI A ops k done == [i, j]) = true) (hd : allDone A ops k done = false) (h : ChS P ge ops A Stab k Q m done T i) (h2 : ChS P ge ops A Stab k Q m done T j) : Ch P ge ops A Stab k Q (m + 1) done T := by
  rw [Ch, eq_of_beq hr]; exact ⟨fun h => (by rw [hd] at h; cases h), h, h2, trivial⟩
theorem Ch_3 (i j l : Nat) (hr : (readyI A ops k done == [i, j, l]) = true) (hd : allDone A ops k done = false) (h : ChS P ge ops A Stab k Q m done T i) (h2 : ChS P ge ops A Stab k Q m done T j) (h3 : ChS P ge ops A Stab k Q m done T l) : Ch P ge ops A Stab k Q (m + 1) done T := by
  rw [Ch, eq_of_beq hr]; exact ⟨fun h => (by rw [hd] at h; cases h), h, h2, h3, trivial⟩
theorem ChS_op {o : Oper} {v : V} {h' : List Go.AM.B} (ho : ops.toList[i]? = some o) (hg : o.guard = none) (hd : dstOk T.n o.dst = true) (hop : chainOp o.op = true) (hk : opOk P ge T o.op) (hv : opVal P ge T o.op = (v, h')) (hs : Stab h')
    (h : Ch P ge ops A Stab k Q m (i :: done) ⟨T.n, putD o.dst v T.tm, h'⟩) : ChS P ge ops A Stab k Q m done T i := by
  unfold ChS
  rw [ho]
  refine ⟨hd, fun S hn hh hl => ?_⟩
  obtain ⟨h1, h2⟩ := op_congrC hop hh (ev_congr (ops := ops) (ge := ge) (st := T) (st' := S) hl) hk
  have := opS_of_ok (P := P) (ge := ge) (st := S) (d := o.dst) (t := o.type) (p := o.pos) (af := o.after) (g := o.guard) h1
  rw [h2, hv] at this
  exact AS_op hg (by rw [hn]; exact hd) this (AS_nil ⟨rfl, v, rfl, fun _ => rfl, hs, h⟩)
theorem cS1 {o : Oper} (ho : ops.toList[i]? = some o) (hg : o.guard = none) (hd : dstOk T.n o.dst = true) (hop : stillOp o.op = true) (hk : opOk P ge T o.op) (hs : Stab T.h)
    (h : Ch P ge ops A Stab k Q m (i :: done) ⟨T.n, putD o.dst (opVal P ge T o.op).1 T.tm, T.h⟩) : ChS P ge ops A Stab k Q m done T i := by
  unfold ChS
  rw [ho]
  refine ⟨hd, fun S hn hh hl => ?_⟩
  obtain ⟨h1, h2⟩ := op_congr hop hh (ev_congr (ops := ops) (ge := ge) (st := T) (st' := S) hl) hk
  have := opS_of_ok (P := P) (ge := ge) (st := S) (d := o.dst) (t := o.type) (p := o.pos) (af := o.after) (g := o.guard) h1
  rw [still_spec hop, h2] at this
  exact AS_op hg (by rw [hn]; exact hd) this (AS_nil ⟨rfl, _, rfl, fun _ => rfl, by show Stab S.h; rw [hh]; exact hs, by show Ch P ge ops A Stab k Q m (i :: done) ⟨T.n, _, S.h⟩; rw [hh]; exact h⟩)
theorem ChS_callG {d : Option Tmp} {x : Operand} {xs : Array Operand} {ts : Array TypeId} {f : Nat} {B C args : List V} {Φ : V → List Go.AM.B → Prop} {t : TypeId} {p : String} {af : Array Edge} (ho : ops.toList[i]? = some ⟨d, .call { callee := .value x, args := xs, argTypes := ts }, t, p, af, none⟩) (hd : dstOk T.n d = true)
    (hx : ev ge T.tm x = .fn (.func f) B C) (ha : B ++ evs ge T.tm xs.toList ++ C = args) (hc : GCall P ge f args T.h Φ)
    (h : ∀ v h', Φ v h' → Stab h' ∧ Ch P ge ops A Stab k Q m (i :: done) ⟨T.n, putD d v T.tm, h'⟩) : ChS P ge ops A Stab k Q m done T i := by
  unfold ChS
  rw [ho]
  refine ⟨hd, fun S hn hh hl => ?_⟩
  have hev := ev_congr (ops := ops) (ge := ge) (st := T) (st' := S) hl
  have e1 : ev ge S.tm x = .fn (.func f) B C := by rw [hev x (by simp [Op.operands, Call.operands])]; exact hx
  have e2 : B ++ evs ge S.tm xs.toList ++ C = args := by
    rw [evs_congr _ fun y hy => hev y (by simp [Op.operands, Call.operands]; right; simpa using hy)]; exact ha
  rw [← hh] at hc
  exact aG e1 e2 hc (by rw [hn]; exact hd) fun v h' hq => by rw [AO]; exact ⟨rfl, v, rfl, fun _ => rfl, h v h' hq⟩
end
end Go.AM
end
