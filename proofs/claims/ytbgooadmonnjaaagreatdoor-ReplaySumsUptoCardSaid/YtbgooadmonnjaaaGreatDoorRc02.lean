/-
  YtbgooadmonnjaaaGreatDoorRc02: steps of the proof of a law of the program: what these texts prove holds under the hypotheses that their theorems name, and no others.
-/
import Derived.Test.YtbgooadmonnjaaaGreatDoorRc01
import Derived.Laws.StructEq
import Derived.ChangeKeysEq
section
set_option linter.unusedVariables false
set_option linter.unusedSimpArgs false
namespace Go.AM
section
variable {P : Program} {ge : GEnv} {st : St} {G : Gh} {w w' : World}
variable {d : Option Tmp} {t : TypeId} {p : String} {af : Array Edge} {g : Option (Nat × Bool)}
def ceqs : List V → List V → Bool
  | .int _ a :: xs, .int _ b :: ys => decide (a = b) && ceqs xs ys
  | .str a :: xs, .str b :: ys => decide (a = b) && ceqs xs ys
  | .bool a :: xs, .bool b :: ys => (a == b) && ceqs xs ys
  | _, _ => true
def binV (op : BinOp) : V → V → V
  | .int k a, .int _ b => match op with
    | .add => .int k (k.wrap (a + b)) | .sub => .int k (k.wrap (a - b)) | .mul => .int k (k.wrap (a * b))
    | .quo => .int k (k.wrap (a.tdiv b)) | .rem => .int k (a.tmod b)
    | .and => .int k (bits .and k a b) | .or => .int k (bits .or k a b) | .xor => .int k (bits .xor k a b) | .andNot => .int k (bits .andNot k a b)
    | .shl => .int k (k.wrap (a * 2 ^ (min b.toNat k.bits))) | .shr => .int k (a.fdiv (2 ^ (min b.toNat k.bits)))
    | .eql => .bool (decide (a = b)) | .neq => .bool (!decide (a = b)) | .lss => .bool (decide (a < b)) | .leq => .bool (decide (a ≤ b)) | .gtr => .bool (decide (b < a)) | .geq => .bool (decide (b ≤ a))
  | .str a, .str b => match op with
    | .add => .str (a ++ b) | .eql => .bool (decide (a = b)) | .neq => .bool (!decide (a = b))
    | .lss => .bool (Op.bytesLess a.toList b.toList) | .leq => .bool (Op.bytesLess a.toList b.toList || decide (a = b))
    | .gtr => .bool !(Op.bytesLess a.toList b.toList || decide (a = b)) | .geq => .bool !(Op.bytesLess a.toList b.toList)
    | _ => .junk
  | .bool a, .bool b => match op with
    | .eql => .bool (a == b) | .neq => .bool (!(a == b)) | _ => .junk
  | .nilp, .nilp => match op with
    | .eql => .bool true | .neq => .bool false | _ => .junk
  | .ptr .., .nilp | .fp .., .nilp | .ep .., .nilp => match op with
    | .eql => .bool false | .neq => .bool true | _ => .junk
  | .nils, .nils => match op with
    | .eql => .bool true | .neq => .bool false | _ => .junk
  | .agg a, .agg b => match op with
    | .eql => .bool (ceqs a b) | .neq => .bool (!ceqs a b) | _ => .junk
  | _, _ => .junk
theorem ba_list (a : ByteArray) : a.toList = a.data.toList := by
  have key : ∀ (n : Nat) (i : Nat) (r : List UInt8), a.size - i = n → i ≤ a.size → ByteArray.toList.loop a i r = r.reverse ++ a.data.toList.drop i := by
    intro n
    induction n with
    | zero =>
      intro i r h hi
      unfold ByteArray.toList.loop
      rw [if_neg (by omega)]
      have : i = a.data.toList.length := by have : a.data.toList.length = a.size := by simp
                                            omega
      rw [this, List.drop_length, List.append_nil]
    | succ n ih =>
      intro i r h hi
      unfold ByteArray.toList.loop
      rw [if_pos (by omega), ih (i + 1) _ (by omega) (by omega)]
      have hlt : i < a.data.toList.length := by have : a.data.toList.length = a.size := by simp
                                                omega
      rw [List.drop_eq_getElem_cons hlt, List.reverse_cons, List.append_assoc]
      congr 2
      have h2 : i < a.size := by omega
      have h3 : i < a.data.size := h2
      show [a.data[i]!] ++ _ = _
      simp
      exact getElem!_pos a.data i h3
  have := key a.size 0 [] (by omega) (by omega)
  unfold ByteArray.toList
  rw [this]; simp
theorem ba_eq (a b : ByteArray) : (a.toList == b.toList) = decide (a = b) := by
  rw [ba_list, ba_list]
  rw [Bool.eq_iff_iff]
  simp only [beq_iff_eq, decide_eq_true_eq]
  constructor
  · intro h
    cases a; cases b
    congr
    exact Array.toList_inj.1 h
  · rintro rfl; rfl
def isPtrT (P : Program) (t : TypeId) : Bool := match P.underlying t with
  | some (.pointer _) => true
  | _ => false
def isBoolT (P : Program) (t : TypeId) : Bool := match P.underlying t with
  | some .bool => true
  | _ => false
def BinOp.isEq : BinOp → Bool
  | .eql | .neq => true
  | _ => false
inductive K1 where
  | int | str | bool
def kind1 (P : Program) (t : TypeId) : Option K1 := match P.underlying t with
  | some (.int _) => some .int
  | some .string => some .str
  | some .bool => some .bool
  | _ => none
def eqGo (P : Program) : Nat → List Field → Option (List K1)
  | _, [] => some []
  | k, f :: fs => if f.name ≠ "_" ∧ f.offset = k ∧ P.plainKey f.type = true then (kind1 P f.type).bind fun x => (eqGo P (k + 1) fs).map (x :: ·) else none
def eqKinds (P : Program) (T : TypeId) : Option (List K1) := match P.underlying T with
  | some (.struct fs) => if P.stoodInHeld T = false ∧ P.eqGuardType P.depth T = false then eqGo P 0 fs.toList else none
  | _ => none
def kOk : List K1 → List V → List V → Prop
  | [], [], [] => True
  | .int :: ks, .int k _ :: xs, .int k' _ :: ys => k = k' ∧ kOk ks xs ys
  | .str :: ks, .str _ :: xs, .str _ :: ys => kOk ks xs ys
  | .bool :: ks, .bool _ :: xs, .bool _ :: ys => kOk ks xs ys
  | _, _, _ => False
theorem eqFields_run {dd : Nat} {xs ys : Array Value} {G : Gh} {w0 : World} {fr fr' : Bool} (w : World) : ∀ (fs : List Field) (k : Nat) (ks : List K1), eqGo P k fs = some ks → ∀ cs ds : List V, kOk ks cs ds →
    (∀ (i : Nat) (v : V), cs[i]? = some v → ∃ c, xs[k + i]? = some c ∧ R G w0 fr v c) → (∀ (i : Nat) (v : V), ds[i]? = some v → ∃ c, ys[k + i]? = some c ∧ R G w0 fr' v c) →
    (Op.eqFields (dd + 1) xs ys fs).run P w = .ok (ceqs cs ds) w
  | [], k, ks, hg, cs, ds, hk, hx, hy => by
    simp only [eqGo, Option.some.injEq] at hg; subst hg
    cases cs <;> cases ds <;> simp only [kOk] at hk
    simp [Op.eqFields, ceqs]
  | f :: fs, k, ks, hg, cs, ds, hk, hx, hy => by
    unfold eqGo at hg
    split at hg
    · rename_i hc
      obtain ⟨h1, h2, h3⟩ := hc
      cases hk1 : kind1 P f.type with
      | none => rw [hk1] at hg; cases hg
      | some q =>
        rw [hk1] at hg
        simp only [Option.bind_some] at hg
        obtain ⟨ks', hg', rfl⟩ := Option.map_eq_some_iff.1 hg
        have step : ∀ (a b : V) (cs' ds' : List V) (r : Bool), cs = a :: cs' → ds = b :: ds' → kOk ks' cs' ds' →
            (∀ ca cb, R G w0 fr a ca → R G w0 fr' b cb → (Op.equalIn (dd + 1) f.type ca cb).run P w = .ok r w) → (Op.eqFields (dd + 1) xs ys (f :: fs)).run P w = .ok (r && ceqs cs' ds') w := by
          intro a b cs' ds' r e1 e2 hk' heq
          subst e1; subst e2
          obtain ⟨ca, hca, ra⟩ := hx 0 a rfl
          obtain ⟨cb, hcb, rb⟩ := hy 0 b rfl
          have ih := eqFields_run (dd := dd) (xs := xs) (ys := ys) (G := G) (w0 := w0) (fr := fr) (fr' := fr') w fs (k + 1) ks' hg' cs' ds' hk'
            (fun i v hv => by have := hx (i + 1) v (by simpa using hv); rwa [show k + (i + 1) = k + 1 + i by omega] at this)
            (fun i v hv => by have := hy (i + 1) v (by simpa using hv); rwa [show k + (i + 1) = k + 1 + i by omega] at this)
          simp only [Nat.add_zero] at hca hcb
          rw [← h2] at hca hcb
          simp only [Op.eqFields, if_pos h1, Sem.run_bind, run_part_plain w h3 hca, run_part_plain w h3 hcb, Result.andThen_ok, heq ca cb ra rb]
          cases r
          · simp
          · simpa using ih
        unfold kind1 at hk1
        split at hk1
        · rename_i hu
          cases hk1
          match cs, ds, hk with
          | .int _ a :: cs', .int _ b :: ds', hk =>
            simp only [kOk] at hk
            obtain ⟨rfl, hk⟩ := hk
            rw [step _ _ cs' ds' (a == b) rfl rfl hk (fun ca cb ra rb => by rw [ra.inv_int, rb.inv_int]; exact run_equalIn_int w dd f.type _ _ a b hu)]
            simp only [ceqs]; rfl
        · rename_i hu
          cases hk1
          match cs, ds, hk with
          | .str a :: cs', .str b :: ds', hk =>
            simp only [kOk] at hk
            rw [step _ _ cs' ds' (a == b) rfl rfl hk (fun ca cb ra rb => by rw [ra.inv_str, rb.inv_str, run_equalIn_string w dd f.type a b hu, ← beq_toListBytes])]
            simp only [ceqs, beq_toListBytes, ba_eq]
        · rename_i hu
          cases hk1
          match cs, ds, hk with
          | .bool a :: cs', .bool b :: ds', hk =>
            simp only [kOk] at hk
            rw [step _ _ cs' ds' (a == b) rfl rfl hk (fun ca cb ra rb => by rw [ra.inv_bool, rb.inv_bool]; exact run_equalIn_bool' w dd f.type a b hu)]
            simp only [ceqs]
        · cases hk1
    · cases hg
theorem run_equal_agg {T : TypeId} {ks : List K1} {cs ds : List V} {xs ys : Array Value} {G : Gh} {w : World} {fr fr' : Bool} (hT : eqKinds P T = some ks) (hk : kOk ks cs ds) (hx : R G w fr (.agg cs) (.agg xs)) (hy : R G w fr' (.agg ds) (.agg ys)) :
    (Op.equalIn 10000 T (.agg xs) (.agg ys)).run P w = .ok (ceqs cs ds) w ∧ P.eqGuardType P.depth T = false := by
  unfold eqKinds at hT
  split at hT
  · rename_i fs hu
    split at hT
    · rename_i hc
      obtain ⟨h1, h2⟩ := hc
      have hf : P.fieldsOf T = fs := by unfold Program.fieldsOf; rw [hu]
      refine ⟨?_, h2⟩
      have hget : ∀ {fr : Bool} {cs : List V} {xs : Array Value}, R G w fr (.agg cs) (.agg xs) → ∀ (i : Nat) (v : V), cs[i]? = some v → ∃ c, xs[0 + i]? = some c ∧ R G w fr v c := fun {fr cs xs} h i v hv => by
        cases h with
        | agg hs ho hr =>
          have hi := (List.getElem?_eq_some_iff.1 hv).1
          have := hr i v hv
          rw [Array.getD_eq_getD_getElem?] at this
          rw [Nat.zero_add]
          rw [Array.getElem?_eq_getElem (by omega)] at this ⊢
          exact ⟨_, rfl, this⟩
      rw [run_equalIn_struct w 9999 T xs ys (by rw [hf]; exact hu) h1, hf]
      exact eqFields_run (dd := 9998) w _ _ _ hT cs ds hk (hget hx) (hget hy)
    · cases hT
  · cases hT
def binOk (P : Program) (T : TypeId) (op : BinOp) : V → V → Prop
  | .int k _, .int k' b => match op with
    | .shl | .shr => 0 ≤ b
    | .quo | .rem => k = k' ∧ b ≠ 0
    | _ => k = k'
  | .str a, .str b => match op with
    | .add => a.size + b.size ≤ 9223372036854775807
    | .eql | .neq | .lss | .leq | .gtr | .geq => True
    | _ => False
  | .bool _, .bool _ => BinOp.isEq op = true ∧ isBoolT P T = true
  | .nilp, .nilp | .ptr .., .nilp | .fp .., .nilp | .ep .., .nilp => BinOp.isEq op = true ∧ isPtrT P T = true
  | .nils, .nils => BinOp.isEq op = true ∧ isSliceT P T = true
  | .agg a, .agg b => BinOp.isEq op = true ∧ match eqKinds P T with
    | some ks => kOk ks a b
    | none => False
  | _, _ => False
theorem equalIn_succ (n : Nat) (T : TypeId) (x y : Value) (r : Bool) (w : World) (h : (Op.equalIn (n + 1) T x y).run P w = .ok r w) (hn : n + 1 = 10000) : (Op.equal T x y).run P w = .ok r w := by
  unfold Op.equal Op.maxDepth; rw [← hn]; exact h
theorem run_equal_bool {T : TypeId} (h : P.underlying T = some .bool) (a b : Bool) (w : World) : (Op.equal T (.bool a) (.bool b)).run P w = .ok (a == b) w := by
  refine equalIn_succ 9999 T _ _ _ w ?_ rfl
  rw [Op.equalIn]; simp only [Sem.run_bind, run_underlying h, Result.andThen_ok, Sem.run_pure]
theorem run_equal_nilp {T e : TypeId} (h : P.underlying T = some (.pointer e)) (w : World) : (Op.equal T (.pointer none) (.pointer none)).run P w = .ok true w := by
  refine equalIn_succ 9999 T _ _ _ w ?_ rfl
  rw [Op.equalIn]; simp only [Sem.run_bind, run_underlying h, Result.andThen_ok, Sem.run_pure, Option.isNone]
theorem run_equal_ptr {T e : TypeId} (h : P.underlying T = some (.pointer e)) (a : Addr) (w : World) : (Op.equal T (.pointer (some a)) (.pointer none)).run P w = .ok false w := by
  refine equalIn_succ 9999 T _ _ _ w ?_ rfl
  rw [Op.equalIn]; simp only [Sem.run_bind, run_underlying h, Result.andThen_ok, Sem.run_pure, Option.isNone]
theorem run_equal_nils {T e : TypeId} (h : P.underlying T = some (.slice e)) (w : World) : (Op.equal T (.slice none 0 0) (.slice none 0 0)).run P w = .ok true w := by
  refine equalIn_succ 9999 T _ _ _ w ?_ rfl
  rw [Op.equalIn]; simp only [Sem.run_bind, run_underlying h, Result.andThen_ok, Sem.run_pure, Option.isNone]
theorem run_eqGuard_ptr {op : BinOp} {T : TypeId} {x y : Operand} {a : Option Addr} {v : Value} {w : World} : (eqGuard op T x y (.pointer a) v).run P w = .ok () w := by cases op <;> rfl
theorem run_eqGuard_slice {op : BinOp} {T : TypeId} {x y : Operand} {a : Option Addr} {m n : Nat} {v : Value} {w : World} : (eqGuard op T x y (.slice a m n) v).run P w = .ok () w := by cases op <;> rfl
theorem S_binOp {op : BinOp} {T T' : TypeId} {x y : Operand} (hok : binOk P T op (ev ge st.tm x) (ev ge st.tm y)) :
    OpS P ge st ⟨d, .binOp op T x y T', t, p, af, g⟩ (binV op (ev ge st.tm x) (ev ge st.tm y)) st.h :=
  OpS_pure fun G a w hr => by
    have hx := hr.ev x
    have hy := hr.ev y
    generalize hvx : ev ge st.tm x = vx at *
    generalize hvy : ev ge st.tm y = vy at *
    generalize hcx : a.eval x = cx at *
    generalize hcy : a.eval y = cy at *
    cases hx <;> cases hy <;> try (simp only [binOk] at hok; done)
    case bool.bool b1 b2 =>
      obtain ⟨h1, h2⟩ := hok
      unfold isBoolT at h2
      split at h2
      · rename_i hu
        cases op <;> simp [BinOp.isEq] at h1
        · exact ⟨.bool (b1 == b2), by simp [execOp, hcx, hcy, eqGuard_at_bool, binOp, run_equal_bool hu], .bool⟩
        · exact ⟨.bool (!(b1 == b2)), by simp [execOp, hcx, hcy, eqGuard_at_bool, binOp, run_equal_bool hu], .bool⟩
      · cases h2
    case int.int k m k' n =>
      cases op <;> simp only [binOk] at hok <;> (try subst hok)
      case add => exact ⟨_, by simp [execOp, hcx, hcy, eqGuard_at_int, binOp, Op.intArith], .int⟩
      case sub => exact ⟨_, by simp [execOp, hcx, hcy, eqGuard_at_int, binOp, Op.intArith], .int⟩
      case mul => exact ⟨_, by simp [execOp, hcx, hcy, eqGuard_at_int, binOp, Op.intArith], .int⟩
      case quo => obtain ⟨rfl, h0⟩ := hok; exact ⟨_, by simp [execOp, hcx, hcy, eqGuard_at_int, binOp, Op.intDiv, h0], .int⟩
      case rem => obtain ⟨rfl, h0⟩ := hok; exact ⟨_, by simp [execOp, hcx, hcy, eqGuard_at_int, binOp, Op.intDiv, h0], .int⟩
      case and => exact ⟨_, by simp [execOp, hcx, hcy, eqGuard_at_int, binOp, intBits_and], .int⟩
      case or => exact ⟨_, by simp [execOp, hcx, hcy, eqGuard_at_int, binOp, intBits_or], .int⟩
      case xor => exact ⟨_, by simp [execOp, hcx, hcy, eqGuard_at_int, binOp, intBits_xor], .int⟩
      case andNot => exact ⟨_, by simp [execOp, hcx, hcy, eqGuard_at_int, binOp, intBits_andNot], .int⟩
      case shl => exact ⟨_, by simp [execOp, hcx, hcy, eqGuard_at_int, binOp, Op.shift, Int.not_lt.2 hok], .int⟩
      case shr => exact ⟨_, by simp [execOp, hcx, hcy, eqGuard_at_int, binOp, Op.shift, Int.not_lt.2 hok], .int⟩
      case eql => exact ⟨.bool (decide (m = n)), by simp [execOp, hcx, hcy, eqGuard_at_int, binOp, Op.intCmp]; rfl, .bool⟩
      case neq => exact ⟨.bool (!decide (m = n)), by simp [execOp, hcx, hcy, eqGuard_at_int, binOp, Op.intCmp, bne]; rfl, .bool⟩
      all_goals exact ⟨_, by simp [execOp, hcx, hcy, eqGuard_at_int, binOp, Op.intCmp], .bool⟩
    case str.str s1 s2 =>
      cases op <;> simp only [binOk] at hok
      case add =>
        have : ¬ ((s1.size : Int) + (s2.size : Int) > IntKind.i64.max) := by rw [IntKind.max_i64]; omega
        exact ⟨_, by simp [execOp, hcx, hcy, eqGuard_at_string, binOp, Op.stringOp]; omega, .str⟩
      all_goals exact ⟨_, by simp [execOp, hcx, hcy, eqGuard_at_string, binOp, Op.stringOp, ba_eq], .bool⟩
    case nilp.nilp =>
      obtain ⟨h1, h2⟩ := hok
      unfold isPtrT at h2
      split at h2
      · rename_i hu
        cases op <;> simp [BinOp.isEq] at h1
        · exact ⟨_, by simp [execOp, hcx, hcy, run_eqGuard_ptr, binOp, run_equal_nilp hu], .bool⟩
        · exact ⟨_, by simp [execOp, hcx, hcy, run_eqGuard_ptr, binOp, run_equal_nilp hu], .bool⟩
      · cases h2
    case nils.nils =>
      obtain ⟨h1, h2⟩ := hok
      obtain ⟨e, hu, _⟩ := isSliceT_spec h2
      cases op <;> simp [BinOp.isEq] at h1
      · exact ⟨_, by simp [execOp, hcx, hcy, run_eqGuard_slice, binOp, run_equal_nils hu], .bool⟩
      · exact ⟨_, by simp [execOp, hcx, hcy, run_eqGuard_slice, binOp, run_equal_nils hu], .bool⟩
    case agg.agg cs xs hs ho hr ds ys hs' ho' hr' =>
      obtain ⟨h1, h2⟩ := hok
      cases hk : eqKinds P T with
      | none => rw [hk] at h2; exact h2.elim
      | some ks =>
        rw [hk] at h2
        obtain ⟨e1, e2⟩ := run_equal_agg hk h2 (R.agg hs ho hr) (R.agg hs' ho' hr')
        cases op <;> simp [BinOp.isEq] at h1
        · exact ⟨_, by simp [execOp, hcx, hcy, run_eqGuard_agg w _ _ _ _ _ _ e2, run_eql_struct w, e1], .bool⟩
        · exact ⟨_, by simp [execOp, hcx, hcy, run_eqGuard_agg w _ _ _ _ _ _ e2, run_neq_struct w, e1], .bool⟩
    all_goals
      obtain ⟨h1, h2⟩ := hok
      unfold isPtrT at h2
      split at h2
      · rename_i hu
        cases op <;> simp [BinOp.isEq] at h1
        · exact ⟨_, by simp [execOp, hcx, hcy, run_eqGuard_ptr, binOp, run_equal_ptr hu], .bool⟩
        · exact ⟨_, by simp [execOp, hcx, hcy, run_eqGuard_ptr, binOp, run_equal_ptr hu], .bool⟩
      · cases h2
def unV (op : UnOp) : V → V
  | .bool b => match op with
    | .not => .bool !b
    | _ => .junk
  | .int k n => match op with
    | .neg => .int k (k.wrap (0 - n))
    | .xor => .int k (bits .xor k (if k.signed then -1 else k.max) n)
    | _ => .junk
  | _ => .junk
def unOk (op : UnOp) : V → Bool
  | .bool _ => match op with
    | .not => true
    | _ => false
  | .int .. => match op with
    | .neg | .xor => true
    | _ => false
  | _ => false
theorem S_unOp {op : UnOp} {T : TypeId} {x : Operand} (hok : unOk op (ev ge st.tm x) = true) : OpS P ge st ⟨d, .unOp op T x, t, p, af, g⟩ (unV op (ev ge st.tm x)) st.h :=
  OpS_pure fun G a w hr => by
    have hx := hr.ev x
    generalize hvx : ev ge st.tm x = vx at *
    generalize hcx : a.eval x = cx at *
    cases hx <;> cases op <;> simp [unOk] at hok
    · exact ⟨_, by simp [execOp, hcx, Op.unary], .bool⟩
    · exact ⟨_, by simp [execOp, hcx, Op.unary, Op.intArith], .int⟩
    · exact ⟨_, by simp [execOp, hcx, Op.unary, intBits_xor], .int⟩
def intKindT (P : Program) (t : TypeId) : Option IntKind := match P.underlying t with
  | some (.int k) => some k
  | _ => none
theorem S_convert_int {s e : TypeId} {x : Operand} {k k' : IntKind} {n : Int} (hx : ev ge st.tm x = .int k n) (hs : (P.underlying s).isSome = true) (he : intKindT P e = some k') :
    OpS P ge st ⟨d, .convert s e x, t, p, af, g⟩ (.int k' (k'.wrap n)) st.h :=
  OpS_pure fun G a w hr => by
    have hvx := hr.ev x
    rw [hx] at hvx
    have hc := hvx.inv_int
    obtain ⟨ds, hds⟩ := Option.isSome_iff_exists.1 hs
    unfold intKindT at he
    split at he
    · rename_i k2 hu
      cases he
      exact ⟨_, by simp [execOp, hc, convert, run_underlying hds, run_underlying hu, Conv.intToInt], .int⟩
    · cases he
theorem S_extract {x : Operand} {i : Nat} {vs : List V} {v : V} (hx : ev ge st.tm x = .tup vs) (hv : vs[i]? = some v) : OpS P ge st ⟨d, .extract x i, t, p, af, g⟩ v st.h :=
  OpS_pure fun G a w hr => by
    have hvx := hr.ev x
    rw [hx] at hvx
    generalize hcx : a.eval x = cx at *
    cases hvx with
    | @tup _ _ arr hs hr' =>
      have hi : i < arr.size := by rw [hs]; exact (List.getElem?_eq_some_iff.1 hv).1
      have h2 := hr' i v hv
      obtain ⟨c, hc⟩ : ∃ c, arr[i]? = some c := ⟨_, Array.getElem?_eq_getElem hi⟩
      rw [Array.getD_eq_getD_getElem?, hc] at h2
      exact ⟨c, by simp [execOp, hcx, Instr.extract, hc], h2⟩
theorem S_makeFunc {f : Fn} {A C : Array Operand} :
    OpS P ge st ⟨d, .makeFunc f A C, t, p, af, g⟩ (.fn f (A.toList.map (ev ge st.tm)) (C.toList.map (ev ge st.tm))) st.h :=
  OpS_pure fun G a w hr => by
    have key : ∀ (X : Array Operand) (i : Nat) (v : V), (X.toList.map (ev ge st.tm))[i]? = some v → R G w false v ((X.map a.eval).getD i undef) := fun X i v hv => by
      rw [List.getElem?_map] at hv
      obtain ⟨x, hx, rfl⟩ := Option.map_eq_some_iff.1 hv
      have hx' : X[i]? = some x := by simpa using hx
      rw [Array.getD_eq_getD_getElem?, Array.getElem?_map, hx']
      exact hr.ev x
    exact ⟨.func f (A.map a.eval) (C.map a.eval), rfl, .fn (by simp) (key A) (by simp) (key C)⟩
def V.notNil : V → Bool
  | .fp .. | .ptr .. | .ep .. => true
  | _ => false
theorem run_nilCheck_ptr {ρ : Operand → Value} {x : Operand} {k : Addr} (h : ρ x = .pointer (some k)) {w : World} : (execOp ρ ⟨d, .nilCheck x, t, p, af, g⟩).run P w = .ok (.value (ρ x)) w := by
  unfold execOp
  simp only []
  rw [h]
  rfl
theorem S_nilCheck {x : Operand} (hx : (ev ge st.tm x).notNil = true) : OpS P ge st ⟨d, .nilCheck x, t, p, af, g⟩ (ev ge st.tm x) st.h :=
  OpS_pure fun G a w hr => by
    have hvx := hr.ev x
    obtain ⟨k, hk⟩ : ∃ k, a.eval x = .pointer (some k) := by
      generalize hvx' : ev ge st.tm x = vx at *
      generalize hcx : a.eval x = cx at *
      cases hvx <;> simp [V.notNil] at hx <;> exact ⟨_, rfl⟩
    exact ⟨a.eval x, run_nilCheck_ptr hk, hvx⟩
theorem S_nilCheck_fn {x : Operand} {f : Nat} {A B : List V} (hx : ev ge st.tm x = .fn (.func f) A B) : OpS P ge st ⟨d, .nilCheck x, t, p, af, g⟩ (.fn (.func f) A B) st.h :=
  OpS_pure fun G a w hr => by
    have hvx := hr.ev x
    rw [hx] at hvx
    refine ⟨a.eval x, ?_, hvx⟩
    generalize hcx : a.eval x = cx at *
    cases hvx; simp only [execOp, hcx]; rfl
def lenV : V → V
  | .str s => .int .i64 s.size
  | .vec _ n => .int .i64 n
  | .ref _ _ _ n => .int .i64 n
  | .nils => .int .i64 0
  | _ => .junk
def isStrT (P : Program) (t : TypeId) : Bool := match P.underlying t with
  | some .string => true
  | _ => false
def lenOk (P : Program) (T : TypeId) : V → Bool
  | .str _ => isStrT P T
  | .vec .. | .ref .. | .nils => isSliceT P T
  | _ => false
theorem isStrT_spec {t : TypeId} (h : isStrT P t = true) : P.underlying t = some .string := by
  unfold isStrT at h
  split at h
  · assumption
  · cases h
theorem S_len {x : Operand} {T : TypeId} {ts : Array TypeId} (ht : ts[0]? = some T) (hok : lenOk P T (ev ge st.tm x) = true) :
    OpS P ge st ⟨d, .call { callee := .builtin .len, args := #[x], argTypes := ts }, t, p, af, g⟩ (lenV (ev ge st.tm x)) st.h :=
  OpS_pure fun G a w hr => by
    have hx := hr.ev x
    generalize hvx : ev ge st.tm x = vx at *
    generalize hcx : a.eval x = cx at *
    cases hx <;> simp [lenOk] at hok
    case str s => exact ⟨_, by simp [execOp, resolve, invoke, builtin, hcx, Builtin.len_, ht, run_underlying (isStrT_spec hok), goInt], .int⟩
    all_goals
      obtain ⟨e, he, _⟩ := isSliceT_spec hok
      exact ⟨_, by simp [execOp, resolve, invoke, builtin, hcx, Builtin.len_, ht, run_underlying he, goInt], .int⟩
theorem S_index_str {s : TypeId} {x y : Operand} {b : ByteArray} {k : IntKind} {i : Int} (hs : isStrT P s = true) (hx : ev ge st.tm x = .str b) (hy : ev ge st.tm y = .int k i) (h0 : 0 ≤ i) (h1 : i < b.size) :
    OpS P ge st ⟨d, .index s x y, t, p, af, g⟩ (.int .u8 ((b.data.toList.getD i.toNat 0).toNat)) st.h :=
  OpS_pure fun G a w hr => by
    have hvx := hr.ev x
    have hvy := hr.ev y
    rw [hx] at hvx; rw [hy] at hvy
    have hcx := hvx.inv_str
    have hcy := hvy.inv_int
    have hlt : i.toNat < b.size := by omega
    have hget : b[i.toNat]? = some (b.data.toList.getD i.toNat 0) := by
      have h2 : i.toNat < b.data.toList.length := by simpa using hlt
      rw [getElem?_pos b i.toNat hlt, List.getD, List.getElem?_eq_getElem h2]
      rfl
    refine ⟨_, ?_, .int⟩
    simp [execOp, Instr.index, hcx, hcy, asIntOf, run_underlying (isStrT_spec hs), h0, hget]
def spl (cs : List V) (off : Nat) (vs : List V) : List V := cs.take off ++ vs ++ cs.drop (off + vs.length)
def fillV (P : Program) (fs : Array Field) : List V → List (Nat × V) → List V
  | cs, [] => cs
  | cs, (i, v) :: r => match fs[i]? with
    | some f => fillV P fs (spl cs f.offset v.cellsOf) r
    | none => []
def fillOk (P : Program) (fs : Array Field) : Nat → List (Nat × V) → Bool
  | _, [] => true
  | n, (i, v) :: r => match fs[i]? with
    | some f => v.cellsOk && v.cellsOf.length == szOf P f.type && decide (f.offset + v.cellsOf.length ≤ n) && fillOk P fs n r
    | none => false
theorem foldl_splice (off : Nat) : ∀ (vs : List Value) (cs : Array Value) (j : Nat), off + j + vs.length ≤ cs.size →
    ((vs.zipIdx j).foldl (fun cs (x : Value × Nat) => cs.setIfInBounds (off + x.2) x.1) cs).toList = cs.toList.take (off + j) ++ vs ++ cs.toList.drop (off + j + vs.length)
  | [], cs, j, h => by simp
  | v :: r, cs, j, h => by
    simp only [List.length_cons] at h
    simp only [List.zipIdx_cons, List.foldl_cons]
    rw [foldl_splice off r _ (j + 1) (by simp; omega)]
    simp only [Array.toList_setIfInBounds, List.length_cons]
    have hlt : off + j < cs.toList.length := by simp; omega
    apply List.ext_getElem?
    intro i
    have hl2 : (cs.toList.set (off + j) v).length = cs.toList.length := List.length_set ..
    have e2 := splice_get (cs.toList.set (off + j) v) (off + (j + 1)) r (by rw [hl2]; simp; omega) i
    have e3 := splice_get cs.toList (off + j) (v :: r) (by simp; omega) i
    simp only [List.length_cons] at e3
    rw [e2, e3]
    by_cases h1 : off + (j + 1) ≤ i ∧ i < off + (j + 1) + r.length
    · rw [if_pos h1, if_pos (by omega)]
      have : i - (off + j) = (i - (off + (j + 1))) + 1 := by omega
      rw [this, List.getElem?_cons_succ]
    · rw [if_neg h1, List.getElem?_set]
      by_cases h2 : off + j = i
      · rw [if_pos (by omega)]
        subst h2
        simp at hlt
        simp [hlt]
      · simp only [h2, if_false]
        rw [if_neg (by omega)]
theorem zipIdx_foldl (off : Nat) (vs : Array Value) (cs : Array Value) (h : off + vs.size ≤ cs.size) :
    (vs.zipIdx.foldl (fun cs (x : Value × Nat) => cs.setIfInBounds (off + x.2) x.1) cs).toList = cs.toList.take off ++ vs.toList ++ cs.toList.drop (off + vs.size) := by
  rw [← Array.foldl_toList]
  have := foldl_splice off vs.toList cs 0 (by simpa using h)
  simp only [Nat.add_zero, Array.length_toList] at this
  rw [Array.toList_zipIdx]
  exact this
def CellsR (G : Gh) (w : World) (cs : List V) (arr : Array Value) : Prop :=
  arr.size = cs.length ∧ ∀ (i : Nat) (v : V), cs[i]? = some v → (arr.getD i undef).oneCell' = true ∧ R G w false v (arr.getD i undef)
theorem CellsR.splice {cs vs : List V} {arr brr : Array Value} {off : Nat} (h : CellsR G w cs arr) (h' : CellsR G w vs brr) (hle : off + vs.length ≤ cs.length) :
    CellsR G w (spl cs off vs) (brr.zipIdx.foldl (fun cs (x : Value × Nat) => cs.setIfInBounds (off + x.2) x.1) arr) := by
  have hf := zipIdx_foldl off brr arr (by rw [h.1, h'.1]; exact hle)
  have hal : arr.toList.length = arr.size := Array.length_toList
  have hbl : brr.toList.length = brr.size := Array.length_toList
  refine ⟨?_, fun i v hv => ?_⟩
  · have := congrArg List.length hf
    have h1 := h.1; have h2 := h'.1
    simp at this
    unfold spl
    simp
    omega
  · rw [toList_getD, hf]
    have e := splice_get arr.toList off brr.toList (by rw [hal, hbl, h.1, h'.1]; exact hle) i
    rw [hbl] at e
    rw [e]
    unfold spl at hv
    rw [splice_get cs off vs hle i] at hv
    rw [h'.1]
    split
    · rename_i hi; rw [if_pos hi] at hv; rw [← toList_getD]; exact h'.2 _ v hv
    · rename_i hi; rw [if_neg hi] at hv; rw [← toList_getD]; exact h.2 _ v hv
theorem spl_length {cs vs : List V} {off : Nat} (h : off + vs.length ≤ cs.length) : (spl cs off vs).length = cs.length := by
  unfold spl; simp; omega
theorem fill_spec {fs : Array Field} {pl : Nat → Option (Nat × Nat)} (hpl : ∀ i f, fs[i]? = some f → pl i = some (f.offset, szOf P f.type)) {a : Act} {tm : List (Nat × V)}
    (hev : ∀ x, R G w false (ev ge tm x) (a.eval x)) : ∀ (parts : List (Nat × Operand)) (cs : List V) (arr : Array Value), CellsR G w cs arr →
      fillOk P fs cs.length (parts.map fun x => (x.1, ev ge tm x.2)) = true →
      ∃ arr', Instr.fill pl arr (parts.map fun x => (x.1, a.eval x.2)) = some arr' ∧ CellsR G w (fillV P fs cs (parts.map fun x => (x.1, ev ge tm x.2))) arr'
  | [], cs, arr, h, _ => ⟨arr, rfl, h⟩
  | (i, x) :: r, cs, arr, h, hok => by
    simp only [List.map_cons, fillOk] at hok
    split at hok
    · rename_i f hf
      simp only [Bool.and_eq_true, beq_iff_eq, decide_eq_true_eq] at hok
      obtain ⟨⟨⟨h1, h2⟩, h3⟩, h4⟩ := hok
      have hcs : CellsR G w (ev ge tm x).cellsOf (a.eval x).cells := cells_of (hev x) h1
      have hcs1 := hcs.1
      have h5 := h.splice hcs h3
      have hlen := spl_length h3
      obtain ⟨arr', e1, e2⟩ := fill_spec hpl hev r _ _ h5 (by rw [hlen]; exact h4)
      refine ⟨arr', ?_, ?_⟩
      · simp only [List.map_cons, Instr.fill, hpl i f hf]
        rw [if_neg]
        · exact e1
        · simp only [Bool.or_eq_true, bne_iff_ne, ne_eq, decide_eq_true_eq, not_or, Classical.not_not]
          have := h.1
          omega
      · simp only [List.map_cons, fillV, hf]; exact e2
    · cases hok
theorem mapM_places {fs : Array Field} (h : fs.toList.all (fun f => decide (0 < szOf P f.type)) = true) (w : World) :
    (fs.mapM (fun f => (do pure (f.offset, ← sizeOf f.type) : Sem (Nat × Nat)))).run P w = .ok (fs.map fun f => (f.offset, szOf P f.type)) w := by
  rw [← Array.toList_inj.1 (show (fs.toList.toArray).toList = fs.toList by simp)]
  generalize fs.toList = l at *
  rw [List.mapM_toArray]
  have key : ∀ l : List Field, l.all (fun f => decide (0 < szOf P f.type)) = true → (l.mapM (fun f => (do pure (f.offset, ← sizeOf f.type) : Sem (Nat × Nat)))).run P w = .ok (l.map fun f => (f.offset, szOf P f.type)) w := by
    intro l
    induction l with
    | nil => intro _; rfl
    | cons f r ih =>
      intro hh
      simp only [List.all_cons, Bool.and_eq_true, decide_eq_true_eq] at hh
      simp only [List.mapM_cons, Sem.run_bind, run_sizeOf rfl hh.1, Result.andThen_ok, Sem.run_pure, List.map_cons]
      rw [ih hh.2]
      rfl
  simp only [Sem.run_bind, Sem.run_map, List.map_toArray]
  rw [key l h]
  rfl
theorem S_build_struct {T : TypeId} {parts : Array (Nat × Operand)} {fs : Array Field} {zs : List V} (hu : P.underlying T = some (.struct fs)) (hz : zeroOf P T = some zs)
    (hfs : fs.toList.all (fun f => decide (0 < szOf P f.type)) = true) (hok : fillOk P fs zs.length (parts.toList.map fun x => (x.1, ev ge st.tm x.2)) = true) :
    OpS P ge st ⟨d, .build T parts, t, p, af, g⟩ (.agg (fillV P fs zs (parts.toList.map fun x => (x.1, ev ge st.tm x.2)))) st.h :=
  OpS_pure fun G a w hr => by
    obtain ⟨z, h1, _, h2, _, h3⟩ := run_zeroValue hz
    have hcr : CellsR G w zs z.cells := ⟨h2, fun i u hu => ⟨(h3 i u hu).1, (h3 i u hu).2 G w false⟩⟩
    obtain ⟨arr', e1, e2⟩ := fill_spec (P := P) (pl := fun i => (fs.map fun f => (f.offset, szOf P f.type))[i]?) (fun i f hf => by simp [hf]) (fun x => hr.ev x) parts.toList zs z.cells hcr hok
    refine ⟨.agg arr', ?_, .agg e2.1 (fun i v hv => (e2.2 i v hv).1) (fun i v hv => (e2.2 i v hv).2)⟩
    have hpm : (parts.map fun (x : Nat × Operand) => (x.1, a.eval x.2)).toList = parts.toList.map fun x => (x.1, a.eval x.2) := by simp
    have e1' := e1
    simp only [execOp, Instr.build, Sem.run_bind, h1, Result.andThen_ok, run_underlying hu, mapM_places hfs, hpm]
    rw [e1']
    rfl
/-- The cells of an array, as fields. -/
def arrFields (P : Program) (n : Nat) (e : TypeId) : Array Field := (Array.range n).map fun i => { (default : Field) with type := e, offset := i * szOf P e }
theorem fill_plus {pl pl' : Nat → Option (Nat × Nat)} : ∀ (parts : List (Nat × Value)) (cs : Array Value) {r : Array Value}, (∀ i x, pl i = some x → pl' i = some x) → Instr.fill pl cs parts = some r → Instr.fill pl' cs parts = some r
  | [], cs, r, _, h => h
  | (i, v) :: rest, cs, r, hp, h => by
    unfold Instr.fill at h ⊢
    cases hi : pl i with
    | none => rw [hi] at h; cases h
    | some x =>
      rw [hi] at h
      rw [hp i x hi]
      simp only at h ⊢
      split at h
      · cases h
      · rename_i hc
        rw [if_neg hc]
        exact fill_plus rest _ hp h
theorem S_build_array {T : TypeId} {parts : Array (Nat × Operand)} {n : Nat} {e : TypeId} {zs : List V} (hu : P.underlying T = some (.array n e)) (hz : zeroOf P T = some zs)
    (hsz : 0 < szOf P e) (hok : fillOk P (arrFields P n e) zs.length (parts.toList.map fun x => (x.1, ev ge st.tm x.2)) = true) :
    OpS P ge st ⟨d, .build T parts, t, p, af, g⟩ (.agg (fillV P (arrFields P n e) zs (parts.toList.map fun x => (x.1, ev ge st.tm x.2)))) st.h :=
  OpS_pure fun G a w hr => by
    obtain ⟨z, h1, _, h2, _, h3⟩ := run_zeroValue hz
    have hcr : CellsR G w zs z.cells := ⟨h2, fun i u hu => ⟨(h3 i u hu).1, (h3 i u hu).2 G w false⟩⟩
    obtain ⟨arr', e1, e2⟩ := fill_spec (P := P) (pl := fun i => ((arrFields P n e).map fun f => (f.offset, szOf P f.type))[i]?) (fun i f hf => by simp [hf]) (fun x => hr.ev x) parts.toList zs z.cells hcr hok
    refine ⟨.agg arr', ?_, .agg e2.1 (fun i v hv => (e2.2 i v hv).1) (fun i v hv => (e2.2 i v hv).2)⟩
    have hpm : (parts.map fun (x : Nat × Operand) => (x.1, a.eval x.2)).toList = parts.toList.map fun x => (x.1, a.eval x.2) := by simp
    have e1' := fill_plus (pl' := fun i => some (i * szOf P e, szOf P e)) _ _ (fun i x hx => by
      simp only [arrFields, Array.map_map, Array.getElem?_map] at hx
      obtain ⟨j, hj, rfl⟩ := Option.map_eq_some_iff.1 hx
      have hji : j = i := by
        rw [Array.getElem?_range] at hj
        split at hj
        · cases hj; rfl
        · cases hj
      subst hji; rfl) e1
    simp only [execOp, Instr.build, Sem.run_bind, h1, Result.andThen_ok, run_underlying hu, run_sizeOf rfl hsz, hpm]
    rw [e1']
    rfl
end
end Go.AM
end
