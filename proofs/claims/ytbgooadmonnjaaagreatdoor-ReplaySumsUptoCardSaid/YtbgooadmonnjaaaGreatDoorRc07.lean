/-
  YtbgooadmonnjaaaGreatDoorRc07: steps of the proof of a law of the program: what these texts prove holds under the hypotheses that their theorems name, and no others.
-/
import Derived.Test.YtbgooadmonnjaaaGreatDoorRc06
import Derived.Laws.IdiomStrings
section
set_option linter.unusedVariables false
set_option linter.unusedSimpArgs false
namespace Go.AM
def elemOf (P : Program) (T : TypeId) : TypeId := match P.underlying T with
  | some (.slice e) => e
  | _ => 0
def fieldsOf (P : Program) (T : TypeId) : Array Field := match P.underlying T with
  | some (.struct fs) => fs
  | some (.array n e) => arrFields P n e
  | _ => #[]
def isStructT (P : Program) (T : TypeId) : Bool := match P.underlying T with
  | some (.struct _) => true
  | some (.array _ e) => decide (0 < szOf P e)
  | _ => false
def zeroD (P : Program) (T : TypeId) : List V := (zeroOf P T).getD []
def fldOk (P : Program) (T : TypeId) : Bool := (fieldsOf P T).toList.all fun f => decide (0 < szOf P f.type)
/-- A field's place and size. -/
def fInfo (P : Program) (T : TypeId) (i : Nat) : Option (Nat × Nat) := ((fieldsOf P T)[i]?).map fun f => (f.offset, szOf P f.type)
def fillW (P : Program) (T : TypeId) : List V → List (Nat × V) → List V
  | cs, [] => cs
  | cs, (i, v) :: r => match fInfo P T i with
    | some (o, _) => fillW P T (spl cs o v.cellsOf) r
    | none => []
def fillWOk (P : Program) (T : TypeId) (n : Nat) : List (Nat × V) → Prop
  | [] => True
  | (i, v) :: r => match fInfo P T i with
    | some (o, s) => v.cellsOk = true ∧ v.cellsOf.length = s ∧ o + v.cellsOf.length ≤ n ∧ fillWOk P T n r
    | none => False
theorem fillW_eq {P : Program} {T : TypeId} : ∀ (ps : List (Nat × V)) (cs : List V), fillW P T cs ps = fillV P (fieldsOf P T) cs ps
  | [], cs => rfl
  | (i, v) :: r, cs => by
    unfold fillW fillV fInfo
    cases (fieldsOf P T)[i]? with
    | none => rfl
    | some f => exact fillW_eq r _
theorem fillWOk_eq {P : Program} {T : TypeId} {n : Nat} : ∀ (ps : List (Nat × V)), fillWOk P T n ps → fillOk P (fieldsOf P T) n ps = true
  | [], _ => rfl
  | (i, v) :: r, h => by
    unfold fillWOk fInfo at h
    unfold fillOk
    cases hf : (fieldsOf P T)[i]? with
    | none => rw [hf] at h; exact h.elim
    | some f =>
      rw [hf] at h
      obtain ⟨h1, h2, h3, h4⟩ := h
      rw [h2] at h3
      simp [h1, h2, h3, fillWOk_eq r h4]
def partsV (ge : GEnv) (tm : List (Nat × V)) : List (Nat × Operand) → List (Nat × V)
  | [] => []
  | (i, x) :: r => (i, ev ge tm x) :: partsV ge tm r
theorem partsV_eq (ge : GEnv) (tm : List (Nat × V)) (l : List (Nat × Operand)) : partsV ge tm l = l.map fun x => (x.1, ev ge tm x.2) := by
  induction l with
  | nil => rfl
  | cons a r ih => obtain ⟨i, x⟩ := a; simp only [partsV, List.map_cons, ih]
def evs (ge : GEnv) (tm : List (Nat × V)) : List Operand → List V
  | [] => []
  | x :: r => ev ge tm x :: evs ge tm r
theorem evs_eq (ge : GEnv) (tm : List (Nat × V)) (l : List Operand) : evs ge tm l = l.map (ev ge tm) := by
  induction l with
  | nil => rfl
  | cons a r ih => simp only [evs, List.map_cons, ih]
def loadVal (P : Program) (h : List B) (e : TypeId) (v : V) : V := match place h v with
  | some (cs, off) => loadV P e cs off
  | none => .junk
def loadGood (P : Program) (h : List B) (e : TypeId) (v : V) : Prop := match place h v with
  | some (cs, off) => loadOk P e cs off
  | none => False
def storeH (h : List B) (a v : V) : List B := match a with
  | .ptr b off => match h[b]? with
    | some (.var cs) => h.set b (.var (storeL cs off v.cellsOf))
    | _ => h
  | .ep b gg i off => match h[b]? with
    | some (.row T g fzn flat xs) => h.set b (.row T g fzn flat (xs.set i (storeL (xs.getD i []) off v.cellsOf)))
    | _ => h
  | _ => h
def storeGood (P : Program) (h : List B) (e : TypeId) (a v : V) : Prop := v.cellsOk = true ∧ szOf P e = v.cellsOf.length ∧ 0 < szOf P e ∧ match a with
  | .ptr b off => match h[b]? with
    | some (.var cs) => off + v.cellsOf.length ≤ cs.length
    | _ => False
  | .ep b gg i off => match h[b]? with
    | some (.row T g fzn flat xs) => gg = g ∧ fzn ≤ i ∧ i < xs.length ∧ off + v.cellsOf.length ≤ (xs.getD i []).length ∧ (flat = true → V.isFs v.cellsOf = true)
    | _ => False
  | _ => False
def intOfV : V → Int
  | .int _ n => n
  | _ => 0
def isIntV : V → Bool
  | .int .. => true
  | _ => false
def idxVal (P : Program) (h : List B) (s : TypeId) (x y : V) : V := match x with
  | .vec xs _ => .fp (xs.getD (intOfV y).toNat []) 0
  | .ref b g off _ => .ep b g (off + (intOfV y).toNat) 0
  | v => v.addOff ((intOfV y).toNat * elemSz P s)
def idxGood (P : Program) (h : List B) (s : TypeId) (x y : V) : Prop := isIntV y = true ∧ 0 ≤ intOfV y ∧ 0 < elemSz P s ∧ match x with
  | .vec xs len => isSliceT P s = true ∧ intOfV y < len ∧ (intOfV y).toNat < xs.length ∧ (xs.getD (intOfV y).toNat []).length = elemSz P s
  | .ref b gg off len => isSliceT P s = true ∧ intOfV y < len ∧ match h[b]? with
    | some (.row T g fzn flat xs) => gg = g ∧ off + (intOfV y).toNat < xs.length ∧ (xs.getD (off + (intOfV y).toNat) []).length = elemSz P s
    | _ => False
  | v => v.isAddr = true ∧ match arrLen P s with
    | some n => intOfV y < n
    | none => False
def bytesV (l : List UInt8) : List (List V) := l.map fun c => [.int .u8 (c.toNat : Int)]
def byteOfV : List V → UInt8
  | [.int _ n] => UInt8.ofNat n.toNat
  | _ => 0
def isByteV : List V → Prop
  | [.int .u8 n] => 0 ≤ n ∧ n ≤ 255
  | _ => False
theorem bytesV_of : ∀ (xs : List (List V)), (∀ x ∈ xs, isByteV x) → bytesV (xs.map byteOfV) = xs
  | [], _ => rfl
  | x :: r, h => by
    have h1 := h x (.head _)
    have h2 := bytesV_of r fun y hy => h y (.tail _ hy)
    unfold bytesV at h2 ⊢
    rw [List.map_cons, List.map_cons, h2]
    unfold isByteV at h1
    split at h1
    · simp only [byteOfV, List.cons.injEq, V.int.injEq, true_and, and_true]
      rw [UInt8.toNat_ofNat']
      omega
    · exact h1.elim
def isBytesT (P : Program) (T : TypeId) : Bool := match P.underlying T with
  | some (.slice e) => match P.underlying e with
    | some (.int .u8) => true
    | _ => false
  | _ => false
theorem isBytesT_spec {P : Program} {T : TypeId} (h : isBytesT P T = true) : ∃ e, P.underlying T = some (.slice e) ∧ P.underlying e = some (.int .u8) := by
  unfold isBytesT at h
  split at h
  · rename_i e hu
    split at h
    · rename_i he; exact ⟨e, hu, he⟩
    · cases h
  · cases h
section
variable {P : Program} {ge : GEnv} {st : St} {Q : Exit → St → Prop}
variable {d : Option Tmp} {t : TypeId} {p : String} {af : Array Edge} {g : Option (Nat × Bool)}
theorem add_noneX (b o n : Nat) : Addr.add ⟨b, o, none⟩ n = ⟨b, o + n, none⟩ := by
  unfold Addr.add; split
  · rename_i h; subst h; rfl
  · rfl
theorem S_convBytes {src dst e : TypeId} {x : Operand} {b gg fzn : Nat} {T : TypeId} {flat : Bool} {l : List UInt8} (hs : P.underlying src = some (.slice e)) (he : P.underlying e = some (.int .u8)) (hd : P.underlying dst = some .string)
    (hx : ev ge st.tm x = .ref b gg 0 l.length) (hb : st.h[b]? = some (.row T gg fzn flat (bytesV l))) :
    OpS P ge st ⟨d, .convert src dst x, t, p, af, g⟩ (.str ⟨l.toArray⟩) st.h := by
  refine OpS_pure fun G a w hr => ⟨.string ⟨l.toArray⟩, ?_, .str⟩
  have hvx := hr.ev x
  rw [hx] at hvx
  obtain ⟨h00, hfx, ⟨hsz0, hszT⟩, hrow⟩ := hr.rh.bl b _ hb
  generalize hn : l.length = n at hvx
  generalize hc : a.eval x = c at hvx
  cases hvx with
  | @ref _ _ _ _ k hbn hg hm hle =>
    rcases hrow with ⟨hno, _⟩ | ⟨k', arr, hm', hh, hfzk, hsz, hl, hcm, hlen, hcells⟩
    · rw [hm] at hno; cases hno
    · rw [hm] at hm'; cases hm'
      subst hn
      have key := run_convert_bytes_back (P := P) w src dst e ⟨k, 0 * G.sz b, none⟩ (G.cap b gg - 0) l hs he hd (fun j hj => by
        have hx1 : (bytesV l)[j]? = some [.int .u8 (l[j].toNat : Int)] := by simp [bytesV, hj]
        have h1 := hlen j _ hx1
        have h2 := hcells j _ 0 _ hx1 rfl
        simp at h1
        rw [← h1] at h2 hsz
        have h3 := h2.2.inv_int
        have hja : j < arr.size := by rw [hsz]; have := hl; simp [bytesV] at this; omega
        rw [add_noneX, Nat.zero_mul, Nat.zero_add, arr_cell hh hja]
        simpa using h3)
      simp only [execOp, hc, Sem.run_bind, key, Result.andThen_ok, Sem.run_pure]
  | refn hbn hg hm =>
    have : l = [] := List.eq_nil_of_length_eq_zero hn
    subst this
    simp [execOp, hc, run_convert_bytes_string w src dst e none 0 0 hs he hd, Conv.bytesToString]
    rfl
end
def convVal (P : Program) (h : List B) (s e : TypeId) : V → V
  | .int _ n => match intKindT P e with
    | some k => .int k (k.wrap n)
    | none => .junk
  | .ref b _ _ _ => match h[b]? with
    | some (.row _ _ _ _ xs) => .str ⟨(xs.map byteOfV).toArray⟩
    | _ => .junk
  | _ => .junk
def convGood (P : Program) (h : List B) (s e : TypeId) : V → Prop
  | .int _ n => (P.underlying s).isSome = true ∧ (intKindT P e).isSome = true
  | .ref b gg off len => isBytesT P s = true ∧ isStrT P e = true ∧ off = 0 ∧ match h[b]? with
    | some (.row T g fzn flat xs) => gg = g ∧ len = xs.length ∧ ∀ x ∈ xs, isByteV x
    | _ => False
  | _ => False
def extVal : V → Nat → V
  | .tup vs, i => vs.getD i .junk
  | _, _ => .junk
def extGood : V → Nat → Prop
  | .tup vs, i => i < vs.length
  | _, _ => False
def sliceVal (P : Program) (ge : GEnv) (st : St) (x : V) (lo hi : Option Operand) : V := match x with
  | .str s => .str (s.extract (bndV ge st.tm lo 0) (bndV ge st.tm hi s.size))
  | .vec xs len => .vec (xs.drop (bndV ge st.tm lo 0)) (bndV ge st.tm hi len - bndV ge st.tm lo 0)
  | .fp cs _ => .vec (cs.map fun c => [c]) cs.length
  | .ref b g off len => if bndV ge st.tm lo 0 ≠ 0 ∧ bndV ge st.tm lo 0 = bndV ge st.tm hi len then .vec [] 0 else .ref b g (off + bndV ge st.tm lo 0) (bndV ge st.tm hi len - bndV ge st.tm lo 0)
  | _ => .junk
def sliceGood (P : Program) (ge : GEnv) (st : St) (T : TypeId) (x : V) (lo hi : Option Operand) : Prop := bndOk ge st.tm lo ∧ bndOk ge st.tm hi ∧ match x with
  | .str s => isStrT P T = true ∧ bndV ge st.tm lo 0 ≤ bndV ge st.tm hi s.size ∧ bndV ge st.tm hi s.size ≤ s.size
  | .vec xs len => isSliceT P T = true ∧ 0 < elemSz P T ∧ (∀ x ∈ xs, x.length = elemSz P T) ∧ bndV ge st.tm lo 0 ≤ bndV ge st.tm hi len ∧ bndV ge st.tm hi len ≤ xs.length
  | .fp cs off => off = 0 ∧ lo = none ∧ hi = none ∧ elemSz P T = 1 ∧ arrLen P T = some cs.length ∧ cs.length ≤ 140737488355328
  | .ref b gg off len => isSliceT P T = true ∧ bndV ge st.tm lo 0 ≤ bndV ge st.tm hi len ∧ match st.h[b]? with
    | some (.row T' g fzn flat xs) => gg = g ∧ szOf P T' = elemSz P T ∧ off + bndV ge st.tm hi len ≤ xs.length
    | _ => False
  | _ => False
def srcElems (h : List B) (v : V) : List (List V) := match srcOf h v with
  | some (es, _) => es
  | none => []
def srcFlat (h : List B) (v : V) : Bool := match srcOf h v with
  | some (_, f) => f
  | none => false
def appVal (P : Program) (h : List B) (T : TypeId) (x y : V) : V × List B := match x with
  | .nils => (.ref h.length 0 0 (srcElems h y).length, h ++ [.row (elemOf P T) 0 0 (srcFlat h y) (srcElems h y)])
  | .ref b gg _ len => match h[b]? with
    | some (.row e g fzn flat xs) => (.ref b (g + 1) 0 (len + (srcElems h y).length), h.set b (.row e (g + 1) fzn (flat && srcFlat h y) (xs ++ srcElems h y)))
    | _ => (.junk, h)
  | _ => (.junk, h)
def appGood (P : Program) (h : List B) (T : TypeId) (x y : V) : Prop := isSliceT P T = true ∧ (zeroOf P (elemOf P T)).isSome = true ∧ szOf P (elemOf P T) = (zeroD P (elemOf P T)).length ∧ 0 < (zeroD P (elemOf P T)).length ∧ 0 < bytesOf P (elemOf P T) ∧
  (srcOf h y).isSome = true ∧ (∀ z ∈ srcElems h y, z.length = szOf P (elemOf P T)) ∧ match x with
  | .nils => (srcElems h y).length * bytesOf P (elemOf P T) ≤ 140737488355328
  | .ref b gg off len => off = 0 ∧ match h[b]? with
    | some (.row e g fzn flat xs) => gg = g ∧ e = elemOf P T ∧ len = xs.length ∧ (xs.length + (srcElems h y).length) * bytesOf P (elemOf P T) ≤ 140737488355328
    | _ => False
  | _ => False
def maxV : V → V → V
  | .int k x, .int _ y => .int k (if y > x then y else x)
  | _, _ => .junk
def minV : V → V → V
  | .int k x, .int _ y => .int k (if y < x then y else x)
  | _, _ => .junk
section
variable {P : Program} {ge : GEnv} {st : St} {d : Option Tmp} {t : TypeId} {p : String} {af : Array Edge} {g : Option (Nat × Bool)}
theorem S_max {x y : Operand} {ts : Array TypeId} (hx : isIntV (ev ge st.tm x) = true) (hy : isIntV (ev ge st.tm y) = true) :
    OpS P ge st ⟨d, .call { callee := .builtin .max, args := #[x, y], argTypes := ts }, t, p, af, g⟩ (maxV (ev ge st.tm x) (ev ge st.tm y)) st.h :=
  OpS_pure fun G a w hr => by
    have hvx := hr.ev x
    have hvy := hr.ev y
    generalize ev ge st.tm x = vx at *
    generalize ev ge st.tm y = vy at *
    cases vx <;> simp [isIntV] at hx
    cases vy <;> simp [isIntV] at hy
    have hcx := hvx.inv_int
    have hcy := hvy.inv_int
    rename_i k1 n1 k2 n2
    exact ⟨.int k1 (if n2 > n1 then n2 else n1), by simp [execOp, resolve, invoke, builtin, hcx, hcy, Builtin.max_, Builtin.max2], .int⟩
theorem S_min {x y : Operand} {ts : Array TypeId} (hx : isIntV (ev ge st.tm x) = true) (hy : isIntV (ev ge st.tm y) = true) :
    OpS P ge st ⟨d, .call { callee := .builtin .min, args := #[x, y], argTypes := ts }, t, p, af, g⟩ (minV (ev ge st.tm x) (ev ge st.tm y)) st.h :=
  OpS_pure fun G a w hr => by
    have hvx := hr.ev x
    have hvy := hr.ev y
    generalize ev ge st.tm x = vx at *
    generalize ev ge st.tm y = vy at *
    cases vx <;> simp [isIntV] at hx
    cases vy <;> simp [isIntV] at hy
    have hcx := hvx.inv_int
    have hcy := hvy.inv_int
    rename_i k1 n1 k2 n2
    exact ⟨.int k1 (if n2 < n1 then n2 else n1), by simp [execOp, resolve, invoke, builtin, hcx, hcy, Builtin.min_, Builtin.min2], .int⟩
end
/-- What a plain operation leaves. -/
def opVal (P : Program) (ge : GEnv) (st : St) : Op → V × List B
  | .move x => (ev ge st.tm x, st.h)
  | .assign x => (ev ge st.tm x, st.h)
  | .pick a b c => (pickV (ev ge st.tm a) (ev ge st.tm b) (ev ge st.tm c), st.h)
  | .alloc e => (.ptr st.h.length 0, st.h ++ [.var (zeroD P e)])
  | .box _ x => (.ptr st.h.length 0, st.h ++ [.var (ev ge st.tm x).cellsOf])
  | .build T parts => (.agg (fillW P T (zeroD P T) (partsV ge st.tm parts.toList)), st.h)
  | .buildSlice T len parts => (.ref st.h.length 0 0 len, st.h ++ [.row (elemOf P T) 0 0 (partsF (partsV ge st.tm parts.toList)) (rowsV (List.replicate len (zeroD P (elemOf P T))) (partsV ge st.tm parts.toList))])
  | .load e x => (loadVal P st.h e (ev ge st.tm x), st.h)
  | .store _ x y => (.void, storeH st.h (ev ge st.tm x) (ev ge st.tm y))
  | .nilCheck x => (ev ge st.tm x, st.h)
  | .binOp op _ x y _ => (binV op (ev ge st.tm x) (ev ge st.tm y), st.h)
  | .unOp op _ x => (unV op (ev ge st.tm x), st.h)
  | .convert s e x => (convVal P st.h s e (ev ge st.tm x), st.h)
  | .fieldAddr s x f => ((ev ge st.tm x).addOff ((fieldOff P s f).getD 0), st.h)
  | .indexAddr s x y => (idxVal P st.h s (ev ge st.tm x) (ev ge st.tm y), st.h)
  | .index _ x y => (match ev ge st.tm x with
    | .str b => .int .u8 ((b.data.toList.getD (intOfV (ev ge st.tm y)).toNat 0).toNat)
    | _ => .junk, st.h)
  | .extract x i => (extVal (ev ge st.tm x) i, st.h)
  | .makeFunc f A C => (.fn f (evs ge st.tm A.toList) (evs ge st.tm C.toList), st.h)
  | .makeSlice T x _ => (.ref st.h.length 0 0 (intOfV (ev ge st.tm x)).toNat, st.h ++ [.row (elemOf P T) 0 0 true (List.replicate (intOfV (ev ge st.tm x)).toNat (zeroD P (elemOf P T)))])
  | .slice _ x lo hi none => (sliceVal P ge st (ev ge st.tm x) lo hi, st.h)
  | .call { callee := .builtin .len, args := xs, .. } => (lenV (ev ge st.tm (xs.getD 0 default)), st.h)
  | .call { callee := .builtin .max, args := xs, .. } => (maxV (ev ge st.tm (xs.getD 0 default)) (ev ge st.tm (xs.getD 1 default)), st.h)
  | .call { callee := .builtin .min, args := xs, .. } => (minV (ev ge st.tm (xs.getD 0 default)) (ev ge st.tm (xs.getD 1 default)), st.h)
  | .call { callee := .builtin .append, args := xs, argTypes := ts } => appVal P st.h (ts.getD 0 0) (ev ge st.tm (xs.getD 0 default)) (ev ge st.tm (xs.getD 1 default))
  | _ => (.junk, st.h)
def nilOk : V → Bool
  | .fn (.func _) _ _ => true
  | v => v.notNil
def opOk (P : Program) (ge : GEnv) (st : St) : Op → Prop
  | .move _ | .assign _ => True
  | .pick a _ _ => (ev ge st.tm a).isBool = true
  | .alloc e => (zeroOf P e).isSome = true
  | .box _ x => (ev ge st.tm x).cellsOk = true
  | .build T parts => isStructT P T = true ∧ (zeroOf P T).isSome = true ∧ fldOk P T = true ∧ fillWOk P T (zeroD P T).length (partsV ge st.tm parts.toList)
  | .buildSlice T len parts => isSliceT P T = true ∧ (zeroOf P (elemOf P T)).isSome = true ∧ szOf P (elemOf P T) = (zeroD P (elemOf P T)).length ∧ 0 < (zeroD P (elemOf P T)).length ∧ ((len = 0 ∧ parts = #[]) ∨ (0 < len ∧ len * (zeroD P (elemOf P T)).length ≤ 16777216)) ∧ rowsOk (zeroD P (elemOf P T)).length len (partsV ge st.tm parts.toList) = true
  | .load e x => loadGood P st.h e (ev ge st.tm x)
  | .store e x y => storeGood P st.h e (ev ge st.tm x) (ev ge st.tm y)
  | .nilCheck x => nilOk (ev ge st.tm x) = true
  | .binOp op T x y _ => binOk P T op (ev ge st.tm x) (ev ge st.tm y)
  | .unOp op _ x => unOk op (ev ge st.tm x) = true
  | .convert s e x => convGood P st.h s e (ev ge st.tm x)
  | .fieldAddr s x f => (fieldOff P s f).isSome = true ∧ (ev ge st.tm x).isAddr = true
  | .indexAddr s x y => idxGood P st.h s (ev ge st.tm x) (ev ge st.tm y)
  | .index s x y => isStrT P s = true ∧ isIntV (ev ge st.tm y) = true ∧ 0 ≤ intOfV (ev ge st.tm y) ∧ match ev ge st.tm x with
    | .str b => intOfV (ev ge st.tm y) < b.size
    | _ => False
  | .extract x i => extGood (ev ge st.tm x) i
  | .makeFunc _ _ _ => True
  | .makeSlice T x y => isSliceT P T = true ∧ (zeroOf P (elemOf P T)).isSome = true ∧ szOf P (elemOf P T) = (zeroD P (elemOf P T)).length ∧ 0 < (zeroD P (elemOf P T)).length ∧ isIntV (ev ge st.tm x) = true ∧ isIntV (ev ge st.tm y) = true ∧
      0 ≤ intOfV (ev ge st.tm x) ∧ intOfV (ev ge st.tm x) ≤ intOfV (ev ge st.tm y) ∧ intOfV (ev ge st.tm y) * bytesOf P (elemOf P T) ≤ 281474976710656 ∧ 0 < bytesOf P (elemOf P T)
  | .slice T x lo hi none => sliceGood P ge st T (ev ge st.tm x) lo hi
  | .call { callee := .builtin .len, args := xs, argTypes := ts } => xs.size = 1 ∧ ts.size = 1 ∧ lenOk P (ts.getD 0 0) (ev ge st.tm (xs.getD 0 default)) = true
  | .call { callee := .builtin .max, args := xs, .. } => xs.size = 2 ∧ isIntV (ev ge st.tm (xs.getD 0 default)) = true ∧ isIntV (ev ge st.tm (xs.getD 1 default)) = true
  | .call { callee := .builtin .min, args := xs, .. } => xs.size = 2 ∧ isIntV (ev ge st.tm (xs.getD 0 default)) = true ∧ isIntV (ev ge st.tm (xs.getD 1 default)) = true
  | .call { callee := .builtin .append, args := xs, argTypes := ts } => xs.size = 2 ∧ ts.size = 2 ∧ ts.getD 1 0 = ts.getD 0 0 ∧ appGood P st.h (ts.getD 0 0) (ev ge st.tm (xs.getD 0 default)) (ev ge st.tm (xs.getD 1 default))
  | _ => False
section
variable {P : Program} {ge : GEnv} {st : St} {Q : Exit → St → Prop}
variable {d : Option Tmp} {t : TypeId} {p : String} {af : Array Edge} {g : Option (Nat × Bool)}
theorem arr1 {α : Type} [Inhabited α] {xs : Array α} (h : xs.size = 1) : xs = #[xs.getD 0 default] := by
  apply Array.ext
  · simp [h]
  · intro i h1 h2
    have : i = 0 := by omega
    subst this
    simp [Array.getD, h1]
theorem arr2 {α : Type} [Inhabited α] {xs : Array α} (h : xs.size = 2) : xs = #[xs.getD 0 default, xs.getD 1 default] := by
  apply Array.ext
  · simp [h]
  · intro i h1 h2
    have : i = 0 ∨ i = 1 := by omega
    rcases this with rfl | rfl <;> simp [Array.getD, h]
theorem getD_some {α : Type} {o : Option α} {d : α} (h : o.isSome = true) : o = some (o.getD d) := by
  cases o with
  | none => cases h
  | some a => rfl
theorem list_getD {α : Type} {xs : List α} {i : Nat} {d : α} (h : i < xs.length) : xs[i]? = some (xs.getD i d) := by
  rw [List.getD, List.getElem?_eq_getElem h]; rfl
theorem isInt_spec {v : V} (h : isIntV v = true) : ∃ k, v = .int k (intOfV v) := by
  cases v <;> simp [isIntV] at h
  exact ⟨_, rfl⟩
theorem opS_of_ok {op : Op} (h : opOk P ge st op) : OpS P ge st ⟨d, op, t, p, af, g⟩ (opVal P ge st op).1 (opVal P ge st op).2 := by
  unfold opOk at h
  split at h
  · exact S_move
  · exact S_assign
  · exact S_pick h
  · exact S_alloc (getD_some h)
  · exact S_box h
  · rename_i T parts
    obtain ⟨h1, h2, h3, h4⟩ := h
    unfold isStructT at h1
    split at h1
    · rename_i fs hu
      have hf : fieldsOf P T = fs := by unfold fieldsOf; rw [hu]
      simp only [opVal]
      rw [fillW_eq]
      have h4 := fillWOk_eq _ h4
      rw [partsV_eq] at h4 ⊢
      unfold fldOk at h3
      rw [hf] at h3 h4 ⊢
      exact S_build_struct hu (getD_some h2) h3 h4
    · rename_i n e hu
      have hf : fieldsOf P T = arrFields P n e := by unfold fieldsOf; rw [hu]
      simp only [opVal]
      rw [fillW_eq]
      have h4 := fillWOk_eq _ h4
      rw [partsV_eq] at h4 ⊢
      rw [hf] at h4 ⊢
      exact S_build_array hu (getD_some h2) (of_decide_eq_true h1) h4
    · cases h1
  · rename_i T len parts
    obtain ⟨h1, h2, h3, h4, h5, h6⟩ := h
    obtain ⟨e, hu, _⟩ := isSliceT_spec h1
    have he : elemOf P T = e := by unfold elemOf; rw [hu]
    simp only [opVal]
    rw [he] at h2 h3 h4 h5 h6 ⊢
    rcases h5 with ⟨rfl, rfl⟩ | ⟨h5, h7⟩
    · exact S_buildSlice0 hu (by omega)
    · rw [partsV_eq] at h6 ⊢
      exact S_buildSlice hu (getD_some h2) h3 h4 h5 h7 h6 _ id
  · rename_i e x
    unfold loadGood at h
    simp only [opVal, loadVal]
    split at h
    · rename_i cs off hp; first | exact S_load hp h | (rw [hp]; exact S_load hp h)
    · exact h.elim
  · rename_i e x y
    obtain ⟨h1, h2, h3, h4⟩ := h
    simp only [opVal]
    split at h4
    · rename_i b off hx
      split at h4
      · rename_i cs hb
        (try rw [hx]); try simp only [storeH, hb]
        exact S_store_var hx hb h1 h2 h3 h4
      · exact h4.elim
    · rename_i b gg i off hx
      split at h4
      · rename_i T g' fzn flat xs hb
        obtain ⟨rfl, a1, a2, a3, a4⟩ := h4
        (try rw [hx]); try simp only [storeH, hb]
        exact S_store_row hx hb (list_getD a2) a1 h1 a4 h2 h3 a3
      · exact h4.elim
    · exact h4.elim
  · rename_i x
    simp only [opVal]
    cases hv : ev ge st.tm x <;> rw [hv] at h <;> simp only [nilOk, V.notNil] at h <;> try (cases h; done)
    · rw [← hv]; exact S_nilCheck (by rw [hv]; rfl)
    · rw [← hv]; exact S_nilCheck (by rw [hv]; rfl)
    · rw [← hv]; exact S_nilCheck (by rw [hv]; rfl)
    · rename_i f A C
      cases f <;> simp only at h <;> try (cases h; done)
      exact S_nilCheck_fn hv
  · exact S_binOp h
  · exact S_unOp h
  · rename_i s e x
    simp only [opVal]
    unfold convGood at h
    split at h
    · rename_i k n hx
      obtain ⟨h1, h2⟩ := h
      obtain ⟨k', hk⟩ := Option.isSome_iff_exists.1 h2
      (try rw [hx]); try simp only [convVal, hk]
      exact S_convert_int hx h1 hk
    · rename_i b gg off len hx
      obtain ⟨h1, h2, rfl, h3⟩ := h
      obtain ⟨e', hs, he⟩ := isBytesT_spec h1
      split at h3
      · rename_i T g' fzn flat xs hb
        obtain ⟨rfl, rfl, h4⟩ := h3
        have hb' := hb
        rw [← bytesV_of xs h4] at hb'
        (try rw [hx]); try simp only [convVal, hb]
        exact S_convBytes hs he (isStrT_spec h2) (by rw [hx]; simp) hb'
      · exact h3.elim
    · exact h.elim
  · rename_i s x f
    obtain ⟨h1, h2⟩ := h
    exact S_fieldAddr (getD_some h1) h2
  · rename_i s x y
    obtain ⟨h1, h2, h3, h4⟩ := h
    obtain ⟨k, hk⟩ := isInt_spec h1
    simp only [opVal, idxVal]
    split at h4
    · rename_i xs len hx
      obtain ⟨a1, a2, a3, a4⟩ := h4
      try rw [hx]
      exact S_index_vec a1 hx hk h2 a2 (list_getD a3) a4 h3
    · rename_i b gg off len hx
      obtain ⟨a1, a2, a3⟩ := h4
      split at a3
      · rename_i T g' fzn flat xs hb
        obtain ⟨rfl, a4, a5⟩ := a3
        try rw [hx]
        exact S_index_ref a1 hx hb hk h2 a2 (list_getD a4) a5 h3
      · exact a3.elim
    · rename_i hn1 hn2
      obtain ⟨a1, a2⟩ := h4
      split at a2
      · rename_i n hn
        have key := S_index_arr (P := P) (ge := ge) (st := st) (d := d) (t := t) (p := p) (af := af) (g := g) hn a1 hk h2 a2 h3
        exact key
      · exact a2.elim
  · rename_i s x y
    obtain ⟨h1, h2, h3, h4⟩ := h
    obtain ⟨k, hk⟩ := isInt_spec h2
    simp only [opVal]
    split at h4
    · rename_i b hx
      (try rw [hx]); (try simp only)
      exact S_index_str h1 hx hk h3 h4
    · exact h4.elim
  · rename_i x i
    simp only [opVal]
    cases hv : ev ge st.tm x <;> rw [hv] at h <;> simp only [extGood] at h
    exact S_extract hv (list_getD h)
  · rename_i f A C
    simp only [opVal]
    rw [evs_eq, evs_eq]
    exact S_makeFunc
  · rename_i T x y
    obtain ⟨h1, h2, h3, h4, h5, h6, h7, h8, h9, h10⟩ := h
    obtain ⟨e, hu, _⟩ := isSliceT_spec h1
    have he : elemOf P T = e := by unfold elemOf; rw [hu]
    obtain ⟨k, hk⟩ := isInt_spec h5
    obtain ⟨k', hk'⟩ := isInt_spec h6
    simp only [opVal]
    rw [he] at h2 h3 h4 h9 h10 ⊢
    exact S_makeSlice hu (getD_some h2) h3 h4 hk hk' h7 h8 h9 h10
  · rename_i T x lo hi
    obtain ⟨h1, h2, h3⟩ := h
    simp only [opVal]
    split at h3
    · rename_i s hx
      obtain ⟨a1, a2, a3⟩ := h3
      (try rw [hx]); exact S_slice_str a1 hx h1 h2 a2 a3
    · rename_i xs len hx
      obtain ⟨a1, a2, a3, a4, a5⟩ := h3
      (try rw [hx]); exact S_slice_vec a1 a2 hx a3 h1 h2 a4 a5
    · rename_i cs off hx
      obtain ⟨rfl, rfl, rfl, a4, a5, a6⟩ := h3
      (try rw [hx]); exact S_slice_fp hx a5 a4 (by unfold maxLen; omega)
    · rename_i b gg off len hx
      obtain ⟨a1, a2, a3⟩ := h3
      split at a3
      · rename_i T' g' fzn flat xs hb
        obtain ⟨rfl, a4, a5⟩ := a3
        (try rw [hx]); simp only [sliceVal]
        split
        · rename_i hemp
          exact S_slice_ref_emp a1 a4 hx hb h1 h2 hemp.2 a5
        · rename_i hemp
          exact S_slice_ref a1 a4 hx hb h1 h2 a2 a5 (by omega)
      · exact a3.elim
    · exact h3.elim
  · rename_i xs ts
    obtain ⟨h1, h2, h3⟩ := h
    have e1 := arr1 h1
    generalize hX : xs.getD 0 default = X at *
    subst e1
    simp only [opVal, hX]
    refine S_len (T := ts.getD 0 0) ?_ h3
    rw [arr1 h2]; rfl
  · rename_i xs ts
    obtain ⟨h1, h2, h3⟩ := h
    have e1 := arr2 h1
    generalize hX : xs.getD 0 default = X at *
    generalize hY : xs.getD 1 default = Y at *
    subst e1
    simp only [opVal, hX, hY]
    exact S_max h2 h3
  · rename_i xs ts
    obtain ⟨h1, h2, h3⟩ := h
    have e1 := arr2 h1
    generalize hX : xs.getD 0 default = X at *
    generalize hY : xs.getD 1 default = Y at *
    subst e1
    simp only [opVal, hX, hY]
    exact S_min h2 h3
  · rename_i xs ts
    obtain ⟨h1, h2, h3, h4⟩ := h
    have e1 := arr2 h1
    have e2 := arr2 h2
    generalize hX : xs.getD 0 default = X at *
    generalize hY : xs.getD 1 default = Y at *
    subst e1
    simp only [opVal, hX, hY]
    have hts : ts = #[ts.getD 0 0, ts.getD 0 0] := by
      conv => lhs; rw [e2]
      have : ts.getD 1 default = ts.getD 0 0 := h3
      rw [this]; rfl
    generalize hT : ts.getD 0 0 = T at *
    obtain ⟨b1, b2, b3, b4, b5, b6, b7, b8⟩ := h4
    obtain ⟨e, hu, _⟩ := isSliceT_spec b1
    have he : elemOf P T = e := by unfold elemOf; rw [hu]
    obtain ⟨⟨es, fl⟩, hsrc⟩ := Option.isSome_iff_exists.1 b6
    have hse : srcElems st.h (ev ge st.tm Y) = es := by unfold srcElems; rw [hsrc]
    have hsf : srcFlat st.h (ev ge st.tm Y) = fl := by unfold srcFlat; rw [hsrc]
    rw [hse] at b7 b8
    rw [he] at b2 b3 b4 b5 b7 b8
    simp only [appVal, hse, hsf, he]
    split at b8
    · rename_i hx
      (try rw [hx]); (try simp only)
      exact S_append_nils hts hu (getD_some b2) b3 b4 hx hsrc b7 b8 b5
    · rename_i b gg off len hx
      obtain ⟨rfl, b9⟩ := b8
      split at b9
      · rename_i e' g' fzn flat ys hb
        obtain ⟨rfl, rfl, rfl, b10⟩ := b9
        (try rw [hx]); try simp only [hb]
        exact S_append_ref hts hu (getD_some b2) b3 b4 hx hb hsrc b7 b10 b5 (by simp)
      · exact b9.elim
    · exact b8.elim
  · exact h.elim
/-- Operations that opVal tells. -/
def plainOp : Op → Bool
  | .move _ | .assign _ | .pick .. | .alloc _ | .box .. | .build .. | .buildSlice .. | .load .. | .store .. | .nilCheck _ | .binOp .. | .unOp .. | .convert .. | .fieldAddr .. | .indexAddr .. | .index .. | .extract .. | .makeFunc .. | .makeSlice .. | .slice _ _ _ _ none => true
  | .call { callee := .builtin .len, .. } | .call { callee := .builtin .append, .. } | .call { callee := .builtin .max, .. } | .call { callee := .builtin .min, .. } => true
  | _ => false
/-- Those of them that leave the heap alone. -/
def stillOp : Op → Bool
  | .move _ | .assign _ | .pick .. | .build .. | .load .. | .nilCheck _ | .binOp .. | .unOp .. | .convert .. | .fieldAddr .. | .indexAddr .. | .index .. | .extract .. | .makeFunc .. | .slice _ _ _ _ none => true
  | .call { callee := .builtin .len, .. } => true
  | .call { callee := .builtin .max, .. } => true
  | .call { callee := .builtin .min, .. } => true
  | _ => false
theorem still_spec {op : Op} (h : stillOp op = true) : (opVal P ge st op).2 = st.h := by
  unfold stillOp at h
  split at h <;> first | rfl | cases h
mutual
/-- The walk of a region. -/
def AO (P : Program) (ge : GEnv) (ops : Array Oper) (Q : Exit → St → Prop) : List Oper → St → Prop
  | [], st => Q .normal st
  | o :: rest, st =>
    match o.guard with
    | none =>
      if plainOp o.op = true then
        dstOk st.n o.dst = true ∧ opOk P ge st o.op ∧ AO P ge ops Q rest ⟨st.n, putD o.dst (opVal P ge st o.op).1 st.tm, (opVal P ge st o.op).2⟩
      else AS P ge ops (o :: rest) Q st
    | some (j, want) =>
      match gdst ops j with
      | none => False
      | some dj => dj < st.n ∧ gOk (lk st.tm dj) = true ∧ dstOk st.n o.dst = true ∧ AOg P ge ops Q (gB (lk st.tm dj) want) o rest st
  termination_by l _ => 2 * l.length
/-- A guarded operation, its guard being b. -/
def AOg (P : Program) (ge : GEnv) (ops : Array Oper) (Q : Exit → St → Prop) (b : Bool) (o : Oper) (rest : List Oper) (st : St) : Prop :=
  (b = true → if plainOp o.op = true then opOk P ge st o.op ∧ AO P ge ops Q rest ⟨st.n, putD o.dst (opVal P ge st o.op).1 st.tm, (opVal P ge st o.op).2⟩
           else AS P ge ops ({ o with guard := none } :: rest) Q st) ∧
  (b = false → AO P ge ops Q rest ⟨st.n, putD o.dst .void st.tm, st.h⟩)
  termination_by 2 * rest.length + 1
end
@[simp] theorem AO_nil {ops : Array Oper} : AO P ge ops Q [] st = Q .normal st := by rw [AO]
@[simp] theorem AO_plain {ops : Array Oper} {rest : List Oper} {op : Op} : AO P ge ops Q (⟨d, op, t, p, af, none⟩ :: rest) st =
    if plainOp op = true then dstOk st.n d = true ∧ opOk P ge st op ∧ AO P ge ops Q rest ⟨st.n, putD d (opVal P ge st op).1 st.tm, (opVal P ge st op).2⟩ else AS P ge ops (⟨d, op, t, p, af, none⟩ :: rest) Q st := by rw [AO]
@[simp] theorem AO_guard {ops : Array Oper} {rest : List Oper} {op : Op} {j : Nat} {want : Bool} : AO P ge ops Q (⟨d, op, t, p, af, some (j, want)⟩ :: rest) st =
    match gdst ops j with
    | none => False
    | some dj => dj < st.n ∧ gOk (lk st.tm dj) = true ∧ dstOk st.n d = true ∧ AOg P ge ops Q (gB (lk st.tm dj) want) ⟨d, op, t, p, af, some (j, want)⟩ rest st := by rw [AO]
@[simp] theorem AOg_true {ops : Array Oper} {rest : List Oper} {op : Op} {gg : Option (Nat × Bool)} : AOg P ge ops Q true ⟨d, op, t, p, af, gg⟩ rest st =
    if plainOp op = true then opOk P ge st op ∧ AO P ge ops Q rest ⟨st.n, putD d (opVal P ge st op).1 st.tm, (opVal P ge st op).2⟩ else AS P ge ops (⟨d, op, t, p, af, none⟩ :: rest) Q st := by rw [AOg]; simp
@[simp] theorem AOg_false {ops : Array Oper} {rest : List Oper} {op : Op} {gg : Option (Nat × Bool)} : AOg P ge ops Q false ⟨d, op, t, p, af, gg⟩ rest st = AO P ge ops Q rest ⟨st.n, putD d .void st.tm, st.h⟩ := by rw [AOg]; simp
theorem AOg_split {ops : Array Oper} {rest : List Oper} {o : Oper} {b : Bool} (h1 : b = true → AOg P ge ops Q true o rest st) (h2 : b = false → AOg P ge ops Q false o rest st) : AOg P ge ops Q b o rest st := by
  cases b
  · exact h2 rfl
  · exact h1 rfl
theorem AS_of_AO {ops : Array Oper} : ∀ {l : List Oper} {st : St}, AO P ge ops Q l st → AS P ge ops l Q st
  | [], st, h => AS_nil (by rw [AO] at h; exact h)
  | o :: rest, st, h => by
    rw [AO] at h
    split at h
    · rename_i hg
      split at h
      · rename_i hp
        obtain ⟨h1, h2, h3⟩ := h
        have := opS_of_ok (P := P) (ge := ge) (st := st) (d := o.dst) (t := o.type) (p := o.pos) (af := o.after) (g := o.guard) h2
        exact AS_op hg h1 this (AS_of_AO h3)
      · exact h
    · rename_i j want hg
      split at h
      · exact h.elim
      · rename_i dj hdj
        obtain ⟨h1, h2, h3, h4⟩ := h
        rw [AOg] at h4
        obtain ⟨h4, h5⟩ := h4
        refine AS_guard_cases hg hdj h1 h2 h3 (fun hgb => ?_) (fun hgb => AS_of_AO (h5 hgb))
        have h6 := h4 hgb
        split at h6
        · obtain ⟨h7, h8⟩ := h6
          have := opS_of_ok (P := P) (ge := ge) (st := st) (d := o.dst) (t := o.type) (p := o.pos) (af := o.after) (g := none) h7
          exact AS_op rfl h3 this (AS_of_AO h8)
        · exact h6
theorem aR {id : Nat} {ops : Array Oper} (h : AO P ge ops Q ops.toList st) : AW P ge (.region id ops false) Q st := AW_region (AS_of_AO h)
theorem aK {x y : Code} (h : ∀ K : St → Prop, (∀ s, AW P ge y Q s → K s) → AW P ge x (SThen K Q) st) : AW P ge (.seq x y) Q st := AW_seq (h _ fun _ h => h)
@[simp] theorem gOk_cond (c : Bool) (x y : V) : gOk (cond c x y) = cond c (gOk x) (gOk y) := by cases c <;> rfl
@[simp] theorem gB_cond (c : Bool) (x y : V) (w : Bool) : gB (cond c x y) w = cond c (gB x w) (gB y w) := by cases c <;> rfl
@[simp] theorem cond_bool (c a b : Bool) : cond c (V.bool a) (V.bool b) = V.bool (cond c a b) := by cases c <;> rfl
@[simp] theorem cond_not_r (c : Bool) (a v u : V) : cond c a (cond (!c) v u) = cond c a v := by cases c <;> rfl
@[simp] theorem cond_same_l (c : Bool) (v u b : V) : cond c (cond c v u) b = cond c v b := by cases c <;> rfl
theorem AOg_split_not {ops : Array Oper} {rest : List Oper} {o : Oper} {b : Bool} (h1 : b = false → AOg P ge ops Q true o rest st) (h2 : b = true → AOg P ge ops Q false o rest st) : AOg P ge ops Q (!b) o rest st := by
  cases b
  · exact h1 rfl
  · exact h2 rfl
theorem AOg_split_dec {ops : Array Oper} {rest : List Oper} {o : Oper} {b : Prop} [Decidable b] (h1 : b → AOg P ge ops Q true o rest st) (h2 : ¬ b → AOg P ge ops Q false o rest st) : AOg P ge ops Q (decide b) o rest st := by
  by_cases h : b
  · rw [decide_eq_true h]; exact h1 h
  · rw [decide_eq_false h]; exact h2 h
theorem AOg_split_notdec {ops : Array Oper} {rest : List Oper} {o : Oper} {b : Prop} [Decidable b] (h1 : ¬ b → AOg P ge ops Q true o rest st) (h2 : b → AOg P ge ops Q false o rest st) : AOg P ge ops Q (!decide b) o rest st :=
  AOg_split_not (fun h => h1 (of_decide_eq_false h)) (fun h => h2 (of_decide_eq_true h))
theorem SBlock_exit {id : Nat} (h : Q .normal st) : SBlock id Q (.exit id) st := by simp only [SBlock, if_true]; exact h
theorem sE {id id' : Nat} (hne : id' ≠ id) (h : Q (.exit id') st) : SBlock id Q (.exit id') st := by simp only [SBlock, if_neg hne]; exact h
theorem SBlock_normal {id : Nat} (h : Q .normal st) : SBlock id Q .normal st := h
theorem SBlock_ret {id : Nat} (h : Q .ret st) : SBlock id Q .ret st := h
theorem SThen_normal {K : St → Prop} (h : K st) : SThen K Q .normal st := h
theorem SThen_ret {K : St → Prop} (h : Q .ret st) : SThen K Q .ret st := h
theorem SThen_exit {K : St → Prop} {id : Nat} (h : Q (.exit id) st) : SThen K Q (.exit id) st := h
theorem aC {ops : Array Oper} {rest : List Oper} {x : Operand} {xs : Array Operand} {ts : Array TypeId} {f : Nat} {A C args : List V} {r : V}
    (hx : ev ge st.tm x = .fn (.func f) A C) (ha : A ++ evs ge st.tm xs.toList ++ C = args) (hc : PCall P ge f args r) (hf : V.isFs args = true) (hp : r.plain = true) (hd : dstOk st.n d = true)
    (h : AO P ge ops Q rest ⟨st.n, putD d r st.tm, st.h⟩) :
    AS P ge ops (⟨d, .call { callee := .value x, args := xs, argTypes := ts }, t, p, af, none⟩ :: rest) Q st := by
  subst ha
  rw [evs_eq] at hc hf
  exact AS_pcall hx hd hc hf hp (AS_of_AO h)
theorem AS_callO {ops : Array Oper} {rest : List Oper} {x : Operand} {xs : Array Operand} {ts : Array TypeId} {f : Nat} {A C args : List V} {T : TypeId} {rs : List (List V)}
    (hx : ev ge st.tm x = .fn (.func f) A C) (ha : A ++ evs ge st.tm xs.toList ++ C = args) (hc : PCall P ge f args (.own T rs)) (hf : V.isFs args = true) (hd : dstOk st.n d = true)
    (h : AO P ge ops Q rest ⟨st.n, putD d (.ref st.h.length 0 0 rs.length) st.tm, st.h ++ [.row T 0 0 true rs]⟩) :
    AS P ge ops (⟨d, .call { callee := .value x, args := xs, argTypes := ts }, t, p, af, none⟩ :: rest) Q st := by
  subst ha
  rw [evs_eq] at hc hf
  exact AS_ocall hx hd hc hf (AS_of_AO h)
theorem aG {ops : Array Oper} {rest : List Oper} {x : Operand} {xs : Array Operand} {ts : Array TypeId} {f : Nat} {A C args : List V} {K : V → List B → Prop}
    (hx : ev ge st.tm x = .fn (.func f) A C) (ha : A ++ evs ge st.tm xs.toList ++ C = args) (hc : GCall P ge f args st.h K) (hd : dstOk st.n d = true)
    (h : ∀ v h', K v h' → AO P ge ops Q rest ⟨st.n, putD d v st.tm, h'⟩) :
    AS P ge ops (⟨d, .call { callee := .value x, args := xs, argTypes := ts }, t, p, af, none⟩ :: rest) Q st := by
  subst ha
  rw [evs_eq] at hc
  exact AS_gcall hx hd hc fun v h' hk => AS_of_AO (h v h' hk)
/-- What a body that ends here hands back. -/
def RetQ (P : Program) (rs : Array ResultVar) (r : V) (e : Exit) (s : St) : Prop := (e = .normal ∨ e = .ret) ∧ ∃ v, RetV P s rs.toList v ∧ Conv s.h v r
theorem pB {f : Nat} {fn : Func} {code : Code} {args : List V} {r : V} (hf : P.funcs[f]? = some fn) (hb : fn.body = some code) (hname : fn.name ≠ "runtime.NumGoroutine") {n : Nat} (hn : fn.ntmps = n) (hl : args.length ≤ n) {rs : Array ResultVar} (hrs : fn.results = rs)
    (body : AW P ge code (RetQ P rs r) ⟨n, argTm 0 args, []⟩) : PCall P ge f args r := by
  subst hn; subst hrs
  exact PCall_of_body hf hb hname hl body
theorem r1q {t : Nat} {r : V} (h : Conv st.h (lk st.tm t) r) : RetQ P #[.tmp t] r .ret st := ⟨.inr rfl, _, rfl, h⟩
theorem retq2 {t u : Nat} {r : V} (h : Conv st.h (.tup [lk st.tm t, lk st.tm u]) r) : RetQ P #[.tmp t, .tmp u] r .ret st := ⟨.inr rfl, _, ⟨[lk st.tm t, lk st.tm u], rfl, rfl, rfl, trivial⟩, h⟩
theorem retq3 {t u q : Nat} {r : V} (h : Conv st.h (.tup [lk st.tm t, lk st.tm u, lk st.tm q]) r) : RetQ P #[.tmp t, .tmp u, .tmp q] r .ret st := ⟨.inr rfl, _, ⟨[lk st.tm t, lk st.tm u, lk st.tm q], rfl, rfl, rfl, rfl, trivial⟩, h⟩
theorem cE {h : List B} {v r : V} (e : v = r) (hf : v.isF = true) : Conv h v r := by subst e; exact .inr (.inl (.inl ⟨hf, rfl⟩))
end
attribute [simp] maxV minV plainOp opOk opVal ev evs lk putD dstOk argTm V.ofValue V.ofCell SThen SBlock binV binOk gdst gOk gB pickV V.isBool unV unOk Value.oneCell'
attribute [simp] ceqs kOk byteOfV isByteV
attribute [simp] V.cellsOk V.cellsOf V.one V.isF V.isFs V.isAddr V.addOff V.notNil nilOk loadVal loadGood place loadV loadOk storeH storeGood storeL intOfV isIntV idxVal idxGood convVal convGood extVal extGood lenV lenOk
attribute [simp] fillW fillWOk partsV partsF rowsV rowsOk spl sliceVal sliceGood bndV bndOk srcElems srcFlat srcOf appVal appGood RetV ResAll ResOk BinOp.isEq V.plain V.isOwn V.lt V.lts frz
end Go.AM
end
