/-
  YtbgooadmonnjaaaGreatDoorRc04: steps of the proof of a law of the program: what these texts prove holds under the hypotheses that their theorems name, and no others.
-/
import Derived.Test.YtbgooadmonnjaaaGreatDoorRc03
section
set_option linter.unusedVariables false
set_option linter.unusedSimpArgs false
namespace Go.AM
section
variable {P : Program} {ge : GEnv} {st : St} {G G' : Gh} {w w' : World}
variable {d : Option Tmp} {t : TypeId} {p : String} {af : Array Edge} {g : Option (Nat × Bool)}
/-- Elements as cells. -/
def RowR (G : Gh) (w : World) (fr : Bool) (sz : Nat) (xs : List (List V)) (arr : Array Value) : Prop :=
  (∀ (i : Nat) (x : List V), xs[i]? = some x → x.length = sz) ∧
  ∀ (i : Nat) (x : List V) (j : Nat) (v : V), xs[i]? = some x → x[j]? = some v → (arr.getD (i * sz + j) undef).oneCell' = true ∧ R G w fr v (arr.getD (i * sz + j) undef)
theorem OpS_newRow {o : Oper} {T : TypeId} {xs : List (List V)} {len : Nat} {flat : Bool} (h0 : 0 < szOf P T) (hlen : len ≤ xs.length)
    (H : ∀ G a w, Rep P ge G st a w → ∃ (arr : Array Value) (cap : Nat), (execOp a.eval o).run P w = .ok (.value (.slice (some ⟨w.heap.size, 0, none⟩) len cap)) (w.alloc (.cells arr T)) ∧
      arr.size = cap * szOf P T ∧ xs.length ≤ cap ∧ cap ≤ maxLen ∧ RowR G w flat (szOf P T) xs arr) :
    OpS P ge st o (.ref st.h.length 0 0 len) (st.h ++ [.row T 0 0 flat xs]) := by
  intro G a w hr
  obtain ⟨arr, cap, h1, h2, h3, h4, h5, h6⟩ := H G a w hr
  have hk : ∀ k', (G.push (some w.heap.size) (szOf P T) cap).at G.n (.row T 0 0 flat xs) = some k' → w.heap.size ≤ k' := fun k' h => by
    simp [Gh.at, Gh.push] at h; omega
  have le := GLe.push hr.rh (.alloc w (.cells arr T)) (some w.heap.size) (szOf P T) cap
  have hrb : RB P (G.push (some w.heap.size) (szOf P T) cap) (w.alloc (.cells arr T)) G.n (.row T 0 0 flat xs) := by
    refine ⟨by simp [Gh.push], Nat.zero_le _, by simp [Gh.push, h0], .inr ⟨w.heap.size, arr, by simp [Gh.push], heap_alloc_new w _, ?_, ?_, ?_, ?_, ?_, ?_⟩⟩
    · simp [Gh.push, hr.rh.fzlt]
    · simp [Gh.push, h2]
    · simp [Gh.push, h3]
    · simp [Gh.push, h4]
    · simpa [Gh.push] using h5
    · intro i x j v hx hv
      have := h6 i x j v hx hv
      simp only [Gh.push, if_true]
      exact ⟨this.1, this.2.mono le⟩
  refine ⟨_, G.push (some w.heap.size) (szOf P T) cap, _, .inl h1, hr.rh.push (.alloc w _) hrb hk, ?_, .push hr.rh (.alloc w _) hk⟩
  rw [hr.rh.n]
  have := R.ref (G := G.push (some w.heap.size) (szOf P T) cap) (w := w.alloc (.cells arr T)) (b := G.n) (g := 0) (off := 0) (len := len) (k := w.heap.size) (by simp [Gh.push]) (by simp [Gh.push]) (by simp [Gh.push]) (by simp [Gh.push]; omega)
  simpa [Gh.push] using this
theorem div_mod_row {sz q r : Nat} (h : r < sz) : (q * sz + r) / sz = q ∧ (q * sz + r) % sz = r := by
  have h0 : 0 < sz := by omega
  constructor
  · rw [Nat.mul_comm, Nat.mul_add_div h0, Nat.div_eq_of_lt h]; rfl
  · rw [Nat.mul_comm, Nat.mul_add_mod, Nat.mod_eq_of_lt h]
theorem zeros_getD (z : Array Value) (n i j : Nat) (hj : j < z.size) (hi : i < n) : (((Array.range (n * z.size)).map fun k => z[k % z.size]!)).getD (i * z.size + j) undef = z.getD j undef := by
  have hlt : i * z.size + j < n * z.size := by
    have : (i + 1) * z.size ≤ n * z.size := Nat.mul_le_mul_right _ hi
    rw [Nat.add_mul] at this; omega
  simp only [Array.getD_eq_getD_getElem?, Array.getElem?_map, Array.getElem?_range, hlt, if_true, Option.map_some, Option.getD_some]
  rw [(div_mod_row hj).2]
  simp [hj]
theorem RowR_zeros {T : TypeId} {zs : List V} {z : Value} (h2 : z.cells.size = zs.length) (h3 : ∀ (i : Nat) (u : V), zs[i]? = some u → (z.cells.getD i undef).oneCell' = true ∧ ∀ (G : Gh) (w : World) (fr : Bool), R G w fr u (z.cells.getD i undef))
    (n : Nat) (fr : Bool) : RowR G w fr zs.length (List.replicate n zs) ((Array.range (n * z.cells.size)).map fun k => z.cells[k % z.cells.size]!) := by
  refine ⟨fun i x hx => ?_, fun i x j v hx hv => ?_⟩
  · rw [List.getElem?_replicate] at hx
    split at hx
    · cases hx; rfl
    · cases hx
  · rw [List.getElem?_replicate] at hx
    split at hx
    · rename_i hi
      cases hx
      have hj : j < z.cells.size := by rw [h2]; exact (List.getElem?_eq_some_iff.1 hv).1
      rw [← h2, zeros_getD _ _ _ _ hj hi]
      exact ⟨(h3 j v hv).1, (h3 j v hv).2 G w fr⟩
    · cases hx
def rowsV : List (List V) → List (Nat × V) → List (List V)
  | xs, [] => xs
  | xs, (i, v) :: r => rowsV (xs.set i v.cellsOf) r
def rowsOk (sz n : Nat) : List (Nat × V) → Bool
  | [] => true
  | (i, v) :: r => v.cellsOk && v.cellsOf.length == sz && decide (i < n) && rowsOk sz n r
def partsF : List (Nat × V) → Bool
  | [] => true
  | (_, v) :: r => V.isFs v.cellsOf && partsF r
theorem fillRows {sz : Nat} {a : Act} {tm : List (Nat × V)} (hev : ∀ x, R G w false (ev ge tm x) (a.eval x)) {fr : Bool} : ∀ (parts : List (Nat × Operand)) (xs : List (List V)) (arr : Array Value), RowR G w fr sz xs arr → arr.size = xs.length * sz →
      rowsOk sz xs.length (parts.map fun x => (x.1, ev ge tm x.2)) = true → (fr = true → partsF (parts.map fun x => (x.1, ev ge tm x.2)) = true) →
      ∃ arr', Instr.fill (fun i => some (i * sz, sz)) arr (parts.map fun x => (x.1, a.eval x.2)) = some arr' ∧ arr'.size = xs.length * sz ∧ RowR G w fr sz (rowsV xs (parts.map fun x => (x.1, ev ge tm x.2))) arr'
  | [], xs, arr, h, hs, _, _ => ⟨arr, rfl, hs, h⟩
  | (i, x) :: r, xs, arr, h, hs, hok, hf => by
    simp only [List.map_cons, rowsOk, Bool.and_eq_true, beq_iff_eq, decide_eq_true_eq] at hok
    obtain ⟨⟨⟨h1, h2⟩, h3⟩, h4⟩ := hok
    obtain ⟨hcs, hcv⟩ := cells_of (hev x) h1
    have hbig : (i + 1) * sz ≤ xs.length * sz := Nat.mul_le_mul_right _ h3
    rw [Nat.add_mul] at hbig
    have hle : i * sz + (a.eval x).cells.size ≤ arr.size := by rw [hs, hcs, h2]; omega
    have hfold := zipIdx_foldl (i * sz) (a.eval x).cells arr hle
    generalize hnew : (a.eval x).cells.zipIdx.foldl (fun cs (x : Value × Nat) => cs.setIfInBounds (i * sz + x.2) x.1) arr = new at hfold
    have hal : arr.toList.length = arr.size := Array.length_toList
    have hbl : (a.eval x).cells.toList.length = (a.eval x).cells.size := Array.length_toList
    have hget : ∀ k, new.getD k undef = if i * sz ≤ k ∧ k < i * sz + sz then (a.eval x).cells.getD (k - i * sz) undef else arr.getD k undef := fun k => by
      rw [toList_getD, hfold]
      have e := splice_get arr.toList (i * sz) (a.eval x).cells.toList (by rw [hal, hbl]; exact hle) k
      rw [hbl] at e
      rw [e, hcs, h2]
      split <;> rw [toList_getD]
    have hns : new.size = arr.size := by
      have := congrArg List.length hfold
      simp at this; omega
    have hrow : RowR G w fr sz (xs.set i (ev ge tm x).cellsOf) new := by
      have hset : ∀ (i' : Nat) (y : List V), (xs.set i (ev ge tm x).cellsOf)[i']? = some y → (i' = i ∧ y = (ev ge tm x).cellsOf) ∨ (i' ≠ i ∧ xs[i']? = some y) := fun i' y hy => by
        rw [List.getElem?_set] at hy
        split at hy
        · rename_i e; subst e; first | (cases hy; exact .inl ⟨rfl, rfl⟩) | (rw [if_pos h3] at hy; cases hy; exact .inl ⟨rfl, rfl⟩)
        · rename_i e; exact .inr ⟨fun e' => e e'.symm, hy⟩
      refine ⟨fun i' y hy => ?_, fun i' y j v hy hv => ?_⟩
      · rcases hset i' y hy with ⟨rfl, rfl⟩ | ⟨_, hy⟩
        · exact h2
        · exact h.1 i' y hy
      · rw [hget]
        rcases hset i' y hy with ⟨rfl, rfl⟩ | ⟨hne, hy⟩
        · have hj : j < sz := by rw [← h2]; exact (List.getElem?_eq_some_iff.1 hv).1
          rw [if_pos (by omega)]
          have e : i' * sz + j - i' * sz = j := by omega
          rw [e]
          refine ⟨(hcv j v hv).1, ?_⟩
          cases fr
          · exact (hcv j v hv).2
          · have := hf rfl
            simp only [List.map_cons, partsF, Bool.and_eq_true] at this
            exact (hcv j v hv).2.frozen (V.isFs_get this.1 j v hv)
        · have hj : j < sz := by rw [← h.1 i' y hy]; exact (List.getElem?_eq_some_iff.1 hv).1
          rw [if_neg]
          · exact h.2 i' y j v hy hv
          · rintro ⟨a1, a2⟩
            rcases Nat.lt_or_gt_of_ne hne with h5 | h5
            · have : (i' + 1) * sz ≤ i * sz := Nat.mul_le_mul_right _ h5
              rw [Nat.add_mul] at this; omega
            · have : (i + 1) * sz ≤ i' * sz := Nat.mul_le_mul_right _ h5
              rw [Nat.add_mul] at this; omega
    obtain ⟨arr', e1, e2, e3⟩ := fillRows hev r _ new hrow (by rw [hns, List.length_set]; exact hs) (by rw [List.length_set]; exact h4) (fun hfr => by
      have := hf hfr
      simp only [List.map_cons, partsF, Bool.and_eq_true] at this
      exact this.2)
    refine ⟨arr', ?_, ?_, ?_⟩
    · simp only [List.map_cons, Instr.fill]
      rw [if_neg]
      · rw [hnew]; exact e1
      · simp only [Bool.or_eq_true, bne_iff_ne, ne_eq, decide_eq_true_eq, not_or, Classical.not_not]
        omega
    · rw [e2, List.length_set]
    · simp only [List.map_cons, rowsV]; exact e3
theorem S_buildSlice {T e : TypeId} {len : Nat} {parts : Array (Nat × Operand)} {zs : List V} (hu : P.underlying T = some (.slice e)) (hz : zeroOf P e = some zs) (hsz : szOf P e = zs.length) (h0 : 0 < zs.length) (hl0 : 0 < len) (hl : len * zs.length ≤ 16777216)
    (hok : rowsOk zs.length len (parts.toList.map fun x => (x.1, ev ge st.tm x.2)) = true) (flat : Bool) (hf : flat = true → partsF (parts.toList.map fun x => (x.1, ev ge st.tm x.2)) = true) :
    OpS P ge st ⟨d, .buildSlice T len parts, t, p, af, g⟩ (.ref st.h.length 0 0 len) (st.h ++ [.row e 0 0 flat (rowsV (List.replicate len zs) (parts.toList.map fun x => (x.1, ev ge st.tm x.2)))]) := by
  have hlen : ∀ (ps : List (Nat × V)) (xs : List (List V)), (rowsV xs ps).length = xs.length := by
    intro ps
    induction ps with
    | nil => intro xs; rfl
    | cons a r ih => intro xs; simp only [rowsV]; rw [ih, List.length_set]
  refine OpS_newRow (by omega) (by rw [hlen]; simp) fun G a w hr => ?_
  obtain ⟨z, h1, _, h2, _, h3⟩ := run_zeroValue hz
  have hrow := RowR_zeros (G := G) (w := w) (T := e) h2 h3 len flat
  obtain ⟨arr', e1, e2, e3⟩ := fillRows (fun x => hr.ev x) parts.toList _ _ hrow (by simp [h2]) (by simpa using hok) hf
  have hpm : (parts.map fun (x : Nat × Operand) => (x.1, a.eval x.2)).toList = parts.toList.map fun x => (x.1, a.eval x.2) := by simp
  have h24 : ¬ (len * zs.length > 2 ^ 24) := by omega
  refine ⟨arr', len, ?_, by rw [e2, hsz]; simp, by rw [hlen]; simp, ?_, by rw [hsz]; exact e3⟩
  · simp only [execOp, Instr.buildSlice, Sem.run_bind, run_underlying hu, Result.andThen_ok, run_sizeOf hsz h0, h24, if_false]
    have hzero : ¬ len * zs.length = 0 := by
      intro q; rcases Nat.mul_eq_zero.1 q with q | q <;> omega
    have e1' : Instr.fill (fun i => some (i * zs.length, zs.length)) ((Array.range (len * zs.length)).map fun k => z.cells[k % z.cells.size]!) (parts.map fun (x : Nat × Operand) => (x.1, a.eval x.2)).toList = some arr' := by
      rw [hpm, ← h2]; rw [← h2] at e1; exact e1
    simp only [hzero, if_false, Sem.run_bind, h1, Result.andThen_ok, Sem.run_pure, e1']
    simp [newRow]
  · have : len ≤ len * zs.length := Nat.le_mul_of_pos_right _ h0
    unfold maxLen; omega
theorem S_buildSlice0 {T e : TypeId} (hu : P.underlying T = some (.slice e)) (h0 : 0 < szOf P e) :
    OpS P ge st ⟨d, .buildSlice T 0 #[], t, p, af, g⟩ (.ref st.h.length 0 0 0) (st.h ++ [.row e 0 0 true []]) := by
  refine OpS_newRow h0 (by simp) fun G a w hr => ⟨#[], 0, ?_, by simp, by simp, by unfold maxLen; omega, ⟨fun i x hx => by simp at hx, fun i x j v hx hv => by simp at hx⟩⟩
  simp [execOp, Instr.buildSlice, run_underlying hu, run_sizeOf rfl h0, Instr.fill, newRow, Array.range_zero']
theorem S_makeSlice {T e : TypeId} {x y : Operand} {zs : List V} {k k' : IntKind} {n c : Int} (hu : P.underlying T = some (.slice e)) (hz : zeroOf P e = some zs) (hsz : szOf P e = zs.length) (h0 : 0 < zs.length)
    (hx : ev ge st.tm x = .int k n) (hy : ev ge st.tm y = .int k' c) (hn : 0 ≤ n) (hc : n ≤ c) (hb : c * bytesOf P e ≤ 281474976710656) (hb0 : 0 < bytesOf P e) :
    OpS P ge st ⟨d, .makeSlice T x y, t, p, af, g⟩ (.ref st.h.length 0 0 n.toNat) (st.h ++ [.row e 0 0 true (List.replicate n.toNat zs)]) := by
  refine OpS_newRow (by omega) (by simp) fun G a w hr => ?_
  obtain ⟨z, h1, _, h2, _, h3⟩ := run_zeroValue hz
  have hvx := hr.ev x
  have hvy := hr.ev y
  rw [hx] at hvx; rw [hy] at hvy
  have hcx := hvx.inv_int
  have hcy := hvy.inv_int
  have hc48 : c ≤ 281474976710656 := by
    have : c * 1 ≤ c * (bytesOf P e : Int) := Int.mul_le_mul_of_nonneg_left (by omega) (by omega)
    omega
  have hwn : IntKind.i64.wrap n = n := by unfold IntKind.wrap; simp [IntKind.bits, IntKind.signed]; omega
  have hwc : IntKind.i64.wrap c = c := by unfold IntKind.wrap; simp [IntKind.bits, IntKind.signed]; omega
  obtain ⟨i, hi, hbi⟩ : ∃ i, P.info? e = some i ∧ bytesOf P e = i.bytes := by
    unfold bytesOf at hb0 ⊢
    cases hie : P.info? e with
    | none => rw [hie] at hb0; simp at hb0
    | some i => exact ⟨i, rfl, by simp⟩
  have hrow := RowR_zeros (G := G) (w := w) (T := e) h2 h3 c.toNat true
  refine ⟨(Array.range (c.toNat * z.cells.size)).map fun k => z.cells[k % z.cells.size]!, c.toNat, ?_, by simp [hsz, h2], by simp; omega, by unfold maxLen; omega, ?_⟩
  · have t1 : ¬ ((i.bytes : Int) * c > 281474976710656) := by rw [Int.mul_comm, ← hbi]; omega
    have hcz : ¬ (c.toNat * zs.length = 0 ∧ c.toNat ≠ 0) := by
      rintro ⟨q1, q2⟩
      rcases Nat.mul_eq_zero.1 q1 with q | q <;> omega
    have hcn : ¬ c < 0 := by omega
    have hnn : ¬ n < 0 := by omega
    have hnc : ¬ n > c := by omega
    have hif : (decide (c < 0) || decide ((i.bytes : Int) * c > 2 ^ 48) || decide (n < 0) || decide (n > c)) = false := by
      simp only [Bool.or_eq_false_iff, decide_eq_false_iff_not]
      exact ⟨⟨⟨hcn, by have e : (2 ^ 48 : Int) = 281474976710656 := by decide
                       rw [e]; exact t1⟩, hnn⟩, hnc⟩
    simp only [execOp, Instr.makeSlice, Sem.run_bind, run_underlying hu, Result.andThen_ok, hcx, hcy, asInt, asIntOf, Sem.run_pure, typeInfo, run_program, hi, hwn, hwc, hif, Bool.false_eq_true, if_false, run_askRoom, run_sizeOf hsz h0]
    by_cases hz0 : c.toNat * zs.length = 0
    · have hl0 : c.toNat = 0 := by rcases Nat.mul_eq_zero.1 hz0 with q | q <;> omega
      have hn0 : n.toNat = 0 := by omega
      simp [hl0, hn0, newRow, Array.range_zero']
    · simp [hz0, h1, newRow, h2]
  · rw [hsz]
    refine ⟨fun i x hx => hrow.1 i x ?_, fun i x j v hx hv => hrow.2 i x j v ?_ hv⟩
    · rw [List.getElem?_replicate] at hx ⊢
      split at hx
      · rename_i hi; rw [if_pos (by omega)]; exact hx
      · cases hx
    · rw [List.getElem?_replicate] at hx ⊢
      split at hx
      · rename_i hi; rw [if_pos (by omega)]; exact hx
      · cases hx
def ResOk (P : Program) (st : St) : ResultVar → V → Prop
  | .tmp t, v => lk st.tm t = v
  | .cell a t, v => ∃ cs off, place st.h (lk st.tm a) = some (cs, off) ∧ loadOk P t cs off ∧ loadV P t cs off = v
def ResAll (P : Program) (st : St) : List ResultVar → List V → Prop
  | [], [] => True
  | r :: rs, v :: vs => ResOk P st r v ∧ ResAll P st rs vs
  | _, _ => False
def RetV (P : Program) (st : St) : List ResultVar → V → Prop
  | [r], v => ResOk P st r v
  | rs, v => ∃ vs, v = .tup vs ∧ ResAll P st rs vs
def resSem (tmps : Array Value) : ResultVar → Sem Value
  | .tmp t => pure (tmps.getD t undef)
  | .cell x t => do loadVar t (← asAddr (tmps.getD x undef))
theorem res_one {a : Act} (hr : Rep P ge G st a w) {r : ResultVar} {v : V} (h : ResOk P st r v) :
    ∃ c, (resSem a.tmps r).run P w = .ok c w ∧ R G w false v c := by
  cases r with
  | tmp t => exact ⟨_, rfl, by have := hr.tm t; rw [h] at this; exact this⟩
  | cell x t =>
    obtain ⟨cs, off, hp, hok, rfl⟩ := h
    obtain ⟨k, o, hc, _⟩ := place_spec hr.rh hp (hr.tm x)
    obtain ⟨c, h1, h2⟩ := S_load_pure (d := none) (e := t) (x := .tmp x) (t := 0) (p := "") (af := #[]) (g := none) hr hp hok
    simp only [execOp, Instr.loadAt, Act.eval, hc, Instr.sureAddr, Sem.run_bind, Sem.run_pure, Result.andThen_ok] at h1
    generalize hl : (loadVar t ⟨k, o + off, none⟩).run P w = r at h1
    cases r with
    | halt => simp at h1
    | ok c2 w3 =>
      simp at h1
      obtain ⟨rfl, rfl⟩ := h1
      exact ⟨c2, by simp [resSem, hc, asAddr, hl], h2⟩
theorem run_results {a : Act} (hr : Rep P ge G st a w) {fn : Func} {v : V} (h : RetV P st fn.results.toList v) : ∃ c, (results fn a.tmps).run P w = .ok c w ∧ R G w false v c := by
  have key : ∀ (rs : List ResultVar) (vs : List V), ResAll P st rs vs → ∃ cs : List Value, (rs.mapM (resSem a.tmps)).run P w = .ok cs w ∧
      cs.length = vs.length ∧ vs.length = rs.length ∧ ∀ (i : Nat) (v : V), vs[i]? = some v → R G w false v ((cs[i]?).getD undef) := by
    intro rs
    induction rs with
    | nil =>
      intro vs hv
      cases vs with
      | nil => exact ⟨[], rfl, rfl, rfl, fun i v h => by simp at h⟩
      | cons => exact hv.elim
    | cons r rs ih =>
      intro vs hv
      cases vs with
      | nil => exact hv.elim
      | cons u us =>
        obtain ⟨h1, h2⟩ := hv
        obtain ⟨c, hc, hv⟩ := res_one hr h1
        obtain ⟨cs, h3, h4, h5, h6⟩ := ih us h2
        refine ⟨c :: cs, ?_, by simp [h4], by simp [h5], fun i v hv' => ?_⟩
        · rw [List.mapM_cons]
          simp only [Sem.run_bind, hc, Result.andThen_ok, h3, Sem.run_pure]
        · cases i with
          | zero => simp at hv'; subst hv'; exact hv
          | succ i => exact h6 i v (by simpa using hv')
  have hm : ∀ (cs : List Value), (fn.results.toList.mapM (resSem a.tmps)).run P w = .ok cs w →
      (results fn a.tmps).run P w = .ok (if h : cs.toArray.size = 1 then cs.toArray[0] else .tuple cs.toArray) w := by
    intro cs hcs
    have e : results fn a.tmps = (fn.results.mapM (resSem a.tmps) >>= fun vs => pure (if h : vs.size = 1 then vs[0] else .tuple vs)) := by
      unfold results
      congr 1
    rw [e, ← Array.toArray_toList (xs := fn.results), List.mapM_toArray]
    simp only [Sem.run_bind, Sem.run_map]
    rw [hcs]
    rfl
  cases hl : fn.results.toList with
  | nil =>
    rw [hl] at h
    obtain ⟨vs, rfl, hall⟩ := h
    obtain ⟨cs, h3, h4, h5, h6⟩ := key _ _ (hl ▸ hall)
    have e : cs = [] := by
      have : cs.length = 0 := by rw [h4, h5, hl]; rfl
      exact List.eq_nil_of_length_eq_zero this
    subst e
    have e2 : vs = [] := List.eq_nil_of_length_eq_zero (by rw [← h4]; rfl)
    subst e2
    exact ⟨_, hm _ h3, .tup rfl fun i v h => by simp at h⟩
  | cons r rs =>
    cases rs with
    | nil =>
      rw [hl] at h
      obtain ⟨cs, h3, h4, h5, h6⟩ := key [r] [v] ⟨h, trivial⟩
      match cs, h4 with
      | [c], _ =>
        refine ⟨c, hm [c] (by rw [hl]; exact h3), ?_⟩
        exact h6 0 v rfl
    | cons r2 rs =>
      rw [hl] at h
      obtain ⟨vs, rfl, hall⟩ := h
      obtain ⟨cs, h3, h4, h5, h6⟩ := key _ _ hall
      have h7 : cs.length = rs.length + 2 := by rw [h4, h5]; rfl
      refine ⟨.tuple cs.toArray, ?_, .tup (by simp [h4]) fun i v hv => ?_⟩
      · rw [hm cs (by rw [hl]; exact h3)]
        rw [dif_neg (by simp; omega)]
      · rw [Array.getD_eq_getD_getElem?]; simpa using h6 i v hv
def argTm : Nat → List V → List (Nat × V)
  | _, [] => []
  | k, v :: r => (k, v) :: argTm (k + 1) r
theorem lk_argTm : ∀ (args : List V) (k t : Nat), lk (argTm k args) t = if k ≤ t then (args[t - k]?).getD .junk else .junk
  | [], k, t => by simp [argTm, lk]
  | v :: r, k, t => by
    simp only [argTm, lk]
    split
    · rename_i e; subst e; simp
    · rename_i e
      rw [lk_argTm r (k + 1) t]
      by_cases h : k ≤ t
      · rw [if_pos h, if_pos (by omega)]
        have : t - k = (t - (k + 1)) + 1 := by omega
        rw [this, List.getElem?_cons_succ]
      · rw [if_neg h, if_neg (by omega)]
theorem Rep_enter {args : List V} {cargs : Array Value} {h : List B} (ha : ArgsR G w false args cargs) (rh : RH P ge G h w) {n : Nat} (hn : args.length ≤ n) :
    Rep P ge G ⟨n, argTm 0 args, h⟩ { tmps := cargs ++ Array.replicate (n - cargs.size) undef, defers := [] } w := by
  refine ⟨rh, fun t => ?_, ?_, rfl⟩
  · show R G w false (lk (argTm 0 args) t) _
    rw [lk_argTm, if_pos (Nat.zero_le _), Nat.sub_zero]
    cases hv : args[t]? with
    | none => exact .junk
    | some v =>
      have h1 := ha.2 t v hv
      have h2 : t < cargs.size := by rw [ha.1]; exact (List.getElem?_eq_some_iff.1 hv).1
      rw [append_getD, if_pos h2]
      exact h1
  · simp [ha.1]; omega
theorem R.ids {fr : Bool} {v : V} {c : Value} (h : R G w fr v c) : v.lt G.n = true := by
  have hl : ∀ (cs : List V), (∀ (i : Nat) (v : V), cs[i]? = some v → v.lt G.n = true) → V.lts G.n cs = true := by
    intro cs
    induction cs with
    | nil => intro _; rfl
    | cons a r ih =>
      intro h
      simp only [V.lts, Bool.and_eq_true]
      exact ⟨h 0 a rfl, ih fun i v hv => h (i + 1) v (by simpa using hv)⟩
  induction h with
  | agg hs ho hr ih => exact hl _ ih
  | tup hs hr ih => exact hl _ ih
  | fn hs hr hs' hr' ih ih' => simp only [V.lt, Bool.and_eq_true]; exact ⟨hl _ ih, hl _ ih'⟩
  | ifc hr ih => exact ih
  | ref hb => simpa [V.lt] using hb
  | refn hb => simpa [V.lt] using hb
  | ptr hb => simpa [V.lt] using hb
  | ep hb => simpa [V.lt] using hb
  | mp hb => simpa [V.lt] using hb
  | _ => rfl
theorem RH.blt {h : List B} (rh : RH P ge G h w) {b : Nat} {x : B} (hx : h[b]? = some x) : x.lt h.length := by
  have hl : ∀ (cs : List V), (∀ (i : Nat) (v : V), cs[i]? = some v → v.lt G.n = true) → V.lts h.length cs = true := by
    intro cs
    rw [rh.n]
    induction cs with
    | nil => intro _; rfl
    | cons a r ih =>
      intro h
      simp only [V.lts, Bool.and_eq_true]
      exact ⟨h 0 a rfl, ih fun i v hv => h (i + 1) v (by simpa using hv)⟩
  have hb := rh.bl b x hx
  cases x with
  | dead => trivial
  | var cs =>
    obtain ⟨_, k, arr, T, _, _, _, _, hc⟩ := hb
    exact hl cs fun i v hv => (hc i v hv).2.ids
  | row T g fzn flat xs =>
    obtain ⟨_, _, _, ⟨_, rfl⟩ | ⟨k, arr, _, _, _, _, _, _, _, hc⟩⟩ := hb
    · exact .inr fun x hx => by cases hx
    · refine .inr fun x hx => hl x fun j v hv => ?_
      obtain ⟨i, hi, rfl⟩ := List.getElem_of_mem hx
      exact (hc i _ j v (List.getElem?_eq_getElem hi) hv).2.ids
  | map es => trivial
/-- What a callee may leave of the heap h0 that it got: h' is told of s. -/
def Leaves (h0 s h' : List B) : Prop :=
  h0.length ≤ h'.length ∧ h'.length ≤ s.length ∧ ∀ (b : Nat) (x : B), h'[b]? = some x → x = .dead ∨ (s[b]? = some x ∧ (h0[b]? = some x ∨ x.lt h'.length))
theorem B.lt_mono {n m : Nat} (h : n ≤ m) {x : B} (hx : x.lt n) : x.lt m := by
  have hv : (∀ v : V, v.lt n = true → v.lt m = true) ∧ (∀ vs : List V, V.lts n vs = true → V.lts m vs = true) := by
    have key : ∀ v : V, v.lt n = true → v.lt m = true := by
      intro v
      induction v using V.rec (motive_2 := fun _ => True) (motive_3 := fun vs => V.lts n vs = true → V.lts m vs = true) with
      | ref | ptr | ep | mp => intro h1; simp only [V.lt, decide_eq_true_eq] at h1 ⊢; omega
      | agg cs ih | tup cs ih => intro h1; simp only [V.lt] at h1 ⊢; exact ih h1
      | fn f a b iha ihb => intro h1; simp only [V.lt, Bool.and_eq_true] at h1 ⊢; exact ⟨iha h1.1, ihb h1.2⟩
      | ifc t v ih => intro h1; simp only [V.lt] at h1 ⊢; exact ih h1
      | nil => first | trivial | (intro _; rfl)
      | cons a r iha ihr => first | trivial | (intro h1; simp only [V.lts, Bool.and_eq_true] at h1 ⊢; exact ⟨iha h1.1, ihr h1.2⟩)
      | _ => first | (intro _; rfl) | trivial | (rename_i iha ihr; intro h1; simp only [V.lts, Bool.and_eq_true] at h1 ⊢; exact ⟨iha h1.1, ihr h1.2⟩)
    refine ⟨key, fun vs => ?_⟩
    induction vs with
    | nil => intro _; rfl
    | cons a r ih => intro h1; simp only [V.lts, Bool.and_eq_true] at h1 ⊢; exact ⟨key a h1.1, ih h1.2⟩
  cases x with
  | dead => trivial
  | var cs => exact hv.2 cs hx
  | row T g fzn flat xs => exact hx.imp id fun h x hx => hv.2 x (h x hx)
  | map es => trivial
theorem GCall_of_body {f : Nat} {fn : Func} {code : Code} {args : List V} {h : List B} {Q : V → List B → Prop} (hf : P.funcs[f]? = some fn) (hb : fn.body = some code) (hname : fn.name ≠ "runtime.NumGoroutine")
    (hn : args.length ≤ fn.ntmps)
    (body : AW P ge code (fun e s => (e = .normal ∨ e = .ret) ∧ ∃ v h', RetV P s fn.results.toList v ∧ Q v h' ∧ v.lt h'.length = true ∧ Leaves h s.h h') ⟨fn.ntmps, argTm 0 args, h⟩) : GCall P ge f args h Q := by
  refine ⟨⟨fn, hf, by rw [hb]; rfl, hname⟩, fun G w cargs ha rh => ?_⟩
  have hr := Rep_enter (P := P) (ge := ge) ha rh hn
  refine calls_of_wp hf hb (wp_mono (body G _ w hr) ?_)
  rintro e a' w' ⟨G', s, ⟨he, v, h', hret, hq, hv, hl1, hl2, hle⟩, r, ext⟩
  obtain ⟨c, hc, hvc⟩ := run_results r hret
  have hw : Weak s ⟨s.n, [], h'⟩ := ⟨rfl, hl2, fun p hp => (by cases hp), fun b x hx => (hle b x hx).imp id fun ⟨h1, h2⟩ => ⟨h1, h2.elim (fun h2 => B.lt_mono hl1 (rh.blt h2)) id⟩⟩
  have hR : (∃ c G'' v h'', Ending.returned c = .returned c ∧ Q v h'' ∧ RH P ge G'' h'' w' ∧ R G'' w' false v c ∧ Ext G h w G'' h'' w') := ⟨c, _, v, h', rfl, hq, (hw.rep r).rh, hvc.cut hv, Ext.cut hw ext (by rw [← rh.n]; exact hl1)⟩
  have hR' : ∃ c1 G'' v h'', Ending.returned c = .returned c1 ∧ Q v h'' ∧ RH P ge G'' h'' w' ∧ R G'' w' false v c1 ∧ Ext G h w G'' h'' w' := ⟨c, _, v, h', rfl, hq, (hw.rep r).rh, hvc.cut hv, Ext.cut hw ext (by rw [← rh.n]; exact hl1)⟩
  rcases he with rfl | rfl
  · exact ⟨r.d, c, hc, hR'⟩
  · exact ⟨r.d, c, hc, hR'⟩
end
end Go.AM
end
section
set_option linter.unusedVariables false
set_option linter.unusedSimpArgs false
namespace Go.AM
section
variable {P : Program} {ge : GEnv} {st : St} {G G' : Gh} {w w' : World} {Q : Exit → St → Prop}
variable {d : Option Tmp} {t : TypeId} {p : String} {af : Array Edge} {g : Option (Nat × Bool)}
/-- A value as it reads when nobody writes any more. -/
def frz (h : List B) : Nat → V → V
  | 0, v => if v.isF then v else .junk
  | n + 1, .ref b g off len => match h[b]? with
    | some (.row _ g' _ flat xs) => if g = g' ∧ off + len ≤ xs.length then .vec (if flat = true then xs.drop off else (xs.drop off).map fun x => x.map (frz h n)) len else .junk
    | _ => .junk
  | n + 1, .ptr b off => match h[b]? with
    | some (.var cs) => .fp (cs.map (frz h n)) off
    | _ => .junk
  | n + 1, .agg cs => .agg (cs.map (frz h n))
  | n + 1, .tup cs => .tup (cs.map (frz h n))
  | _ + 1, v => if v.isF then v else .junk
theorem R.fz {fz2 : Nat → Nat} {v : V} {c : Value} (h : R G w true v c) (hfz : ∀ k, G.fz k ≤ fz2 k) : R (G.withFz fz2) w true v c :=
  h.monoT (G' := G.withFz fz2) hfz (fun _ _ _ => rfl) rfl
theorem frz_spec {h : List B} (rh : RH P ge G h w) {fz2 : Nat → Nat} (hfz : ∀ k, G.fz k ≤ fz2 k)
    (hall : ∀ (b : Nat) (x : B) (k : Nat) (arr : Array Value) (T : TypeId) (fr : Nat × Nat), h[b]? = some x → G.at b x = some k → w.heap[k]? = some (.cells arr T fr) → arr.size ≤ fz2 k) :
    ∀ (n : Nat) {fr : Bool} {v : V} {c : Value}, R G w fr v c → R (G.withFz fz2) w true (frz h n v) c := by
  have hF : ∀ {fr : Bool} {v : V} {c : Value}, R G w fr v c → R (G.withFz fz2) w true (if v.isF then v else .junk) c := fun {fr v c} hr => by
    split
    · rename_i hf; exact (hr.frozen hf).fz hfz
    · exact .junk
  have hmap : ∀ (n : Nat), (∀ {fr : Bool} {v : V} {c : Value}, R G w fr v c → R (G.withFz fz2) w true (frz h n v) c) → ∀ (cs : List V) (i : Nat) (u : V), (cs.map (frz h n))[i]? = some u → ∃ u0, cs[i]? = some u0 ∧ u = frz h n u0 := fun n _ cs i u hu => by
    rw [List.getElem?_map] at hu
    obtain ⟨u0, h1, h2⟩ := Option.map_eq_some_iff.1 hu
    exact ⟨u0, h1, h2.symm⟩
  intro n
  induction n with
  | zero => intro fr v c hr; exact hF hr
  | succ n ih =>
    intro fr v c hr
    cases hr with
    | agg hs ho hr =>
      refine .agg (by rw [List.length_map]; exact hs) (fun i u hu => ?_) (fun i u hu => ?_)
      · obtain ⟨u0, h1, rfl⟩ := hmap n ih _ i u hu; exact ho i u0 h1
      · obtain ⟨u0, h1, rfl⟩ := hmap n ih _ i u hu; exact ih (hr i u0 h1)
    | tup hs hr =>
      refine .tup (by rw [List.length_map]; exact hs) (fun i u hu => ?_)
      obtain ⟨u0, h1, rfl⟩ := hmap n ih _ i u hu; exact ih (hr i u0 h1)
    | @ref b g off len k hb hg hm hle =>
      simp only [frz]
      split
      · rename_i T g' fzn flat xs hx
        split
        · rename_i hc
          obtain ⟨rfl, hlen⟩ := hc
          obtain ⟨h00, hfx, ⟨hsz0, hszT⟩, hrow⟩ := rh.bl b _ hx
          rcases hrow with ⟨hn, rfl⟩ | ⟨k', arr, hm', hh, hfzk, hs, hl, hcm, hlen', hcells⟩
          · rw [hm] at hn; cases hn
          · rw [hm] at hm'; cases hm'
            have hbig := hall b _ k arr T _ hx (by simp only [Gh.at]; exact hm) hh
            have hin : ∀ (i : Nat) (x : List V) (j : Nat), xs[i]? = some x → j < x.length → i * G.sz b + j < arr.size := fun i x j hx hj => by
              rw [hlen' i x hx] at hj
              have h2 : i < xs.length := (List.getElem?_eq_some_iff.1 hx).1
              have h3 : (i + 1) * G.sz b ≤ G.cap b g * G.sz b := Nat.mul_le_mul_right _ (by omega)
              rw [hs]; rw [Nat.add_mul] at h3; omega
            have haddr : ∀ i j, off * G.sz b + (i * G.sz b + j) = (off + i) * G.sz b + j := fun i j => by rw [Nat.add_mul]; omega
            -- one cell of the row
            have hone : ∀ (i : Nat) (x : List V) (j : Nat) (v : V), xs[off + i]? = some x → x[j]? = some v →
                ((w.cell? ⟨k, off * G.sz b + (i * G.sz b + j), none⟩).isSome = true ∧ off * G.sz b + (i * G.sz b + j) < (G.withFz fz2).fz k) ∧
                (cellD w k (off * G.sz b + (i * G.sz b + j))).oneCell' = true ∧ R G w flat v (cellD w k (off * G.sz b + (i * G.sz b + j))) := fun i x j v hx hv => by
              rw [haddr]
              have hj := hin (off + i) x j hx (List.getElem?_eq_some_iff.1 hv).1
              have hc := arr_cell hh hj
              have hd : cellD w k ((off + i) * G.sz b + j) = arr.getD ((off + i) * G.sz b + j) undef := by unfold cellD; rw [hc]; rfl
              rw [hd]
              exact ⟨⟨by rw [hc]; rfl, Nat.lt_of_lt_of_le hj hbig⟩, (hcells _ x j v hx hv).1, (hcells _ x j v hx hv).2⟩
            cases flat with
            | true =>
              simp only [if_true]
              have hd : ∀ (i : Nat) (x : List V), (xs.drop off)[i]? = some x → xs[off + i]? = some x := fun i x hx => by rw [List.getElem?_drop] at hx; exact hx
              refine .vec (sz := G.sz b) (by rw [List.length_drop]; omega) (by rw [List.length_drop]; omega) (by omega) (fun i x hx => hlen' _ x (hd i x hx)) (fun i x j v hx hv => (hone i x j v (hd i x hx) hv).1)
                (fun i x j v hx hv => (hone i x j v (hd i x hx) hv).2.1) (fun i x j v hx hv => ?_)
              exact (hone i x j v (hd i x hx) hv).2.2.fz hfz
            | false =>
              simp only [Bool.false_eq_true, if_false]
              have hd : ∀ (i : Nat) (x : List V), ((xs.drop off).map fun x => x.map (frz h n))[i]? = some x → ∃ x0, xs[off + i]? = some x0 ∧ x = x0.map (frz h n) := fun i x hx => by
                rw [List.getElem?_map, List.getElem?_drop] at hx
                obtain ⟨x0, h1, h2⟩ := Option.map_eq_some_iff.1 hx
                exact ⟨x0, h1, h2.symm⟩
              refine .vec (sz := G.sz b) (by rw [List.length_map, List.length_drop]; omega) (by rw [List.length_map, List.length_drop]; omega) (by omega) (fun i x hx => ?_) (fun i x j v hx hv => ?_) (fun i x j v hx hv => ?_) (fun i x j v hx hv => ?_)
              · obtain ⟨x0, h1, rfl⟩ := hd i x hx; rw [List.length_map]; exact hlen' _ x0 h1
              · obtain ⟨x0, h1, rfl⟩ := hd i x hx; obtain ⟨v0, h2, rfl⟩ := hmap n ih _ j v hv; exact (hone i x0 j v0 h1 h2).1
              · obtain ⟨x0, h1, rfl⟩ := hd i x hx; obtain ⟨v0, h2, rfl⟩ := hmap n ih _ j v hv; exact (hone i x0 j v0 h1 h2).2.1
              · obtain ⟨x0, h1, rfl⟩ := hd i x hx; obtain ⟨v0, h2, rfl⟩ := hmap n ih _ j v hv; exact ih (hone i x0 j v0 h1 h2).2.2
        · exact .junk
      · exact .junk
    | @refn b g hb hg hm =>
      simp only [frz]
      split
      · rename_i T g' fzn flat xs hx
        split
        · rename_i hc
          obtain ⟨rfl, hlen⟩ := hc
          obtain ⟨h00, hfx, _, hrow⟩ := rh.bl b _ hx
          rcases hrow with ⟨hn, rfl⟩ | ⟨k', arr, hm', _⟩
          · cases flat <;> exact .emp (Nat.zero_le _)
          · rw [hm] at hm'; cases hm'
        · exact .junk
      · exact .junk
    | @ptr b off k hb hm =>
      simp only [frz]
      split
      · rename_i cs hx
        obtain ⟨h00, k', arr, T, hm', hh, hfz0, hs, hc⟩ := rh.bl b _ hx
        rw [hm] at hm'; cases hm'
        have hbig := hall b _ k arr T _ hx (by simp only [Gh.at]; exact hm) hh
        have e : (⟨k, off, none⟩ : Addr) = ⟨k, 0 + off, none⟩ := by simp
        rw [e]
        have hcell : ∀ (j : Nat) (u : V), cs[j]? = some u → w.cell? ⟨k, 0 + j, none⟩ = some (arr.getD j undef) ∧ j < arr.size := fun j u hu => by
          have hj : j < arr.size := by rw [hs]; exact (List.getElem?_eq_some_iff.1 hu).1
          rw [Nat.zero_add]; exact ⟨arr_cell hh hj, hj⟩
        have hd : ∀ (j : Nat) (u : V), cs[j]? = some u → cellD w k (0 + j) = arr.getD j undef := fun j u hu => by unfold cellD; rw [(hcell j u hu).1]; rfl
        refine .fp (fun j u hu => ?_) (fun j u hu => ?_) (fun j u hu => ?_)
        · obtain ⟨u0, h1, rfl⟩ := hmap n ih _ j u hu
          refine ⟨by rw [(hcell j u0 h1).1]; rfl, ?_⟩
          rw [Nat.zero_add]; exact Nat.lt_of_lt_of_le (hcell j u0 h1).2 hbig
        · obtain ⟨u0, h1, rfl⟩ := hmap n ih _ j u hu
          rw [hd j u0 h1]; exact (hc j u0 h1).1
        · obtain ⟨u0, h1, rfl⟩ := hmap n ih _ j u hu
          rw [hd j u0 h1]; exact ih (hc j u0 h1).2
      · exact .junk
    | junk => exact .junk
    | void => exact .void
    | bool => exact .bool
    | int => exact .int
    | str => exact .str
    | nils => exact .nils
    | nilp => exact .nilp
    | nilf => exact .nilf
    | nilm => exact .nilm
    | nili => exact .nili
    | emp h => exact .emp h
    | vec h1 h2 h3 hl hc ho hr => exact hF (fr := true) (.vec h1 h2 h3 hl hc ho hr)
    | fp hc ho hr => exact hF (fr := true) (.fp hc ho hr)
    | fn hs hr hs' hr' => exact hF (fr := fr) (.fn hs hr hs' hr')
    | ifc hr => exact hF (fr := fr) (.ifc hr)
    | ep hb hg hm => exact hF (fr := false) (.ep hb hg hm)
    | mp hb hm => exact hF (fr := false) (.mp hb hm)
end
/-- How a result is told: frozen; or, row by row, as one's own. -/
def Conv1 (h : List B) (v r : V) : Prop :=
  (v.isF = true ∧ r = v) ∨ ∃ b g T xs, v = .ref b g 0 xs.length ∧ h[b]? = some (.row T g 0 true xs) ∧ r = .own T xs
def V.refBlk : V → Option Nat
  | .ref b _ _ _ => some b
  | _ => none
def Conv (h : List B) (v r : V) : Prop :=
  (∃ n, r = frz h n v ∧ r.plain = true) ∨ Conv1 h v r ∨
  ∃ vs rs, v = .tup vs ∧ r = .tup rs ∧ vs.length = rs.length ∧ (∀ (i : Nat) (u s : V), vs[i]? = some u → rs[i]? = some s → Conv1 h u s) ∧
    ∀ (i j : Nat) (u u' : V) (b : Nat), vs[i]? = some u → vs[j]? = some u' → u.refBlk = some b → u'.refBlk = some b → i = j
section
variable {P : Program} {ge : GEnv} {st : St} {G G' : Gh} {w w' : World} {Q : Exit → St → Prop}
variable {d : Option Tmp} {t : TypeId} {p : String} {af : Array Edge} {g : Option (Nat × Bool)}
theorem RO1_of_conv {h : List B} (rh : RH P ge G h w) {base : Nat} (hbase : ∀ (b : Nat) (x : B) (k : Nat), h[b]? = some x → G.at b x = some k → base ≤ k) {v r : V} {c : Value} (hv : R G w false v c) (hc : Conv1 h v r) :
    RO1 P G w base r c := by
  rcases hc with ⟨hf, rfl⟩ | ⟨b, g, T, xs, rfl, hb, rfl⟩
  · have := hv.frozen hf
    cases r <;> first | exact this | (simp [V.isF] at hf)
  · obtain ⟨h00, hfx, ⟨hsz0, hszT⟩, hrow⟩ := rh.bl b _ hb
    refine ⟨by rw [← hszT]; exact hsz0, ?_⟩
    generalize hnl : xs.length = nl at hv
    cases hv with
    | @ref _ _ _ _ k hbn hg hm hle =>
      subst hnl
      rcases hrow with ⟨hn, rfl⟩ | ⟨k', arr, hm', hh, hfzk, hs, hl, hcm, hlen', hcells⟩
      · rw [hm] at hn; cases hn
      · rw [hm] at hm'; cases hm'
        refine .inr ⟨k, G.cap b g, arr, by simp, hbase b _ k hb (by simp only [Gh.at]; exact hm), hh, by omega, by rw [← hszT]; exact hs, hl, hcm, by rw [← hszT]; exact hlen', ?_⟩
        rw [← hszT]; exact hcells
    | refn hbn hg hm =>
      rcases hrow with ⟨hn, rfl⟩ | ⟨k', arr, hm', _⟩
      · exact .inl ⟨rfl, rfl⟩
      · rw [hm] at hm'; cases hm'
theorem RO_of_one {base : Nat} {r : V} {c : Value} (h : RO1 P G w base r c) : RO P G w base r c := by
  cases r
  case tup vs =>
    have h' : R G w true (.tup vs) c := h
    cases h' with
    | @tup _ _ arr hs hr =>
      refine ⟨arr, rfl, hs, fun i v hv => ?_, fun i j u v k hu hv h1 h2 => ?_⟩
      · have := hr i v hv
        cases v <;> first | exact this | (cases this)
      · have := hr i u hu
        cases u <;> simp [V.isOwn] at h1
        cases this
  all_goals exact h
/-- A pure contract, out of the body's walk. -/
theorem PCall_of_body {f : Nat} {fn : Func} {code : Code} {args : List V} {r : V} (hf : P.funcs[f]? = some fn) (hb : fn.body = some code) (hname : fn.name ≠ "runtime.NumGoroutine") (hn : args.length ≤ fn.ntmps)
    (body : AW P ge code (fun e s => (e = .normal ∨ e = .ret) ∧ ∃ v, RetV P s fn.results.toList v ∧ Conv s.h v r) ⟨fn.ntmps, argTm 0 args, []⟩) : PCall P ge f args r := by
  refine ⟨⟨fn, hf, by rw [hb]; rfl, hname⟩, fun G w cargs ha gee => ?_⟩
  let G0 : Gh := { fz := G.fz, n := 0, gm := fun _ => 0, m := fun _ _ => none, sz := fun _ => 0, cap := fun _ _ => 0 }
  have ha0 : ArgsR G0 w false args cargs := ⟨ha.1, fun i v hv => ((ha.2 i v hv).monoT (G' := G0) (fun k => Nat.le_refl (G.fz k)) (fun _ _ _ => rfl) rfl).weak rfl⟩
  have rh0 : RH P ge G0 [] w := ⟨rfl, fun b x hx => by simp at hx, fun b b' x x' k hx => by simp at hx, gee.fzlt, fun g cs hg => (gee.ge g cs hg).monoT (G' := G0) (fun k => Nat.le_refl (G.fz k)) (fun _ _ _ => rfl) rfl⟩
  have hr := Rep_enter ha0 rh0 hn
  refine calls_of_wp hf hb (wp_mono (body G0 _ w hr) ?_)
  rintro e a' w' ⟨G', s, ⟨he, v, hret, hconv⟩, rr, ext⟩
  obtain ⟨c, hc, hvc⟩ := run_results rr hret
  have grow : WGrow w w' := ⟨ext.size, fun k hk => (ext.frame k hk fun b x hx => by simp at hx).1, ext.os, ext.out⟩
  have hfzold : ∀ k, k < w.heap.size → G'.fz k = G.fz k := fun k hk => (ext.frame k hk fun b x hx => by simp at hx).2
  have hbase : ∀ (b : Nat) (x : B) (k : Nat), s.h[b]? = some x → G'.at b x = some k → w.heap.size ≤ k := fun b x k hx hk => by
    rcases ext.fresh b x k hx hk with h | ⟨b0, x0, h, _⟩
    · exact h
    · simp at h
  have fin : ∃ c1 G2, Ending.returned c = .returned c1 ∧ Kept G w G2 w' ∧ RO P G2 w' w.heap.size r c1 := by
    rcases hconv with ⟨n, hrr, hp⟩ | h1 | ⟨vs, rs, rfl, rfl, hl, hall, hdis⟩
    · let fz2 : Nat → Nat := fun k => if k < w.heap.size then G'.fz k else match w'.heap[k]? with
        | some (.cells arr _ _) => max (G'.fz k) arr.size
        | _ => G'.fz k
      have hle : ∀ k, G'.fz k ≤ fz2 k := fun k => by
        show G'.fz k ≤ if k < w.heap.size then G'.fz k else match w'.heap[k]? with | some (.cells arr _ _) => max (G'.fz k) arr.size | _ => G'.fz k
        split
        · exact Nat.le_refl _
        · split
          · exact Nat.le_max_left _ _
          · exact Nat.le_refl _
      have hfr := frz_spec rr.rh (fz2 := fz2) hle (fun b x k arr T fr hx hk hh => by
        have hb := hbase b x k hx hk
        show arr.size ≤ if k < w.heap.size then G'.fz k else match w'.heap[k]? with | some (.cells arr _ _) => max (G'.fz k) arr.size | _ => G'.fz k
        rw [if_neg (by omega), hh]
        exact Nat.le_max_right _ _) n hvc
      refine ⟨c, G'.withFz fz2, rfl, ⟨grow, fun k hk => ?_, fun k hk => ?_⟩, ?_⟩
      · show (if k < w.heap.size then G'.fz k else _) = G.fz k
        rw [if_pos hk]; exact hfzold k hk
      · have hk2 : ¬ k < w.heap.size := by have := ext.size; omega
        show (if k < w.heap.size then G'.fz k else match w'.heap[k]? with | some (.cells arr _ _) => max (G'.fz k) arr.size | _ => G'.fz k) = 0
        rw [if_neg hk2, Array.getElem?_eq_none hk]
        exact rr.rh.fzlt k hk
      · rw [← hrr] at hfr
        refine RO_of_one ?_
        cases r <;> first | exact hfr | (simp [V.plain] at hp)
    · exact ⟨c, G', rfl, ⟨grow, hfzold, rr.rh.fzlt⟩, RO_of_one (RO1_of_conv rr.rh hbase hvc h1)⟩
    · refine ⟨c, G', rfl, ⟨grow, hfzold, rr.rh.fzlt⟩, ?_⟩
      cases hvc with
      | @tup _ _ arr hs hr' =>
        refine ⟨arr, rfl, by rw [hs]; exact hl, fun i v hv => ?_, fun i j u v k hu hv ou ov b1 b2 => ?_⟩
        · have hi : i < vs.length := by rw [hl]; exact (List.getElem?_eq_some_iff.1 hv).1
          exact RO1_of_conv rr.rh hbase (hr' i _ (List.getElem?_eq_getElem hi)) (hall i _ v (List.getElem?_eq_getElem hi) hv)
        · have hi : i < vs.length := by rw [hl]; exact (List.getElem?_eq_some_iff.1 hu).1
          have hj : j < vs.length := by rw [hl]; exact (List.getElem?_eq_some_iff.1 hv).1
          have key : ∀ (i : Nat) (hi : i < vs.length) (u : V), rs[i]? = some u → u.isOwn = true → blkOf (arr.getD i undef) = some k → ∃ b x, vs[i].refBlk = some b ∧ s.h[b]? = some x ∧ G'.at b x = some k := by
            intro i hi u hu ou hb1
            have hR := hr' i _ (List.getElem?_eq_getElem hi)
            rcases hall i _ u (List.getElem?_eq_getElem hi) hu with ⟨hf, rfl⟩ | ⟨b, g, T, xs, hvi, hbx, rfl⟩
            · generalize hvv : vs[i] = vv at *
              cases vv <;> simp [V.isOwn] at ou
              simp [V.isF] at hf
            · rw [hvi] at hR
              refine ⟨b, _, by rw [hvi]; rfl, hbx, ?_⟩
              generalize arr.getD i undef = cc at *
              generalize hnl : xs.length = nl at hR
              cases hR with
              | ref hb' hg' hm' hle' => simp only [blkOf, Option.some.injEq] at hb1; subst hb1; exact hm'
              | refn => simp [blkOf] at hb1
          obtain ⟨bi, xi, e1, e2, e3⟩ := key i hi u hu ou b1
          obtain ⟨bj, xj, f1, f2, f3⟩ := key j hj v hv ov b2
          have hbb := rr.rh.inj bi bj xi xj k e2 f2 e3 f3
          subst hbb
          exact hdis i j _ _ bi (List.getElem?_eq_getElem hi) (List.getElem?_eq_getElem hj) e1 f1
  rcases he with rfl | rfl
  · exact ⟨rr.d, c, hc, fin⟩
  · exact ⟨rr.d, c, hc, fin⟩
end
end Go.AM
end
