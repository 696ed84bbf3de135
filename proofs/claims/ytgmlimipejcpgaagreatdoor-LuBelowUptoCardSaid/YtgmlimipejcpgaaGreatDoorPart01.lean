/-
  YtgmlimipejcpgaaGreatDoorPart01: steps of the proof of a law of the program: what these texts prove holds under the hypotheses that their theorems name, and no others.
-/
import Derived.Test.YtgmlimipejcpgaaGreatDoorPart00
import Derived.Laws.StructEq
import Derived.ChangeKeysEq
section
set_option linter.unusedVariables false
set_option linter.unusedSimpArgs false
namespace Go.AM
section
variable {P : Program} {ge : GEnv} {st : St} {G : Gh} {w w' : World}
/-- The cells that an address lies among, and where. -/
def place (h : List B) : V → Option (List V × Nat)
  | .fp cs off => some (cs, off)
  | .ptr b off => match h[b]? with
    | some (.var cs) => some (cs, off)
    | _ => none
  | .ep b g i off => match h[b]? with
    | some (.row _ g' _ _ xs) => if g = g' then (xs[i]?).map fun x => (x, off) else none
    | _ => none
  | _ => none
theorem arr_cell {k : Nat} {arr : Array Value} {T : TypeId} {fr : Nat × Nat} (h : w.heap[k]? = some (.cells arr T fr)) {j : Nat} (hj : j < arr.size) : w.cell? ⟨k, j, none⟩ = some (arr.getD j undef) := by
  rw [cell_of_row w k j arr T fr h, Array.getD_eq_getD_getElem?, Array.getElem?_eq_getElem hj]
  rfl
theorem place_spec (hr : RH P ge G st.h w) {v : V} {c : Value} {cs : List V} {off : Nat} (hp : place st.h v = some (cs, off)) (hv : R G w false v c) :
    ∃ k o, c = .pointer (some ⟨k, o + off, none⟩) ∧ ∀ (j : Nat) (u : V), cs[j]? = some u → ∃ x, w.cell? ⟨k, o + j, none⟩ = some x ∧ x.oneCell' = true ∧ R G w false u x := by
  cases hv with
  | @fp fr cs' off' k o hc ho hr' =>
    simp only [place, Option.some.injEq, Prod.mk.injEq] at hp
    obtain ⟨rfl, rfl⟩ := hp
    refine ⟨k, o, rfl, fun j u hu => ?_⟩
    obtain ⟨x, hx⟩ := Option.isSome_iff_exists.1 (hc j u hu).1
    have hd : cellD w k (o + j) = x := by unfold cellD; rw [hx]; rfl
    exact ⟨x, hx, hd ▸ ho j u hu, (hd ▸ hr' j u hu).weak rfl⟩
  | @ptr b off' k hb hm =>
    simp only [place] at hp
    split at hp
    · rename_i cs' hcs
      simp only [Option.some.injEq, Prod.mk.injEq] at hp
      obtain ⟨rfl, rfl⟩ := hp
      obtain ⟨_, k', arr, T, hm', hh, _, hs, hc⟩ := hr.bl b _ hcs
      rw [hm] at hm'; cases hm'
      refine ⟨k, 0, by simp, fun j u hu => ?_⟩
      have hj : j < arr.size := by rw [hs]; exact (List.getElem?_eq_some_iff.1 hu).1
      rw [Nat.zero_add]
      exact ⟨_, arr_cell hh hj, (hc j u hu).1, (hc j u hu).2⟩
    · cases hp
  | @ep b g i off' k hb hg hm =>
    simp only [place] at hp
    split at hp
    · rename_i T g' fzn flat xs hxs
      split at hp
      · rename_i hgg
        subst hgg
        obtain ⟨x, hx, hxe⟩ := Option.map_eq_some_iff.1 hp
        simp only [Prod.mk.injEq] at hxe
        obtain ⟨rfl, rfl⟩ := hxe
        obtain ⟨_, _, hsz, ⟨hn, hnil⟩ | ⟨k', arr, hm', hh, _, hs, hl, _, hlen, hc⟩⟩ := hr.bl b _ hxs
        · rw [hnil] at hx; simp at hx
        · rw [hm] at hm'; cases hm'
          refine ⟨k, i * G.sz b, by simp, fun j u hu => ?_⟩
          have hj : i * G.sz b + j < arr.size := by
            have h1 : j < G.sz b := by rw [← hlen i x hx]; exact (List.getElem?_eq_some_iff.1 hu).1
            have h2 : i < xs.length := (List.getElem?_eq_some_iff.1 hx).1
            have h3 : (i + 1) * G.sz b ≤ G.cap b g * G.sz b := Nat.mul_le_mul_right _ (by omega)
            rw [hs, Nat.add_mul] at *; omega
          refine ⟨_, arr_cell hh hj, (hc i x j u hx hu).1, ?_⟩
          have := (hc i x j u hx hu).2
          cases flat
          · exact this
          · exact this.weak rfl
      · cases hp
    · cases hp
  | _ => simp [place] at hp
def isAggT (P : Program) (t : TypeId) : Bool := match P.underlying t with
  | some (.struct _) | some (.array _ _) => true
  | _ => false
theorem run_isAgg {t : TypeId} (h : (P.underlying t).isSome = true) (w : World) : (isAgg t).run P w = .ok (isAggT P t) w := by
  obtain ⟨d, hd⟩ := Option.isSome_iff_exists.1 h
  unfold isAgg isAggT
  simp only [Sem.run_bind, run_underlying hd, Result.andThen_ok, hd]
  cases d <;> rfl
def loadV (P : Program) (t : TypeId) (cs : List V) (off : Nat) : V := if isAggT P t = true then .agg ((cs.drop off).take (szOf P t)) else cs.getD off .junk
def loadOk (P : Program) (t : TypeId) (cs : List V) (off : Nat) : Prop :=
  (P.underlying t).isSome = true ∧ if isAggT P t = true then 0 < szOf P t ∧ off + szOf P t ≤ cs.length else off < cs.length
theorem S_load_pure {d : Option Tmp} {e : TypeId} {x : Operand} {t : TypeId} {p : String} {af : Array Edge} {g : Option (Nat × Bool)} {cs : List V} {off : Nat} {a : Act} (hr : Rep P ge G st a w)
    (hp : place st.h (ev ge st.tm x) = some (cs, off)) (hok : loadOk P e cs off) : ∃ c, (execOp a.eval ⟨d, .load e x, t, p, af, g⟩).run P w = .ok (.value c) w ∧ R G w false (loadV P e cs off) c := by
    obtain ⟨k, o, hc, hcell⟩ := place_spec hr.rh hp (hr.ev x)
    obtain ⟨hu, hok⟩ := hok
    by_cases hagg : isAggT P e = true
    · rw [if_pos hagg] at hok
      have hl := run_loadCells (P := P) w ⟨k, o + off, none⟩ (szOf P e) (fun j => cellD w k (o + (off + j))) (fun j hj => by
        obtain ⟨x, hx, _⟩ := hcell (off + j) (cs[off + j]'(by omega)) (List.getElem?_eq_getElem _)
        rw [Addr.add_lit, Nat.add_assoc]
        unfold cellD; rw [hx]; rfl)
      refine ⟨.agg ((List.range (szOf P e)).map fun j => cellD w k (o + (off + j))).toArray, ?_, ?_⟩
      · simp [execOp, Instr.loadAt, hc, Instr.sureAddr, loadVar, run_isAgg hu, hagg, run_sizeOf rfl hok.1, hl]
      · unfold loadV; rw [if_pos hagg]
        have hin : ∀ (i : Nat) (v : V), ((cs.drop off).take (szOf P e))[i]? = some v → i < szOf P e ∧ cs[off + i]? = some v := fun i v hv => by
          rw [List.getElem?_take] at hv
          split at hv
          · rename_i hi; rw [List.getElem?_drop] at hv; exact ⟨hi, hv⟩
          · cases hv
        have hget : ∀ i, i < szOf P e → (((List.range (szOf P e)).map fun j => cellD w k (o + (off + j))).toArray).getD i undef = cellD w k (o + (off + i)) := fun i hi => by
          rw [Array.getD_eq_getD_getElem?]; simp [hi]
        refine .agg (by simp; omega) (fun i v hv => ?_) (fun i v hv => ?_)
        · obtain ⟨hi, hv⟩ := hin i v hv
          obtain ⟨x, hx, h1, h2⟩ := hcell (off + i) v hv
          rw [hget i hi]; unfold cellD; rw [hx]; exact h1
        · obtain ⟨hi, hv⟩ := hin i v hv
          obtain ⟨x, hx, h1, h2⟩ := hcell (off + i) v hv
          rw [hget i hi]; unfold cellD; rw [hx]; exact h2
    · rw [if_neg hagg] at hok
      obtain ⟨x, hx, h1, h2⟩ := hcell off (cs[off]) (List.getElem?_eq_getElem hok)
      refine ⟨x, ?_, ?_⟩
      · simp only [Bool.not_eq_true] at hagg
        simp [execOp, Instr.loadAt, hc, Instr.sureAddr, loadVar, run_isAgg hu, hagg, hx]
      · unfold loadV; rw [if_neg hagg]
        rw [List.getD, List.getElem?_eq_getElem hok]; exact h2
theorem S_load {d : Option Tmp} {e : TypeId} {x : Operand} {t : TypeId} {p : String} {af : Array Edge} {g : Option (Nat × Bool)} {cs : List V} {off : Nat}
    (hp : place st.h (ev ge st.tm x) = some (cs, off)) (hok : loadOk P e cs off) : OpS P ge st ⟨d, .load e x, t, p, af, g⟩ (loadV P e cs off) st.h :=
  OpS_pure fun G a w hr => S_load_pure hr hp hok
def storeL (cs : List V) (off : Nat) (vs : List V) : List V := if off = 0 ∧ vs.length = cs.length then vs else cs.take off ++ vs ++ cs.drop (off + vs.length)
theorem storeL_length {cs : List V} {off : Nat} {vs : List V} (h : off + vs.length ≤ cs.length) : (storeL cs off vs).length = cs.length := by
  unfold storeL; split
  · rename_i h; exact h.2
  · simp; omega
theorem storeL_get {cs : List V} {off : Nat} {vs : List V} (h : off + vs.length ≤ cs.length) (i : Nat) : (storeL cs off vs)[i]? = if off ≤ i ∧ i < off + vs.length then vs[i - off]? else cs[i]? := by
  unfold storeL
  split
  · rename_i hh
    obtain ⟨rfl, hh⟩ := hh
    by_cases hi : i < vs.length
    · rw [if_pos ⟨Nat.zero_le _, by omega⟩, Nat.sub_zero]
    · rw [if_neg (by omega), List.getElem?_eq_none (by omega), List.getElem?_eq_none (by omega)]
  · by_cases h1 : i < off
    · rw [if_neg (by omega), List.append_assoc, List.getElem?_append_left (by simp; omega), List.getElem?_take, if_pos h1]
    · by_cases h2 : i < off + vs.length
      · rw [if_pos ⟨by omega, h2⟩, List.getElem?_append_left (by simp; omega), List.getElem?_append_right (by simp; omega)]
        congr 1
        simp; omega
      · rw [if_neg (by omega), List.getElem?_append_right (by simp; omega), List.getElem?_drop]
        congr 1
        simp; omega
/-- One concrete block has changed, and its abstract block with it. -/
theorem RH_upd {h : List B} (rh : RH P ge G h w) {b k : Nat} {x y : B} (hx : h[b]? = some x) (hk : G.at b x = some k) (hs : w'.heap.size = w.heap.size)
    (ho : ∀ k', k' ≠ k → w'.heap[k']? = w.heap[k']?) (hos : w'.os = w.os) (hout : w'.output = w.output ∧ w'.tape = w.tape) (le : GLe G w G w') (hy : RB P G w' b y) (hat : G.at b y = some k) :
    RH P ge G (h.set b y) w' ∧ Ext G h w G (h.set b y) w' := by
  have hb : b < h.length := (List.getElem?_eq_some_iff.1 hx).1
  have part : ∀ {b' z}, (h.set b y)[b']? = some z → (b' = b ∧ z = y) ∨ (b' ≠ b ∧ h[b']? = some z) := fun {b' z} hz => by
    rw [List.getElem?_set] at hz
    split at hz
    · rename_i e; subst e; first | (cases hz; exact .inl ⟨rfl, rfl⟩) | (rw [if_pos hb] at hz; cases hz; exact .inl ⟨rfl, rfl⟩)
    · rename_i e; exact .inr ⟨fun e' => e e'.symm, hz⟩
  constructor
  · refine ⟨by rw [List.length_set]; exact rh.n, ?_, ?_, ?_, ?_⟩
    · intro b' z hz
      rcases part hz with ⟨rfl, rfl⟩ | ⟨hne, hz⟩
      · exact hy
      · refine RB.keep le (by have := (List.getElem?_eq_some_iff.1 hz).1; rw [rh.n] at this; exact this) rfl (fun k' hk' => ⟨ho k' ?_, rfl⟩) (rh.bl b' z hz)
        intro e; subst e; exact hne (rh.inj b' b z x k' hz hx hk' hk)
    · intro b1 b2 z1 z2 k' h1 h2 e1 e2
      rcases part h1 with ⟨rfl, rfl⟩ | ⟨n1, o1⟩ <;> rcases part h2 with ⟨rfl, rfl⟩ | ⟨n2, o2⟩
      · rfl
      · rw [hat] at e1; cases e1; exact (rh.inj _ _ _ _ _ o2 hx e2 hk).symm
      · rw [hat] at e2; cases e2; exact rh.inj _ _ _ _ _ o1 hx e1 hk
      · exact rh.inj _ _ _ _ _ o1 o2 e1 e2
    · intro k' hk'; rw [hs] at hk'; exact rh.fzlt k' hk'
    · intro g cs hg; exact (rh.ge g cs hg).mono le
  · refine ⟨le, by omega, ?_, ?_, hos, hout⟩
    · intro k' _ hn; exact ⟨ho k' fun e => hn b x hx (by rw [hk, e]), rfl⟩
    · intro b' z k' hz hat'
      rcases part hz with ⟨rfl, rfl⟩ | ⟨_, hz⟩
      · rw [hat] at hat'; cases hat'; exact .inr ⟨b', x, hx, hk⟩
      · exact .inr ⟨b', z, hz, hat'⟩
theorem toList_getD (arr : Array Value) (i : Nat) : arr.getD i undef = (arr.toList[i]?).getD undef := by
  rw [Array.getD_eq_getD_getElem?, Array.getElem?_toList]
theorem splice_get {α : Type} (cur : List α) (o : Nat) (vs : List α) (h : o + vs.length ≤ cur.length) (i : Nat) :
    (cur.take o ++ vs ++ cur.drop (o + vs.length))[i]? = if o ≤ i ∧ i < o + vs.length then vs[i - o]? else cur[i]? := by
  by_cases h1 : i < o
  · rw [if_neg (by omega), List.append_assoc, List.getElem?_append_left (by simp; omega), List.getElem?_take, if_pos h1]
  · by_cases h2 : i < o + vs.length
    · rw [if_pos ⟨by omega, h2⟩, List.getElem?_append_left (by simp; omega), List.getElem?_append_right (by simp; omega)]
      congr 1
      simp; omega
    · rw [if_neg (by omega), List.getElem?_append_right (by simp; omega), List.getElem?_drop]
      congr 1
      simp; omega
/-- A store into a variable. -/
theorem S_store_var {d : Option Tmp} {e : TypeId} {x y : Operand} {t : TypeId} {p : String} {af : Array Edge} {g : Option (Nat × Bool)} {b off : Nat} {cs : List V}
    (hx : ev ge st.tm x = .ptr b off) (hb : st.h[b]? = some (.var cs)) (hy : (ev ge st.tm y).cellsOk = true) (hsz : szOf P e = (ev ge st.tm y).cellsOf.length) (h0 : 0 < szOf P e)
    (hin : off + (ev ge st.tm y).cellsOf.length ≤ cs.length) :
    OpS P ge st ⟨d, .store e x y, t, p, af, g⟩ .void (st.h.set b (.var (storeL cs off (ev ge st.tm y).cellsOf))) := by
  intro G a w hr
  have hvx := hr.ev x
  rw [hx] at hvx
  obtain ⟨hcs, hcv⟩ := cells_of (hr.ev y) hy
  cases hc : a.eval x <;> rw [hc] at hvx <;> cases hvx
  rename_i k hbn hm
  obtain ⟨h00, k', arr, T, hm', hh, hfz, hs, hcells⟩ := hr.rh.bl b _ hb
  rw [hm] at hm'; cases hm'
  have hone : ∀ v ∈ (a.eval y).cells.toList, v.oneCell' = true := fun v hv => by
    obtain ⟨i, hi, rfl⟩ := List.getElem_of_mem hv
    have hi' : i < (ev ge st.tm y).cellsOf.length := by rw [← hcs]; simpa using hi
    have := (hcv i _ (List.getElem?_eq_getElem hi')).1
    rw [toList_getD, List.getElem?_eq_getElem hi] at this; exact this
  have hlen : (a.eval y).cells.toList.length = (ev ge st.tm y).cellsOf.length := by rw [Array.length_toList, hcs]
  have hal : arr.toList.length = arr.size := Array.length_toList
  have hin' : off + (a.eval y).cells.toList.length ≤ arr.toList.length := by rw [hlen, hal, hs]; exact hin
  have hst := run_storeCells_at (P := P) k off T (a.eval y).cells.toList 0 arr w hh (by simpa using hin') hone
  simp only [Nat.add_zero] at hst
  generalize hnew : (arr.toList.take off ++ (a.eval y).cells.toList ++ arr.toList.drop (off + (a.eval y).cells.toList.length)).toArray = new at hst
  have hget : ∀ i, new.getD i undef = if off ≤ i ∧ i < off + (a.eval y).cells.toList.length then (a.eval y).cells.getD (i - off) undef else arr.getD i undef := fun i => by
    rw [toList_getD, ← hnew, List.toList_toArray, splice_get _ _ _ hin']
    split <;> rw [toList_getD]
  have hnsz : new.size = cs.length := by rw [← hnew]; simp; simp at hin'; omega
  have le : GLe G w G (w.setRow k new) := ⟨fun _ => Nat.le_refl _, fun k' o ho => by
    have : k' ≠ k := fun e => by rw [e, hfz] at ho; omega
    exact cell_eq (setRow_other w k k' new this), Nat.le_refl _, fun _ _ => Nat.le_refl _, fun _ _ _ _ => rfl, fun _ _ => rfl, fun _ _ _ _ => rfl⟩
  have hup := RH_upd (w' := w.setRow k new) hr.rh hb hm (setRow_size w k new) (fun k' hk' => setRow_other w k k' new hk') rfl ⟨rfl, rfl⟩ le (y := .var (storeL cs off (ev ge st.tm y).cellsOf))
    ⟨h00, k, new, T, hm, setRow_heap w k arr new T _ hh, hfz, by rw [hnsz, storeL_length hin], fun i v hv => by
      rw [storeL_get hin] at hv
      rw [hget, hlen]
      split
      · rename_i hi; rw [if_pos hi] at hv; exact ⟨(hcv _ v hv).1, (hcv _ v hv).2.mono le⟩
      · rename_i hi; rw [if_neg hi] at hv; exact ⟨(hcells i v hv).1, (hcells i v hv).2.mono le⟩⟩ hm
  refine ⟨undef, G, w.setRow k new, .inr ⟨?_, rfl⟩, hup.1, .void, hup.2⟩
  simp [execOp, Instr.storeAt, hc, Instr.sureAddr, storeVar, run_sizeOf rfl h0, hsz, hcs, hst]
/-- A store into an element of an own row. -/
theorem S_store_row {d : Option Tmp} {e : TypeId} {x y : Operand} {t : TypeId} {p : String} {af : Array Edge} {g : Option (Nat × Bool)} {b gg i off : Nat} {T : TypeId} {fzn : Nat} {flat : Bool} {xs : List (List V)} {z : List V}
    (hx : ev ge st.tm x = .ep b gg i off) (hb : st.h[b]? = some (.row T gg fzn flat xs)) (hz : xs[i]? = some z) (hfz : fzn ≤ i) (hy : (ev ge st.tm y).cellsOk = true)
    (hfl : flat = true → V.isFs (ev ge st.tm y).cellsOf = true) (hsz : szOf P e = (ev ge st.tm y).cellsOf.length) (h0 : 0 < szOf P e)
    (hin : off + (ev ge st.tm y).cellsOf.length ≤ z.length) :
    OpS P ge st ⟨d, .store e x y, t, p, af, g⟩ .void (st.h.set b (.row T gg fzn flat (xs.set i (storeL z off (ev ge st.tm y).cellsOf)))) := by
  intro G a w hr
  have hvx := hr.ev x
  rw [hx] at hvx
  obtain ⟨hcs, hcv⟩ := cells_of (hr.ev y) hy
  cases hc : a.eval x <;> rw [hc] at hvx <;> cases hvx
  rename_i k hbn hgm hm
  obtain ⟨h00, hfx, hsz0, ⟨hn, hnil⟩ | ⟨k', arr, hm', hh, hfzk, hs, hl, hcm, hlen', hcells⟩⟩ := hr.rh.bl b _ hb
  · rw [hnil] at hz; simp at hz
  rw [hm] at hm'; cases hm'
  have hi : i < xs.length := (List.getElem?_eq_some_iff.1 hz).1
  have hzl := hlen' i z hz
  have hone : ∀ v ∈ (a.eval y).cells.toList, v.oneCell' = true := fun v hv => by
    obtain ⟨i, hi, rfl⟩ := List.getElem_of_mem hv
    have hi' : i < (ev ge st.tm y).cellsOf.length := by rw [← hcs]; simpa using hi
    have := (hcv i _ (List.getElem?_eq_getElem hi')).1
    rw [toList_getD, List.getElem?_eq_getElem hi] at this; exact this
  have hlen : (a.eval y).cells.toList.length = (ev ge st.tm y).cellsOf.length := by rw [Array.length_toList, hcs]
  have hbig : (i + 1) * G.sz b ≤ G.cap b gg * G.sz b := Nat.mul_le_mul_right _ (by omega)
  have hal : arr.toList.length = arr.size := Array.length_toList
  have hin' : (i * G.sz b + off) + (a.eval y).cells.toList.length ≤ arr.toList.length := by
    rw [hlen, hal, hs]; rw [Nat.add_mul] at hbig; omega
  have hst := run_storeCells_at (P := P) k (i * G.sz b + off) T (a.eval y).cells.toList 0 arr w hh (by simpa using hin') hone
  simp only [Nat.add_zero] at hst
  generalize hnew : (arr.toList.take (i * G.sz b + off) ++ (a.eval y).cells.toList ++ arr.toList.drop ((i * G.sz b + off) + (a.eval y).cells.toList.length)).toArray = new at hst
  have hget : ∀ j, new.getD j undef = if i * G.sz b + off ≤ j ∧ j < (i * G.sz b + off) + (a.eval y).cells.toList.length then (a.eval y).cells.getD (j - (i * G.sz b + off)) undef else arr.getD j undef := fun j => by
    rw [toList_getD, ← hnew, List.toList_toArray, splice_get _ _ _ hin']
    split <;> rw [toList_getD]
  have hnsz : new.size = arr.size := by rw [← hnew]; simp; simp at hin'; omega
  have hfzi : G.fz k ≤ i * G.sz b := Nat.le_trans hfzk (Nat.mul_le_mul_right _ hfz)
  have le : GLe G w G (w.setRow k new) := ⟨fun _ => Nat.le_refl _, fun k' o ho => by
    by_cases e : k' = k
    · subst e
      rw [cell_setRow_same w k' o arr new T _ hh, cell_of_row w k' o arr T _ hh]
      have h1 := hget o
      rw [if_neg (by omega)] at h1
      have ho' : o < arr.size := by
        have : i * G.sz b ≤ arr.size := by rw [hs]; exact Nat.mul_le_mul_right _ (by omega)
        omega
      rw [Array.getD_eq_getD_getElem?, Array.getD_eq_getD_getElem?, Array.getElem?_eq_getElem ho', Array.getElem?_eq_getElem (by omega)] at h1
      rw [Array.getElem?_eq_getElem ho', Array.getElem?_eq_getElem (by omega)]
      simpa using h1
    · exact cell_eq (setRow_other w k k' new e), Nat.le_refl _, fun _ _ => Nat.le_refl _, fun _ _ _ _ => rfl, fun _ _ => rfl, fun _ _ _ _ => rfl⟩
  have hset : ∀ (i' : Nat) (x : List V), (xs.set i (storeL z off (ev ge st.tm y).cellsOf))[i']? = some x → (i' = i ∧ x = storeL z off (ev ge st.tm y).cellsOf) ∨ (i' ≠ i ∧ xs[i']? = some x) := fun i' x hx => by
    rw [List.getElem?_set] at hx
    split at hx
    · rename_i e; subst e; first | (cases hx; exact .inl ⟨rfl, rfl⟩) | (rw [if_pos hi] at hx; cases hx; exact .inl ⟨rfl, rfl⟩)
    · rename_i e; exact .inr ⟨fun e' => e e'.symm, hx⟩
  have hup := RH_upd (w' := w.setRow k new) hr.rh hb hm (setRow_size w k new) (fun k' hk' => setRow_other w k k' new hk') rfl ⟨rfl, rfl⟩ le (y := .row T gg fzn flat (xs.set i (storeL z off (ev ge st.tm y).cellsOf)))
    ⟨h00, by rw [List.length_set]; exact hfx, hsz0, .inr ⟨k, new, hm, setRow_heap w k arr new T _ hh, hfzk, hnsz.trans hs, by rw [List.length_set]; exact hl, hcm, fun i' x hx => by
      rcases hset i' x hx with ⟨rfl, rfl⟩ | ⟨_, hx⟩
      · rw [storeL_length hin]; exact hzl
      · exact hlen' i' x hx, fun i' x j v hx hv => by
      have hj : j < G.sz b := by
        have h1 : j < x.length := (List.getElem?_eq_some_iff.1 hv).1
        rcases hset i' x hx with ⟨rfl, rfl⟩ | ⟨_, hx⟩
        · rw [storeL_length hin, hzl] at h1; exact h1
        · rw [hlen' i' x hx] at h1; exact h1
      rw [hget, hlen]
      rcases hset i' x hx with ⟨rfl, rfl⟩ | ⟨hne, hx⟩
      · rw [storeL_get hin] at hv
        by_cases hc1 : off ≤ j ∧ j < off + (ev ge st.tm y).cellsOf.length
        · rw [if_pos hc1] at hv
          rw [if_pos (by omega)]
          have e1 : i' * G.sz b + j - (i' * G.sz b + off) = j - off := by omega
          rw [e1]
          refine ⟨(hcv _ v hv).1, ?_⟩
          have h2 := (hcv _ v hv).2.mono le
          cases flat
          · exact h2
          · exact h2.frozen (V.isFs_get (hfl rfl) _ v hv)
        · rw [if_neg hc1] at hv
          rw [if_neg (by omega)]
          exact ⟨(hcells i' z j v hz hv).1, (hcells i' z j v hz hv).2.mono le⟩
      · have hfar : ¬ (i * G.sz b + off ≤ i' * G.sz b + j ∧ i' * G.sz b + j < i * G.sz b + off + (ev ge st.tm y).cellsOf.length) := by
          rintro ⟨h1, h2⟩
          rcases Nat.lt_or_gt_of_ne hne with h3 | h3
          · have : (i' + 1) * G.sz b ≤ i * G.sz b := Nat.mul_le_mul_right _ h3
            rw [Nat.add_mul] at this; omega
          · have : (i + 1) * G.sz b ≤ i' * G.sz b := Nat.mul_le_mul_right _ h3
            rw [Nat.add_mul] at this; omega
        rw [if_neg hfar]
        exact ⟨(hcells i' x j v hx hv).1, (hcells i' x j v hx hv).2.mono le⟩⟩⟩ hm
  refine ⟨undef, G, w.setRow k new, .inr ⟨?_, rfl⟩, hup.1, .void, hup.2⟩
  simp [execOp, Instr.storeAt, hc, Instr.sureAddr, storeVar, run_sizeOf rfl h0, hsz, hcs, hst]
def V.addOff : V → Nat → V
  | .fp cs off, n => .fp cs (off + n)
  | .ptr b off, n => .ptr b (off + n)
  | .ep b g i off, n => .ep b g i (off + n)
  | _, _ => .junk
def V.isAddr : V → Bool
  | .fp .. | .ptr .. | .ep .. => true
  | _ => false
theorem R.addOff {v : V} {c : Value} (h : R G w false v c) (ha : v.isAddr = true) : ∃ a, c = .pointer (some a) ∧ a.spot = none ∧ ∀ n, R G w false (v.addOff n) (.pointer (some (a.add n))) := by
  cases h <;> simp [V.isAddr] at ha
  · rename_i cs off k o hc ho hr
    refine ⟨_, rfl, rfl, fun n => ?_⟩
    rw [Addr.add_lit, Nat.add_assoc]
    exact .fp hc ho hr
  · rename_i b off k hb hm
    refine ⟨_, rfl, rfl, fun n => ?_⟩
    rw [Addr.add_lit]
    exact .ptr hb hm
  · rename_i b g i off k hb hg hm
    refine ⟨_, rfl, rfl, fun n => ?_⟩
    rw [Addr.add_lit, Nat.add_assoc]
    exact .ep hb hg hm
/-- The field's offset, and its size above 0. -/
def fieldOff (P : Program) (s : TypeId) (f : Nat) : Option Nat := match P.underlying s with
  | some (.struct fs) => match fs[f]? with
    | some fd => if 0 < szOf P fd.type then some fd.offset else none
    | none => none
  | _ => none
theorem S_fieldAddr {d : Option Tmp} {s : TypeId} {x : Operand} {f : Nat} {t : TypeId} {p : String} {af : Array Edge} {g : Option (Nat × Bool)} {n : Nat}
    (hf : fieldOff P s f = some n) (hx : (ev ge st.tm x).isAddr = true) : OpS P ge st ⟨d, .fieldAddr s x f, t, p, af, g⟩ ((ev ge st.tm x).addOff n) st.h :=
  OpS_pure fun G a w hr => by
    obtain ⟨ad, hc, hsp, hadd⟩ := (hr.ev x).addOff hx
    refine ⟨_, ?_, hadd n⟩
    unfold fieldOff at hf
    split at hf
    · rename_i fs hu
      split at hf
      · rename_i fd hfd
        split at hf
        · rename_i h0
          cases hf
          have : szOf P fd.type ≠ 0 := by omega
          simp [execOp, Instr.fieldAt, run_underlying hu, hfd, hc, Instr.sureAddr, fieldPlace, run_sizeOf rfl h0, this]
        · cases hf
      · cases hf
    · cases hf
/-- The element's size, of a slice's type. -/
def elemSz (P : Program) (t : TypeId) : Nat := match P.underlying t with
  | some (.slice e) => szOf P e
  | some (.array _ e) => szOf P e
  | _ => 0
def isSliceT (P : Program) (t : TypeId) : Bool := match P.underlying t with
  | some (.slice _) => true
  | _ => false
theorem isSliceT_spec {t : TypeId} (h : isSliceT P t = true) : ∃ e, P.underlying t = some (.slice e) ∧ elemSz P t = szOf P e := by
  unfold isSliceT at h
  split at h
  · rename_i e he; exact ⟨e, he, by unfold elemSz; rw [he]⟩
  · cases h
theorem S_index_vec {d : Option Tmp} {s : TypeId} {x y : Operand} {t : TypeId} {p : String} {af : Array Edge} {g : Option (Nat × Bool)} {xs : List (List V)} {len : Nat} {k : IntKind} {i : Int} {z : List V}
    (hs : isSliceT P s = true) (hx : ev ge st.tm x = .vec xs len) (hy : ev ge st.tm y = .int k i) (h0 : 0 ≤ i) (h1 : i < len) (hz : xs[i.toNat]? = some z) (hl : z.length = elemSz P s) (hp : 0 < elemSz P s) :
    OpS P ge st ⟨d, .indexAddr s x y, t, p, af, g⟩ (.fp z 0) st.h :=
  OpS_pure fun G a w hr => by
    have hvx := hr.ev x
    have hvy := hr.ev y
    rw [hx] at hvx; rw [hy] at hvy
    obtain ⟨e, he, hee⟩ := isSliceT_spec hs
    have hcy := hvy.inv_int
    generalize hcx : a.eval x = cx at hvx
    cases hvx with
    | emp => simp at hz
    | @vec fr xs' len' k' o cap sz a1 a2 a3 hlen hc ho hr' =>
      have hsz : sz = szOf P e := by rw [← hlen _ z hz, hl, hee]
      refine ⟨.pointer (some ⟨k', o + i.toNat * sz + 0, none⟩), ?_, ?_⟩
      · rw [hee] at hp
        simp [execOp, Instr.indexAt, hcx, hcy, asIntOf, run_underlying he, h0, h1, run_sizeOf rfl hp, hsz, Addr.add_lit]
      · refine .fp (fun j v hv => ?_) (fun j v hv => ?_) (fun j v hv => ?_)
        · rw [Nat.add_assoc]; exact hc _ z j v hz hv
        · rw [Nat.add_assoc]; exact ho _ z j v hz hv
        · rw [Nat.add_assoc]; exact hr' _ z j v hz hv
theorem S_index_ref {d : Option Tmp} {s : TypeId} {x y : Operand} {t : TypeId} {p : String} {af : Array Edge} {g : Option (Nat × Bool)} {b gg off len : Nat} {T : TypeId} {fzn : Nat} {flat : Bool} {xs : List (List V)} {k : IntKind} {i : Int} {z : List V}
    (hs : isSliceT P s = true) (hx : ev ge st.tm x = .ref b gg off len) (hb : st.h[b]? = some (.row T gg fzn flat xs)) (hy : ev ge st.tm y = .int k i) (h0 : 0 ≤ i) (h1 : i < len) (hz : xs[off + i.toNat]? = some z) (hl : z.length = elemSz P s) (hp : 0 < elemSz P s) :
    OpS P ge st ⟨d, .indexAddr s x y, t, p, af, g⟩ (.ep b gg (off + i.toNat) 0) st.h :=
  OpS_pure fun G a w hr => by
    have hvx := hr.ev x
    have hvy := hr.ev y
    rw [hx] at hvx; rw [hy] at hvy
    obtain ⟨e, he, hee⟩ := isSliceT_spec hs
    have hcy := hvy.inv_int
    obtain ⟨h00, hfx, hsz0, hrow⟩ := hr.rh.bl b _ hb
    generalize hcx : a.eval x = cx at hvx
    cases hvx with
    | refn => simp at h1; omega
    | @ref _ _ _ _ k' hbn hg hm hle =>
      rcases hrow with ⟨hn, hnil⟩ | ⟨k2, arr, hm', hh, hfzk, hs', hl', hcm, hlen', hcells⟩
      · rw [hnil] at hz; simp at hz
      rw [hm] at hm'; cases hm'
      have hsz : G.sz b = szOf P e := by rw [← hlen' _ z hz, hl, hee]
      refine ⟨.pointer (some ⟨k', (off + i.toNat) * G.sz b + 0, none⟩), ?_, .ep hbn hg hm⟩
      rw [hee] at hp
      simp [execOp, Instr.indexAt, hcx, hcy, asIntOf, run_underlying he, h0, h1, run_sizeOf rfl hp, hsz, Addr.add_lit, Nat.add_mul]
def arrLen (P : Program) (t : TypeId) : Option Nat := match P.underlying t with
  | some (.array n _) => some n
  | _ => none
theorem S_index_arr {d : Option Tmp} {s : TypeId} {x y : Operand} {t : TypeId} {p : String} {af : Array Edge} {g : Option (Nat × Bool)} {k : IntKind} {i : Int} {n : Nat}
    (hs : arrLen P s = some n) (hx : (ev ge st.tm x).isAddr = true) (hy : ev ge st.tm y = .int k i) (h0 : 0 ≤ i) (h1 : i < n) (hp : 0 < elemSz P s) :
    OpS P ge st ⟨d, .indexAddr s x y, t, p, af, g⟩ ((ev ge st.tm x).addOff (i.toNat * elemSz P s)) st.h :=
  OpS_pure fun G a w hr => by
    have hvy := hr.ev y
    rw [hy] at hvy
    have hcy := hvy.inv_int
    obtain ⟨ad, hc, hsp, hadd⟩ := (hr.ev x).addOff hx
    unfold arrLen at hs
    split at hs
    · rename_i m e he
      cases hs
      have hee : elemSz P s = szOf P e := by unfold elemSz; rw [he]
      refine ⟨_, ?_, hadd _⟩
      rw [hee] at hp ⊢
      simp [execOp, Instr.indexAt, hc, hcy, asIntOf, run_underlying he, h0, h1, run_sizeOf rfl hp, Instr.sureAddr]
    · cases hs
end
end Go.AM
end

section
set_option linter.unusedVariables false
set_option linter.unusedSimpArgs false
namespace Go.AM
section
variable {P : Program} {ge : GEnv} {st : St} {G : Gh} {w w' : World}
variable {d : Option Tmp} {t : TypeId} {p : String} {af : Array Edge} {g : Option (Nat × Bool)}
def ceqs : List V → List V → Bool
  | .int _ a :: xs, .int _ b :: ys => decide (a = b) && ceqs xs ys
  | .str a :: xs, .str b :: ys => decide (a = b) && ceqs xs ys
  | .bool a :: xs, .bool b :: ys => (a == b) && ceqs xs ys
  | _, _ => true
def binV (op : BinOp) : V → V → V
  | .int k a, .int _ b => match op with
    | .add => .int k (k.wrap (a + b)) | .sub => .int k (k.wrap (a - b)) | .mul => .int k (k.wrap (a * b))
    | .quo => .int k (k.wrap (a.tdiv b)) | .rem => .int k (a.tmod b)
    | .and => .int k (bits .and k a b) | .or => .int k (bits .or k a b) | .xor => .int k (bits .xor k a b) | .andNot => .int k (bits .andNot k a b)
    | .shl => .int k (k.wrap (a * 2 ^ (min b.toNat k.bits))) | .shr => .int k (a.fdiv (2 ^ (min b.toNat k.bits)))
    | .eql => .bool (decide (a = b)) | .neq => .bool (!decide (a = b)) | .lss => .bool (decide (a < b)) | .leq => .bool (decide (a ≤ b)) | .gtr => .bool (decide (b < a)) | .geq => .bool (decide (b ≤ a))
  | .str a, .str b => match op with
    | .add => .str (a ++ b) | .eql => .bool (decide (a = b)) | .neq => .bool (!decide (a = b))
    | .lss => .bool (Op.bytesLess a.toList b.toList) | .leq => .bool (Op.bytesLess a.toList b.toList || decide (a = b))
    | .gtr => .bool !(Op.bytesLess a.toList b.toList || decide (a = b)) | .geq => .bool !(Op.bytesLess a.toList b.toList)
    | _ => .junk
  | .bool a, .bool b => match op with
    | .eql => .bool (a == b) | .neq => .bool (!(a == b)) | _ => .junk
  | .nilp, .nilp => match op with
    | .eql => .bool true | .neq => .bool false | _ => .junk
  | .ptr .., .nilp | .fp .., .nilp | .ep .., .nilp => match op with
    | .eql => .bool false | .neq => .bool true | _ => .junk
  | .nils, .nils => match op with
    | .eql => .bool true | .neq => .bool false | _ => .junk
  | .agg a, .agg b => match op with
    | .eql => .bool (ceqs a b) | .neq => .bool (!ceqs a b) | _ => .junk
  | _, _ => .junk
theorem ba_list (a : ByteArray) : a.toList = a.data.toList := by
  have key : ∀ (n : Nat) (i : Nat) (r : List UInt8), a.size - i = n → i ≤ a.size → ByteArray.toList.loop a i r = r.reverse ++ a.data.toList.drop i := by
    intro n
    induction n with
    | zero =>
      intro i r h hi
      unfold ByteArray.toList.loop
      rw [if_neg (by omega)]
      have : i = a.data.toList.length := by have : a.data.toList.length = a.size := by simp
                                            omega
      rw [this, List.drop_length, List.append_nil]
    | succ n ih =>
      intro i r h hi
      unfold ByteArray.toList.loop
      rw [if_pos (by omega), ih (i + 1) _ (by omega) (by omega)]
      have hlt : i < a.data.toList.length := by have : a.data.toList.length = a.size := by simp
                                                omega
      rw [List.drop_eq_getElem_cons hlt, List.reverse_cons, List.append_assoc]
      congr 2
      have h2 : i < a.size := by omega
      have h3 : i < a.data.size := h2
      show [a.data[i]!] ++ _ = _
      simp
      exact getElem!_pos a.data i h3
  have := key a.size 0 [] (by omega) (by omega)
  unfold ByteArray.toList
  rw [this]; simp
theorem ba_eq (a b : ByteArray) : (a.toList == b.toList) = decide (a = b) := by
  rw [ba_list, ba_list]
  rw [Bool.eq_iff_iff]
  simp only [beq_iff_eq, decide_eq_true_eq]
  constructor
  · intro h
    cases a; cases b
    congr
    exact Array.toList_inj.1 h
  · rintro rfl; rfl
def isPtrT (P : Program) (t : TypeId) : Bool := match P.underlying t with
  | some (.pointer _) => true
  | _ => false
def isBoolT (P : Program) (t : TypeId) : Bool := match P.underlying t with
  | some .bool => true
  | _ => false
def BinOp.isEq : BinOp → Bool
  | .eql | .neq => true
  | _ => false
inductive K1 where
  | int | str | bool
def kind1 (P : Program) (t : TypeId) : Option K1 := match P.underlying t with
  | some (.int _) => some .int
  | some .string => some .str
  | some .bool => some .bool
  | _ => none
def eqGo (P : Program) : Nat → List Field → Option (List K1)
  | _, [] => some []
  | k, f :: fs => if f.name ≠ "_" ∧ f.offset = k ∧ P.plainKey f.type = true then (kind1 P f.type).bind fun x => (eqGo P (k + 1) fs).map (x :: ·) else none
def eqKinds (P : Program) (T : TypeId) : Option (List K1) := match P.underlying T with
  | some (.struct fs) => if P.stoodInHeld T = false ∧ P.eqGuardType P.depth T = false then eqGo P 0 fs.toList else none
  | _ => none
def kOk : List K1 → List V → List V → Prop
  | [], [], [] => True
  | .int :: ks, .int k _ :: xs, .int k' _ :: ys => k = k' ∧ kOk ks xs ys
  | .str :: ks, .str _ :: xs, .str _ :: ys => kOk ks xs ys
  | .bool :: ks, .bool _ :: xs, .bool _ :: ys => kOk ks xs ys
  | _, _, _ => False
theorem eqFields_run {dd : Nat} {xs ys : Array Value} {G : Gh} {w0 : World} {fr fr' : Bool} (w : World) : ∀ (fs : List Field) (k : Nat) (ks : List K1), eqGo P k fs = some ks → ∀ cs ds : List V, kOk ks cs ds →
    (∀ (i : Nat) (v : V), cs[i]? = some v → ∃ c, xs[k + i]? = some c ∧ R G w0 fr v c) → (∀ (i : Nat) (v : V), ds[i]? = some v → ∃ c, ys[k + i]? = some c ∧ R G w0 fr' v c) →
    (Op.eqFields (dd + 1) xs ys fs).run P w = .ok (ceqs cs ds) w
  | [], k, ks, hg, cs, ds, hk, hx, hy => by
    simp only [eqGo, Option.some.injEq] at hg; subst hg
    cases cs <;> cases ds <;> simp only [kOk] at hk
    simp [Op.eqFields, ceqs]
  | f :: fs, k, ks, hg, cs, ds, hk, hx, hy => by
    unfold eqGo at hg
    split at hg
    · rename_i hc
      obtain ⟨h1, h2, h3⟩ := hc
      cases hk1 : kind1 P f.type with
      | none => rw [hk1] at hg; cases hg
      | some q =>
        rw [hk1] at hg
        simp only [Option.bind_some] at hg
        obtain ⟨ks', hg', rfl⟩ := Option.map_eq_some_iff.1 hg
        have step : ∀ (a b : V) (cs' ds' : List V) (r : Bool), cs = a :: cs' → ds = b :: ds' → kOk ks' cs' ds' →
            (∀ ca cb, R G w0 fr a ca → R G w0 fr' b cb → (Op.equalIn (dd + 1) f.type ca cb).run P w = .ok r w) → (Op.eqFields (dd + 1) xs ys (f :: fs)).run P w = .ok (r && ceqs cs' ds') w := by
          intro a b cs' ds' r e1 e2 hk' heq
          subst e1; subst e2
          obtain ⟨ca, hca, ra⟩ := hx 0 a rfl
          obtain ⟨cb, hcb, rb⟩ := hy 0 b rfl
          have ih := eqFields_run (dd := dd) (xs := xs) (ys := ys) (G := G) (w0 := w0) (fr := fr) (fr' := fr') w fs (k + 1) ks' hg' cs' ds' hk'
            (fun i v hv => by have := hx (i + 1) v (by simpa using hv); rwa [show k + (i + 1) = k + 1 + i by omega] at this)
            (fun i v hv => by have := hy (i + 1) v (by simpa using hv); rwa [show k + (i + 1) = k + 1 + i by omega] at this)
          simp only [Nat.add_zero] at hca hcb
          rw [← h2] at hca hcb
          simp only [Op.eqFields, if_pos h1, Sem.run_bind, run_part_plain w h3 hca, run_part_plain w h3 hcb, Result.andThen_ok, heq ca cb ra rb]
          cases r
          · simp
          · simpa using ih
        unfold kind1 at hk1
        split at hk1
        · rename_i hu
          cases hk1
          match cs, ds, hk with
          | .int _ a :: cs', .int _ b :: ds', hk =>
            simp only [kOk] at hk
            obtain ⟨rfl, hk⟩ := hk
            rw [step _ _ cs' ds' (a == b) rfl rfl hk (fun ca cb ra rb => by rw [ra.inv_int, rb.inv_int]; exact run_equalIn_int w dd f.type _ _ a b hu)]
            simp only [ceqs]; rfl
        · rename_i hu
          cases hk1
          match cs, ds, hk with
          | .str a :: cs', .str b :: ds', hk =>
            simp only [kOk] at hk
            rw [step _ _ cs' ds' (a == b) rfl rfl hk (fun ca cb ra rb => by rw [ra.inv_str, rb.inv_str, run_equalIn_string w dd f.type a b hu, ← beq_toListBytes])]
            simp only [ceqs, beq_toListBytes, ba_eq]
        · rename_i hu
          cases hk1
          match cs, ds, hk with
          | .bool a :: cs', .bool b :: ds', hk =>
            simp only [kOk] at hk
            rw [step _ _ cs' ds' (a == b) rfl rfl hk (fun ca cb ra rb => by rw [ra.inv_bool, rb.inv_bool]; exact run_equalIn_bool' w dd f.type a b hu)]
            simp only [ceqs]
        · cases hk1
    · cases hg
theorem run_equal_agg {T : TypeId} {ks : List K1} {cs ds : List V} {xs ys : Array Value} {G : Gh} {w : World} {fr fr' : Bool} (hT : eqKinds P T = some ks) (hk : kOk ks cs ds) (hx : R G w fr (.agg cs) (.agg xs)) (hy : R G w fr' (.agg ds) (.agg ys)) :
    (Op.equalIn 10000 T (.agg xs) (.agg ys)).run P w = .ok (ceqs cs ds) w ∧ P.eqGuardType P.depth T = false := by
  unfold eqKinds at hT
  split at hT
  · rename_i fs hu
    split at hT
    · rename_i hc
      obtain ⟨h1, h2⟩ := hc
      have hf : P.fieldsOf T = fs := by unfold Program.fieldsOf; rw [hu]
      refine ⟨?_, h2⟩
      have hget : ∀ {fr : Bool} {cs : List V} {xs : Array Value}, R G w fr (.agg cs) (.agg xs) → ∀ (i : Nat) (v : V), cs[i]? = some v → ∃ c, xs[0 + i]? = some c ∧ R G w fr v c := fun {fr cs xs} h i v hv => by
        cases h with
        | agg hs ho hr =>
          have hi := (List.getElem?_eq_some_iff.1 hv).1
          have := hr i v hv
          rw [Array.getD_eq_getD_getElem?] at this
          rw [Nat.zero_add]
          rw [Array.getElem?_eq_getElem (by omega)] at this ⊢
          exact ⟨_, rfl, this⟩
      rw [run_equalIn_struct w 9999 T xs ys (by rw [hf]; exact hu) h1, hf]
      exact eqFields_run (dd := 9998) w _ _ _ hT cs ds hk (hget hx) (hget hy)
    · cases hT
  · cases hT
def binOk (P : Program) (T : TypeId) (op : BinOp) : V → V → Prop
  | .int k _, .int k' b => match op with
    | .shl | .shr => 0 ≤ b
    | .quo | .rem => k = k' ∧ b ≠ 0
    | _ => k = k'
  | .str a, .str b => match op with
    | .add => a.size + b.size ≤ 9223372036854775807
    | .eql | .neq | .lss | .leq | .gtr | .geq => True
    | _ => False
  | .bool _, .bool _ => BinOp.isEq op = true ∧ isBoolT P T = true
  | .nilp, .nilp | .ptr .., .nilp | .fp .., .nilp | .ep .., .nilp => BinOp.isEq op = true ∧ isPtrT P T = true
  | .nils, .nils => BinOp.isEq op = true ∧ isSliceT P T = true
  | .agg a, .agg b => BinOp.isEq op = true ∧ match eqKinds P T with
    | some ks => kOk ks a b
    | none => False
  | _, _ => False
theorem equalIn_succ (n : Nat) (T : TypeId) (x y : Value) (r : Bool) (w : World) (h : (Op.equalIn (n + 1) T x y).run P w = .ok r w) (hn : n + 1 = 10000) : (Op.equal T x y).run P w = .ok r w := by
  unfold Op.equal Op.maxDepth; rw [← hn]; exact h
theorem run_equal_bool {T : TypeId} (h : P.underlying T = some .bool) (a b : Bool) (w : World) : (Op.equal T (.bool a) (.bool b)).run P w = .ok (a == b) w := by
  refine equalIn_succ 9999 T _ _ _ w ?_ rfl
  rw [Op.equalIn]; simp only [Sem.run_bind, run_underlying h, Result.andThen_ok, Sem.run_pure]
theorem run_equal_nilp {T e : TypeId} (h : P.underlying T = some (.pointer e)) (w : World) : (Op.equal T (.pointer none) (.pointer none)).run P w = .ok true w := by
  refine equalIn_succ 9999 T _ _ _ w ?_ rfl
  rw [Op.equalIn]; simp only [Sem.run_bind, run_underlying h, Result.andThen_ok, Sem.run_pure, Option.isNone]
theorem run_equal_ptr {T e : TypeId} (h : P.underlying T = some (.pointer e)) (a : Addr) (w : World) : (Op.equal T (.pointer (some a)) (.pointer none)).run P w = .ok false w := by
  refine equalIn_succ 9999 T _ _ _ w ?_ rfl
  rw [Op.equalIn]; simp only [Sem.run_bind, run_underlying h, Result.andThen_ok, Sem.run_pure, Option.isNone]
theorem run_equal_nils {T e : TypeId} (h : P.underlying T = some (.slice e)) (w : World) : (Op.equal T (.slice none 0 0) (.slice none 0 0)).run P w = .ok true w := by
  refine equalIn_succ 9999 T _ _ _ w ?_ rfl
  rw [Op.equalIn]; simp only [Sem.run_bind, run_underlying h, Result.andThen_ok, Sem.run_pure, Option.isNone]
theorem run_eqGuard_ptr {op : BinOp} {T : TypeId} {x y : Operand} {a : Option Addr} {v : Value} {w : World} : (eqGuard op T x y (.pointer a) v).run P w = .ok () w := by cases op <;> rfl
theorem run_eqGuard_slice {op : BinOp} {T : TypeId} {x y : Operand} {a : Option Addr} {m n : Nat} {v : Value} {w : World} : (eqGuard op T x y (.slice a m n) v).run P w = .ok () w := by cases op <;> rfl
theorem S_binOp {op : BinOp} {T T' : TypeId} {x y : Operand} (hok : binOk P T op (ev ge st.tm x) (ev ge st.tm y)) :
    OpS P ge st ⟨d, .binOp op T x y T', t, p, af, g⟩ (binV op (ev ge st.tm x) (ev ge st.tm y)) st.h :=
  OpS_pure fun G a w hr => by
    have hx := hr.ev x
    have hy := hr.ev y
    generalize hvx : ev ge st.tm x = vx at *
    generalize hvy : ev ge st.tm y = vy at *
    generalize hcx : a.eval x = cx at *
    generalize hcy : a.eval y = cy at *
    cases hx <;> cases hy <;> try (simp only [binOk] at hok; done)
    case bool.bool b1 b2 =>
      obtain ⟨h1, h2⟩ := hok
      unfold isBoolT at h2
      split at h2
      · rename_i hu
        cases op <;> simp [BinOp.isEq] at h1
        · exact ⟨.bool (b1 == b2), by simp [execOp, hcx, hcy, eqGuard_at_bool, binOp, run_equal_bool hu], .bool⟩
        · exact ⟨.bool (!(b1 == b2)), by simp [execOp, hcx, hcy, eqGuard_at_bool, binOp, run_equal_bool hu], .bool⟩
      · cases h2
    case int.int k m k' n =>
      cases op <;> simp only [binOk] at hok <;> (try subst hok)
      case add => exact ⟨_, by simp [execOp, hcx, hcy, eqGuard_at_int, binOp, Op.intArith], .int⟩
      case sub => exact ⟨_, by simp [execOp, hcx, hcy, eqGuard_at_int, binOp, Op.intArith], .int⟩
      case mul => exact ⟨_, by simp [execOp, hcx, hcy, eqGuard_at_int, binOp, Op.intArith], .int⟩
      case quo => obtain ⟨rfl, h0⟩ := hok; exact ⟨_, by simp [execOp, hcx, hcy, eqGuard_at_int, binOp, Op.intDiv, h0], .int⟩
      case rem => obtain ⟨rfl, h0⟩ := hok; exact ⟨_, by simp [execOp, hcx, hcy, eqGuard_at_int, binOp, Op.intDiv, h0], .int⟩
      case and => exact ⟨_, by simp [execOp, hcx, hcy, eqGuard_at_int, binOp, intBits_and], .int⟩
      case or => exact ⟨_, by simp [execOp, hcx, hcy, eqGuard_at_int, binOp, intBits_or], .int⟩
      case xor => exact ⟨_, by simp [execOp, hcx, hcy, eqGuard_at_int, binOp, intBits_xor], .int⟩
      case andNot => exact ⟨_, by simp [execOp, hcx, hcy, eqGuard_at_int, binOp, intBits_andNot], .int⟩
      case shl => exact ⟨_, by simp [execOp, hcx, hcy, eqGuard_at_int, binOp, Op.shift, Int.not_lt.2 hok], .int⟩
      case shr => exact ⟨_, by simp [execOp, hcx, hcy, eqGuard_at_int, binOp, Op.shift, Int.not_lt.2 hok], .int⟩
      case eql => exact ⟨.bool (decide (m = n)), by simp [execOp, hcx, hcy, eqGuard_at_int, binOp, Op.intCmp]; rfl, .bool⟩
      case neq => exact ⟨.bool (!decide (m = n)), by simp [execOp, hcx, hcy, eqGuard_at_int, binOp, Op.intCmp, bne]; rfl, .bool⟩
      all_goals exact ⟨_, by simp [execOp, hcx, hcy, eqGuard_at_int, binOp, Op.intCmp], .bool⟩
    case str.str s1 s2 =>
      cases op <;> simp only [binOk] at hok
      case add =>
        have : ¬ ((s1.size : Int) + (s2.size : Int) > IntKind.i64.max) := by rw [IntKind.max_i64]; omega
        exact ⟨_, by simp [execOp, hcx, hcy, eqGuard_at_string, binOp, Op.stringOp]; omega, .str⟩
      all_goals exact ⟨_, by simp [execOp, hcx, hcy, eqGuard_at_string, binOp, Op.stringOp, ba_eq], .bool⟩
    case nilp.nilp =>
      obtain ⟨h1, h2⟩ := hok
      unfold isPtrT at h2
      split at h2
      · rename_i hu
        cases op <;> simp [BinOp.isEq] at h1
        · exact ⟨_, by simp [execOp, hcx, hcy, run_eqGuard_ptr, binOp, run_equal_nilp hu], .bool⟩
        · exact ⟨_, by simp [execOp, hcx, hcy, run_eqGuard_ptr, binOp, run_equal_nilp hu], .bool⟩
      · cases h2
    case nils.nils =>
      obtain ⟨h1, h2⟩ := hok
      obtain ⟨e, hu, _⟩ := isSliceT_spec h2
      cases op <;> simp [BinOp.isEq] at h1
      · exact ⟨_, by simp [execOp, hcx, hcy, run_eqGuard_slice, binOp, run_equal_nils hu], .bool⟩
      · exact ⟨_, by simp [execOp, hcx, hcy, run_eqGuard_slice, binOp, run_equal_nils hu], .bool⟩
    case agg.agg cs xs hs ho hr ds ys hs' ho' hr' =>
      obtain ⟨h1, h2⟩ := hok
      cases hk : eqKinds P T with
      | none => rw [hk] at h2; exact h2.elim
      | some ks =>
        rw [hk] at h2
        obtain ⟨e1, e2⟩ := run_equal_agg hk h2 (R.agg hs ho hr) (R.agg hs' ho' hr')
        cases op <;> simp [BinOp.isEq] at h1
        · exact ⟨_, by simp [execOp, hcx, hcy, run_eqGuard_agg w _ _ _ _ _ _ e2, run_eql_struct w, e1], .bool⟩
        · exact ⟨_, by simp [execOp, hcx, hcy, run_eqGuard_agg w _ _ _ _ _ _ e2, run_neq_struct w, e1], .bool⟩
    all_goals
      obtain ⟨h1, h2⟩ := hok
      unfold isPtrT at h2
      split at h2
      · rename_i hu
        cases op <;> simp [BinOp.isEq] at h1
        · exact ⟨_, by simp [execOp, hcx, hcy, run_eqGuard_ptr, binOp, run_equal_ptr hu], .bool⟩
        · exact ⟨_, by simp [execOp, hcx, hcy, run_eqGuard_ptr, binOp, run_equal_ptr hu], .bool⟩
      · cases h2
def unV (op : UnOp) : V → V
  | .bool b => match op with
    | .not => .bool !b
    | _ => .junk
  | .int k n => match op with
    | .neg => .int k (k.wrap (0 - n))
    | .xor => .int k (bits .xor k (if k.signed then -1 else k.max) n)
    | _ => .junk
  | _ => .junk
def unOk (op : UnOp) : V → Bool
  | .bool _ => match op with
    | .not => true
    | _ => false
  | .int .. => match op with
    | .neg | .xor => true
    | _ => false
  | _ => false
theorem S_unOp {op : UnOp} {T : TypeId} {x : Operand} (hok : unOk op (ev ge st.tm x) = true) : OpS P ge st ⟨d, .unOp op T x, t, p, af, g⟩ (unV op (ev ge st.tm x)) st.h :=
  OpS_pure fun G a w hr => by
    have hx := hr.ev x
    generalize hvx : ev ge st.tm x = vx at *
    generalize hcx : a.eval x = cx at *
    cases hx <;> cases op <;> simp [unOk] at hok
    · exact ⟨_, by simp [execOp, hcx, Op.unary], .bool⟩
    · exact ⟨_, by simp [execOp, hcx, Op.unary, Op.intArith], .int⟩
    · exact ⟨_, by simp [execOp, hcx, Op.unary, intBits_xor], .int⟩
def intKindT (P : Program) (t : TypeId) : Option IntKind := match P.underlying t with
  | some (.int k) => some k
  | _ => none
theorem S_convert_int {s e : TypeId} {x : Operand} {k k' : IntKind} {n : Int} (hx : ev ge st.tm x = .int k n) (hs : (P.underlying s).isSome = true) (he : intKindT P e = some k') :
    OpS P ge st ⟨d, .convert s e x, t, p, af, g⟩ (.int k' (k'.wrap n)) st.h :=
  OpS_pure fun G a w hr => by
    have hvx := hr.ev x
    rw [hx] at hvx
    have hc := hvx.inv_int
    obtain ⟨ds, hds⟩ := Option.isSome_iff_exists.1 hs
    unfold intKindT at he
    split at he
    · rename_i k2 hu
      cases he
      exact ⟨_, by simp [execOp, hc, convert, run_underlying hds, run_underlying hu, Conv.intToInt], .int⟩
    · cases he
theorem S_extract {x : Operand} {i : Nat} {vs : List V} {v : V} (hx : ev ge st.tm x = .tup vs) (hv : vs[i]? = some v) : OpS P ge st ⟨d, .extract x i, t, p, af, g⟩ v st.h :=
  OpS_pure fun G a w hr => by
    have hvx := hr.ev x
    rw [hx] at hvx
    generalize hcx : a.eval x = cx at *
    cases hvx with
    | @tup _ _ arr hs hr' =>
      have hi : i < arr.size := by rw [hs]; exact (List.getElem?_eq_some_iff.1 hv).1
      have h2 := hr' i v hv
      obtain ⟨c, hc⟩ : ∃ c, arr[i]? = some c := ⟨_, Array.getElem?_eq_getElem hi⟩
      rw [Array.getD_eq_getD_getElem?, hc] at h2
      exact ⟨c, by simp [execOp, hcx, Instr.extract, hc], h2⟩
theorem S_makeFunc {f : Fn} {A C : Array Operand} :
    OpS P ge st ⟨d, .makeFunc f A C, t, p, af, g⟩ (.fn f (A.toList.map (ev ge st.tm)) (C.toList.map (ev ge st.tm))) st.h :=
  OpS_pure fun G a w hr => by
    have key : ∀ (X : Array Operand) (i : Nat) (v : V), (X.toList.map (ev ge st.tm))[i]? = some v → R G w false v ((X.map a.eval).getD i undef) := fun X i v hv => by
      rw [List.getElem?_map] at hv
      obtain ⟨x, hx, rfl⟩ := Option.map_eq_some_iff.1 hv
      have hx' : X[i]? = some x := by simpa using hx
      rw [Array.getD_eq_getD_getElem?, Array.getElem?_map, hx']
      exact hr.ev x
    exact ⟨.func f (A.map a.eval) (C.map a.eval), rfl, .fn (by simp) (key A) (by simp) (key C)⟩
def V.notNil : V → Bool
  | .fp .. | .ptr .. | .ep .. => true
  | _ => false
theorem run_nilCheck_ptr {ρ : Operand → Value} {x : Operand} {k : Addr} (h : ρ x = .pointer (some k)) {w : World} : (execOp ρ ⟨d, .nilCheck x, t, p, af, g⟩).run P w = .ok (.value (ρ x)) w := by
  unfold execOp
  simp only []
  rw [h]
  rfl
theorem S_nilCheck {x : Operand} (hx : (ev ge st.tm x).notNil = true) : OpS P ge st ⟨d, .nilCheck x, t, p, af, g⟩ (ev ge st.tm x) st.h :=
  OpS_pure fun G a w hr => by
    have hvx := hr.ev x
    obtain ⟨k, hk⟩ : ∃ k, a.eval x = .pointer (some k) := by
      generalize hvx' : ev ge st.tm x = vx at *
      generalize hcx : a.eval x = cx at *
      cases hvx <;> simp [V.notNil] at hx <;> exact ⟨_, rfl⟩
    exact ⟨a.eval x, run_nilCheck_ptr hk, hvx⟩
theorem S_nilCheck_fn {x : Operand} {f : Nat} {A B : List V} (hx : ev ge st.tm x = .fn (.func f) A B) : OpS P ge st ⟨d, .nilCheck x, t, p, af, g⟩ (.fn (.func f) A B) st.h :=
  OpS_pure fun G a w hr => by
    have hvx := hr.ev x
    rw [hx] at hvx
    refine ⟨a.eval x, ?_, hvx⟩
    generalize hcx : a.eval x = cx at *
    cases hvx; simp only [execOp, hcx]; rfl
def lenV : V → V
  | .str s => .int .i64 s.size
  | .vec _ n => .int .i64 n
  | .ref _ _ _ n => .int .i64 n
  | .nils => .int .i64 0
  | _ => .junk
def isStrT (P : Program) (t : TypeId) : Bool := match P.underlying t with
  | some .string => true
  | _ => false
def lenOk (P : Program) (T : TypeId) : V → Bool
  | .str _ => isStrT P T
  | .vec .. | .ref .. | .nils => isSliceT P T
  | _ => false
theorem isStrT_spec {t : TypeId} (h : isStrT P t = true) : P.underlying t = some .string := by
  unfold isStrT at h
  split at h
  · assumption
  · cases h
theorem S_len {x : Operand} {T : TypeId} {ts : Array TypeId} (ht : ts[0]? = some T) (hok : lenOk P T (ev ge st.tm x) = true) :
    OpS P ge st ⟨d, .call { callee := .builtin .len, args := #[x], argTypes := ts }, t, p, af, g⟩ (lenV (ev ge st.tm x)) st.h :=
  OpS_pure fun G a w hr => by
    have hx := hr.ev x
    generalize hvx : ev ge st.tm x = vx at *
    generalize hcx : a.eval x = cx at *
    cases hx <;> simp [lenOk] at hok
    case str s => exact ⟨_, by simp [execOp, resolve, invoke, builtin, hcx, Builtin.len_, ht, run_underlying (isStrT_spec hok), goInt], .int⟩
    all_goals
      obtain ⟨e, he, _⟩ := isSliceT_spec hok
      exact ⟨_, by simp [execOp, resolve, invoke, builtin, hcx, Builtin.len_, ht, run_underlying he, goInt], .int⟩
theorem S_index_str {s : TypeId} {x y : Operand} {b : ByteArray} {k : IntKind} {i : Int} (hs : isStrT P s = true) (hx : ev ge st.tm x = .str b) (hy : ev ge st.tm y = .int k i) (h0 : 0 ≤ i) (h1 : i < b.size) :
    OpS P ge st ⟨d, .index s x y, t, p, af, g⟩ (.int .u8 ((b.data.toList.getD i.toNat 0).toNat)) st.h :=
  OpS_pure fun G a w hr => by
    have hvx := hr.ev x
    have hvy := hr.ev y
    rw [hx] at hvx; rw [hy] at hvy
    have hcx := hvx.inv_str
    have hcy := hvy.inv_int
    have hlt : i.toNat < b.size := by omega
    have hget : b[i.toNat]? = some (b.data.toList.getD i.toNat 0) := by
      have h2 : i.toNat < b.data.toList.length := by simpa using hlt
      rw [getElem?_pos b i.toNat hlt, List.getD, List.getElem?_eq_getElem h2]
      rfl
    refine ⟨_, ?_, .int⟩
    simp [execOp, Instr.index, hcx, hcy, asIntOf, run_underlying (isStrT_spec hs), h0, hget]
def spl (cs : List V) (off : Nat) (vs : List V) : List V := cs.take off ++ vs ++ cs.drop (off + vs.length)
def fillV (P : Program) (fs : Array Field) : List V → List (Nat × V) → List V
  | cs, [] => cs
  | cs, (i, v) :: r => match fs[i]? with
    | some f => fillV P fs (spl cs f.offset v.cellsOf) r
    | none => []
def fillOk (P : Program) (fs : Array Field) : Nat → List (Nat × V) → Bool
  | _, [] => true
  | n, (i, v) :: r => match fs[i]? with
    | some f => v.cellsOk && v.cellsOf.length == szOf P f.type && decide (f.offset + v.cellsOf.length ≤ n) && fillOk P fs n r
    | none => false
theorem foldl_splice (off : Nat) : ∀ (vs : List Value) (cs : Array Value) (j : Nat), off + j + vs.length ≤ cs.size →
    ((vs.zipIdx j).foldl (fun cs (x : Value × Nat) => cs.setIfInBounds (off + x.2) x.1) cs).toList = cs.toList.take (off + j) ++ vs ++ cs.toList.drop (off + j + vs.length)
  | [], cs, j, h => by simp
  | v :: r, cs, j, h => by
    simp only [List.length_cons] at h
    simp only [List.zipIdx_cons, List.foldl_cons]
    rw [foldl_splice off r _ (j + 1) (by simp; omega)]
    simp only [Array.toList_setIfInBounds, List.length_cons]
    have hlt : off + j < cs.toList.length := by simp; omega
    apply List.ext_getElem?
    intro i
    have hl2 : (cs.toList.set (off + j) v).length = cs.toList.length := List.length_set ..
    have e2 := splice_get (cs.toList.set (off + j) v) (off + (j + 1)) r (by rw [hl2]; simp; omega) i
    have e3 := splice_get cs.toList (off + j) (v :: r) (by simp; omega) i
    simp only [List.length_cons] at e3
    rw [e2, e3]
    by_cases h1 : off + (j + 1) ≤ i ∧ i < off + (j + 1) + r.length
    · rw [if_pos h1, if_pos (by omega)]
      have : i - (off + j) = (i - (off + (j + 1))) + 1 := by omega
      rw [this, List.getElem?_cons_succ]
    · rw [if_neg h1, List.getElem?_set]
      by_cases h2 : off + j = i
      · rw [if_pos (by omega)]
        subst h2
        simp at hlt
        simp [hlt]
      · simp only [h2, if_false]
        rw [if_neg (by omega)]
theorem zipIdx_foldl (off : Nat) (vs : Array Value) (cs : Array Value) (h : off + vs.size ≤ cs.size) :
    (vs.zipIdx.foldl (fun cs (x : Value × Nat) => cs.setIfInBounds (off + x.2) x.1) cs).toList = cs.toList.take off ++ vs.toList ++ cs.toList.drop (off + vs.size) := by
  rw [← Array.foldl_toList]
  have := foldl_splice off vs.toList cs 0 (by simpa using h)
  simp only [Nat.add_zero, Array.length_toList] at this
  rw [Array.toList_zipIdx]
  exact this
def CellsR (G : Gh) (w : World) (cs : List V) (arr : Array Value) : Prop :=
  arr.size = cs.length ∧ ∀ (i : Nat) (v : V), cs[i]? = some v → (arr.getD i undef).oneCell' = true ∧ R G w false v (arr.getD i undef)
theorem CellsR.splice {cs vs : List V} {arr brr : Array Value} {off : Nat} (h : CellsR G w cs arr) (h' : CellsR G w vs brr) (hle : off + vs.length ≤ cs.length) :
    CellsR G w (spl cs off vs) (brr.zipIdx.foldl (fun cs (x : Value × Nat) => cs.setIfInBounds (off + x.2) x.1) arr) := by
  have hf := zipIdx_foldl off brr arr (by rw [h.1, h'.1]; exact hle)
  have hal : arr.toList.length = arr.size := Array.length_toList
  have hbl : brr.toList.length = brr.size := Array.length_toList
  refine ⟨?_, fun i v hv => ?_⟩
  · have := congrArg List.length hf
    have h1 := h.1; have h2 := h'.1
    simp at this
    unfold spl
    simp
    omega
  · rw [toList_getD, hf]
    have e := splice_get arr.toList off brr.toList (by rw [hal, hbl, h.1, h'.1]; exact hle) i
    rw [hbl] at e
    rw [e]
    unfold spl at hv
    rw [splice_get cs off vs hle i] at hv
    rw [h'.1]
    split
    · rename_i hi; rw [if_pos hi] at hv; rw [← toList_getD]; exact h'.2 _ v hv
    · rename_i hi; rw [if_neg hi] at hv; rw [← toList_getD]; exact h.2 _ v hv
theorem spl_length {cs vs : List V} {off : Nat} (h : off + vs.length ≤ cs.length) : (spl cs off vs).length = cs.length := by
  unfold spl; simp; omega
theorem fill_spec {fs : Array Field} {pl : Nat → Option (Nat × Nat)} (hpl : ∀ i f, fs[i]? = some f → pl i = some (f.offset, szOf P f.type)) {a : Act} {tm : List (Nat × V)}
    (hev : ∀ x, R G w false (ev ge tm x) (a.eval x)) : ∀ (parts : List (Nat × Operand)) (cs : List V) (arr : Array Value), CellsR G w cs arr →
      fillOk P fs cs.length (parts.map fun x => (x.1, ev ge tm x.2)) = true →
      ∃ arr', Instr.fill pl arr (parts.map fun x => (x.1, a.eval x.2)) = some arr' ∧ CellsR G w (fillV P fs cs (parts.map fun x => (x.1, ev ge tm x.2))) arr'
  | [], cs, arr, h, _ => ⟨arr, rfl, h⟩
  | (i, x) :: r, cs, arr, h, hok => by
    simp only [List.map_cons, fillOk] at hok
    split at hok
    · rename_i f hf
      simp only [Bool.and_eq_true, beq_iff_eq, decide_eq_true_eq] at hok
      obtain ⟨⟨⟨h1, h2⟩, h3⟩, h4⟩ := hok
      have hcs : CellsR G w (ev ge tm x).cellsOf (a.eval x).cells := cells_of (hev x) h1
      have hcs1 := hcs.1
      have h5 := h.splice hcs h3
      have hlen := spl_length h3
      obtain ⟨arr', e1, e2⟩ := fill_spec hpl hev r _ _ h5 (by rw [hlen]; exact h4)
      refine ⟨arr', ?_, ?_⟩
      · simp only [List.map_cons, Instr.fill, hpl i f hf]
        rw [if_neg]
        · exact e1
        · simp only [Bool.or_eq_true, bne_iff_ne, ne_eq, decide_eq_true_eq, not_or, Classical.not_not]
          have := h.1
          omega
      · simp only [List.map_cons, fillV, hf]; exact e2
    · cases hok
theorem mapM_places {fs : Array Field} (h : fs.toList.all (fun f => decide (0 < szOf P f.type)) = true) (w : World) :
    (fs.mapM (fun f => (do pure (f.offset, ← sizeOf f.type) : Sem (Nat × Nat)))).run P w = .ok (fs.map fun f => (f.offset, szOf P f.type)) w := by
  rw [← Array.toList_inj.1 (show (fs.toList.toArray).toList = fs.toList by simp)]
  generalize fs.toList = l at *
  rw [List.mapM_toArray]
  have key : ∀ l : List Field, l.all (fun f => decide (0 < szOf P f.type)) = true → (l.mapM (fun f => (do pure (f.offset, ← sizeOf f.type) : Sem (Nat × Nat)))).run P w = .ok (l.map fun f => (f.offset, szOf P f.type)) w := by
    intro l
    induction l with
    | nil => intro _; rfl
    | cons f r ih =>
      intro hh
      simp only [List.all_cons, Bool.and_eq_true, decide_eq_true_eq] at hh
      simp only [List.mapM_cons, Sem.run_bind, run_sizeOf rfl hh.1, Result.andThen_ok, Sem.run_pure, List.map_cons]
      rw [ih hh.2]
      rfl
  simp only [Sem.run_bind, Sem.run_map, List.map_toArray]
  rw [key l h]
  rfl
theorem S_build_struct {T : TypeId} {parts : Array (Nat × Operand)} {fs : Array Field} {zs : List V} (hu : P.underlying T = some (.struct fs)) (hz : zeroOf P T = some zs)
    (hfs : fs.toList.all (fun f => decide (0 < szOf P f.type)) = true) (hok : fillOk P fs zs.length (parts.toList.map fun x => (x.1, ev ge st.tm x.2)) = true) :
    OpS P ge st ⟨d, .build T parts, t, p, af, g⟩ (.agg (fillV P fs zs (parts.toList.map fun x => (x.1, ev ge st.tm x.2)))) st.h :=
  OpS_pure fun G a w hr => by
    obtain ⟨z, h1, _, h2, _, h3⟩ := run_zeroValue hz
    have hcr : CellsR G w zs z.cells := ⟨h2, fun i u hu => ⟨(h3 i u hu).1, (h3 i u hu).2 G w false⟩⟩
    obtain ⟨arr', e1, e2⟩ := fill_spec (P := P) (pl := fun i => (fs.map fun f => (f.offset, szOf P f.type))[i]?) (fun i f hf => by simp [hf]) (fun x => hr.ev x) parts.toList zs z.cells hcr hok
    refine ⟨.agg arr', ?_, .agg e2.1 (fun i v hv => (e2.2 i v hv).1) (fun i v hv => (e2.2 i v hv).2)⟩
    have hpm : (parts.map fun (x : Nat × Operand) => (x.1, a.eval x.2)).toList = parts.toList.map fun x => (x.1, a.eval x.2) := by simp
    have e1' := e1
    simp only [execOp, Instr.build, Sem.run_bind, h1, Result.andThen_ok, run_underlying hu, mapM_places hfs, hpm]
    rw [e1']
    rfl
/-- The cells of an array, as fields. -/
def arrFields (P : Program) (n : Nat) (e : TypeId) : Array Field := (Array.range n).map fun i => { (default : Field) with type := e, offset := i * szOf P e }
theorem fill_plus {pl pl' : Nat → Option (Nat × Nat)} : ∀ (parts : List (Nat × Value)) (cs : Array Value) {r : Array Value}, (∀ i x, pl i = some x → pl' i = some x) → Instr.fill pl cs parts = some r → Instr.fill pl' cs parts = some r
  | [], cs, r, _, h => h
  | (i, v) :: rest, cs, r, hp, h => by
    unfold Instr.fill at h ⊢
    cases hi : pl i with
    | none => rw [hi] at h; cases h
    | some x =>
      rw [hi] at h
      rw [hp i x hi]
      simp only at h ⊢
      split at h
      · cases h
      · rename_i hc
        rw [if_neg hc]
        exact fill_plus rest _ hp h
theorem S_build_array {T : TypeId} {parts : Array (Nat × Operand)} {n : Nat} {e : TypeId} {zs : List V} (hu : P.underlying T = some (.array n e)) (hz : zeroOf P T = some zs)
    (hsz : 0 < szOf P e) (hok : fillOk P (arrFields P n e) zs.length (parts.toList.map fun x => (x.1, ev ge st.tm x.2)) = true) :
    OpS P ge st ⟨d, .build T parts, t, p, af, g⟩ (.agg (fillV P (arrFields P n e) zs (parts.toList.map fun x => (x.1, ev ge st.tm x.2)))) st.h :=
  OpS_pure fun G a w hr => by
    obtain ⟨z, h1, _, h2, _, h3⟩ := run_zeroValue hz
    have hcr : CellsR G w zs z.cells := ⟨h2, fun i u hu => ⟨(h3 i u hu).1, (h3 i u hu).2 G w false⟩⟩
    obtain ⟨arr', e1, e2⟩ := fill_spec (P := P) (pl := fun i => ((arrFields P n e).map fun f => (f.offset, szOf P f.type))[i]?) (fun i f hf => by simp [hf]) (fun x => hr.ev x) parts.toList zs z.cells hcr hok
    refine ⟨.agg arr', ?_, .agg e2.1 (fun i v hv => (e2.2 i v hv).1) (fun i v hv => (e2.2 i v hv).2)⟩
    have hpm : (parts.map fun (x : Nat × Operand) => (x.1, a.eval x.2)).toList = parts.toList.map fun x => (x.1, a.eval x.2) := by simp
    have e1' := fill_plus (pl' := fun i => some (i * szOf P e, szOf P e)) _ _ (fun i x hx => by
      simp only [arrFields, Array.map_map, Array.getElem?_map] at hx
      obtain ⟨j, hj, rfl⟩ := Option.map_eq_some_iff.1 hx
      have hji : j = i := by
        rw [Array.getElem?_range] at hj
        split at hj
        · cases hj; rfl
        · cases hj
      subst hji; rfl) e1
    simp only [execOp, Instr.build, Sem.run_bind, h1, Result.andThen_ok, run_underlying hu, run_sizeOf rfl hsz, hpm]
    rw [e1']
    rfl
end
end Go.AM
end
