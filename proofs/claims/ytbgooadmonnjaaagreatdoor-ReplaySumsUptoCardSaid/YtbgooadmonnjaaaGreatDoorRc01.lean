/-
  YtbgooadmonnjaaaGreatDoorRc01: steps of the proof of a law of the program: what these texts prove holds under the hypotheses that their theorems name, and no others.
-/
import Derived.Test.YtbgooadmonnjaaaGreatDoorRc00
section
set_option linter.unusedVariables false
set_option linter.unusedSimpArgs false
namespace Go.AM
section
variable {P : Program} {ge : GEnv} {st : St} {G : Gh} {w w' : World}
/-- The cells that an address lies among, and where. -/
def place (h : List B) : V → Option (List V × Nat)
  | .fp cs off => some (cs, off)
  | .ptr b off => match h[b]? with
    | some (.var cs) => some (cs, off)
    | _ => none
  | .ep b g i off => match h[b]? with
    | some (.row _ g' _ _ xs) => if g = g' then (xs[i]?).map fun x => (x, off) else none
    | _ => none
  | _ => none
theorem arr_cell {k : Nat} {arr : Array Value} {T : TypeId} {fr : Nat × Nat} (h : w.heap[k]? = some (.cells arr T fr)) {j : Nat} (hj : j < arr.size) : w.cell? ⟨k, j, none⟩ = some (arr.getD j undef) := by
  rw [cell_of_row w k j arr T fr h, Array.getD_eq_getD_getElem?, Array.getElem?_eq_getElem hj]
  rfl
theorem place_spec (hr : RH P ge G st.h w) {v : V} {c : Value} {cs : List V} {off : Nat} (hp : place st.h v = some (cs, off)) (hv : R G w false v c) :
    ∃ k o, c = .pointer (some ⟨k, o + off, none⟩) ∧ ∀ (j : Nat) (u : V), cs[j]? = some u → ∃ x, w.cell? ⟨k, o + j, none⟩ = some x ∧ x.oneCell' = true ∧ R G w false u x := by
  cases hv with
  | @fp fr cs' off' k o hc ho hr' =>
    simp only [place, Option.some.injEq, Prod.mk.injEq] at hp
    obtain ⟨rfl, rfl⟩ := hp
    refine ⟨k, o, rfl, fun j u hu => ?_⟩
    obtain ⟨x, hx⟩ := Option.isSome_iff_exists.1 (hc j u hu).1
    have hd : cellD w k (o + j) = x := by unfold cellD; rw [hx]; rfl
    exact ⟨x, hx, hd ▸ ho j u hu, (hd ▸ hr' j u hu).weak rfl⟩
  | @ptr b off' k hb hm =>
    simp only [place] at hp
    split at hp
    · rename_i cs' hcs
      simp only [Option.some.injEq, Prod.mk.injEq] at hp
      obtain ⟨rfl, rfl⟩ := hp
      obtain ⟨_, k', arr, T, hm', hh, _, hs, hc⟩ := hr.bl b _ hcs
      rw [hm] at hm'; cases hm'
      refine ⟨k, 0, by simp, fun j u hu => ?_⟩
      have hj : j < arr.size := by rw [hs]; exact (List.getElem?_eq_some_iff.1 hu).1
      rw [Nat.zero_add]
      exact ⟨_, arr_cell hh hj, (hc j u hu).1, (hc j u hu).2⟩
    · cases hp
  | @ep b g i off' k hb hg hm =>
    simp only [place] at hp
    split at hp
    · rename_i T g' fzn flat xs hxs
      split at hp
      · rename_i hgg
        subst hgg
        obtain ⟨x, hx, hxe⟩ := Option.map_eq_some_iff.1 hp
        simp only [Prod.mk.injEq] at hxe
        obtain ⟨rfl, rfl⟩ := hxe
        obtain ⟨_, _, hsz, ⟨hn, hnil⟩ | ⟨k', arr, hm', hh, _, hs, hl, _, hlen, hc⟩⟩ := hr.bl b _ hxs
        · rw [hnil] at hx; simp at hx
        · rw [hm] at hm'; cases hm'
          refine ⟨k, i * G.sz b, by simp, fun j u hu => ?_⟩
          have hj : i * G.sz b + j < arr.size := by
            have h1 : j < G.sz b := by rw [← hlen i x hx]; exact (List.getElem?_eq_some_iff.1 hu).1
            have h2 : i < xs.length := (List.getElem?_eq_some_iff.1 hx).1
            have h3 : (i + 1) * G.sz b ≤ G.cap b g * G.sz b := Nat.mul_le_mul_right _ (by omega)
            rw [hs, Nat.add_mul] at *; omega
          refine ⟨_, arr_cell hh hj, (hc i x j u hx hu).1, ?_⟩
          have := (hc i x j u hx hu).2
          cases flat
          · exact this
          · exact this.weak rfl
      · cases hp
    · cases hp
  | _ => simp [place] at hp
def isAggT (P : Program) (t : TypeId) : Bool := match P.underlying t with
  | some (.struct _) | some (.array _ _) => true
  | _ => false
theorem run_isAgg {t : TypeId} (h : (P.underlying t).isSome = true) (w : World) : (isAgg t).run P w = .ok (isAggT P t) w := by
  obtain ⟨d, hd⟩ := Option.isSome_iff_exists.1 h
  unfold isAgg isAggT
  simp only [Sem.run_bind, run_underlying hd, Result.andThen_ok, hd]
  cases d <;> rfl
def loadV (P : Program) (t : TypeId) (cs : List V) (off : Nat) : V := if isAggT P t = true then .agg ((cs.drop off).take (szOf P t)) else cs.getD off .junk
def loadOk (P : Program) (t : TypeId) (cs : List V) (off : Nat) : Prop :=
  (P.underlying t).isSome = true ∧ if isAggT P t = true then 0 < szOf P t ∧ off + szOf P t ≤ cs.length else off < cs.length
theorem S_load_pure {d : Option Tmp} {e : TypeId} {x : Operand} {t : TypeId} {p : String} {af : Array Edge} {g : Option (Nat × Bool)} {cs : List V} {off : Nat} {a : Act} (hr : Rep P ge G st a w)
    (hp : place st.h (ev ge st.tm x) = some (cs, off)) (hok : loadOk P e cs off) : ∃ c, (execOp a.eval ⟨d, .load e x, t, p, af, g⟩).run P w = .ok (.value c) w ∧ R G w false (loadV P e cs off) c := by
    obtain ⟨k, o, hc, hcell⟩ := place_spec hr.rh hp (hr.ev x)
    obtain ⟨hu, hok⟩ := hok
    by_cases hagg : isAggT P e = true
    · rw [if_pos hagg] at hok
      have hl := run_loadCells (P := P) w ⟨k, o + off, none⟩ (szOf P e) (fun j => cellD w k (o + (off + j))) (fun j hj => by
        obtain ⟨x, hx, _⟩ := hcell (off + j) (cs[off + j]'(by omega)) (List.getElem?_eq_getElem _)
        rw [Addr.add_lit, Nat.add_assoc]
        unfold cellD; rw [hx]; rfl)
      refine ⟨.agg ((List.range (szOf P e)).map fun j => cellD w k (o + (off + j))).toArray, ?_, ?_⟩
      · simp [execOp, Instr.loadAt, hc, Instr.sureAddr, loadVar, run_isAgg hu, hagg, run_sizeOf rfl hok.1, hl]
      · unfold loadV; rw [if_pos hagg]
        have hin : ∀ (i : Nat) (v : V), ((cs.drop off).take (szOf P e))[i]? = some v → i < szOf P e ∧ cs[off + i]? = some v := fun i v hv => by
          rw [List.getElem?_take] at hv
          split at hv
          · rename_i hi; rw [List.getElem?_drop] at hv; exact ⟨hi, hv⟩
          · cases hv
        have hget : ∀ i, i < szOf P e → (((List.range (szOf P e)).map fun j => cellD w k (o + (off + j))).toArray).getD i undef = cellD w k (o + (off + i)) := fun i hi => by
          rw [Array.getD_eq_getD_getElem?]; simp [hi]
        refine .agg (by simp; omega) (fun i v hv => ?_) (fun i v hv => ?_)
        · obtain ⟨hi, hv⟩ := hin i v hv
          obtain ⟨x, hx, h1, h2⟩ := hcell (off + i) v hv
          rw [hget i hi]; unfold cellD; rw [hx]; exact h1
        · obtain ⟨hi, hv⟩ := hin i v hv
          obtain ⟨x, hx, h1, h2⟩ := hcell (off + i) v hv
          rw [hget i hi]; unfold cellD; rw [hx]; exact h2
    · rw [if_neg hagg] at hok
      obtain ⟨x, hx, h1, h2⟩ := hcell off (cs[off]) (List.getElem?_eq_getElem hok)
      refine ⟨x, ?_, ?_⟩
      · simp only [Bool.not_eq_true] at hagg
        simp [execOp, Instr.loadAt, hc, Instr.sureAddr, loadVar, run_isAgg hu, hagg, hx]
      · unfold loadV; rw [if_neg hagg]
        rw [List.getD, List.getElem?_eq_getElem hok]; exact h2
theorem S_load {d : Option Tmp} {e : TypeId} {x : Operand} {t : TypeId} {p : String} {af : Array Edge} {g : Option (Nat × Bool)} {cs : List V} {off : Nat}
    (hp : place st.h (ev ge st.tm x) = some (cs, off)) (hok : loadOk P e cs off) : OpS P ge st ⟨d, .load e x, t, p, af, g⟩ (loadV P e cs off) st.h :=
  OpS_pure fun G a w hr => S_load_pure hr hp hok
def storeL (cs : List V) (off : Nat) (vs : List V) : List V := if off = 0 ∧ vs.length = cs.length then vs else cs.take off ++ vs ++ cs.drop (off + vs.length)
theorem storeL_length {cs : List V} {off : Nat} {vs : List V} (h : off + vs.length ≤ cs.length) : (storeL cs off vs).length = cs.length := by
  unfold storeL; split
  · rename_i h; exact h.2
  · simp; omega
theorem storeL_get {cs : List V} {off : Nat} {vs : List V} (h : off + vs.length ≤ cs.length) (i : Nat) : (storeL cs off vs)[i]? = if off ≤ i ∧ i < off + vs.length then vs[i - off]? else cs[i]? := by
  unfold storeL
  split
  · rename_i hh
    obtain ⟨rfl, hh⟩ := hh
    by_cases hi : i < vs.length
    · rw [if_pos ⟨Nat.zero_le _, by omega⟩, Nat.sub_zero]
    · rw [if_neg (by omega), List.getElem?_eq_none (by omega), List.getElem?_eq_none (by omega)]
  · by_cases h1 : i < off
    · rw [if_neg (by omega), List.append_assoc, List.getElem?_append_left (by simp; omega), List.getElem?_take, if_pos h1]
    · by_cases h2 : i < off + vs.length
      · rw [if_pos ⟨by omega, h2⟩, List.getElem?_append_left (by simp; omega), List.getElem?_append_right (by simp; omega)]
        congr 1
        simp; omega
      · rw [if_neg (by omega), List.getElem?_append_right (by simp; omega), List.getElem?_drop]
        congr 1
        simp; omega
/-- One concrete block has changed, and its abstract block with it. -/
theorem RH_upd {h : List B} (rh : RH P ge G h w) {b k : Nat} {x y : B} (hx : h[b]? = some x) (hk : G.at b x = some k) (hs : w'.heap.size = w.heap.size)
    (ho : ∀ k', k' ≠ k → w'.heap[k']? = w.heap[k']?) (hos : w'.os = w.os) (hout : w'.output = w.output ∧ w'.tape = w.tape) (le : GLe G w G w') (hy : RB P G w' b y) (hat : G.at b y = some k) :
    RH P ge G (h.set b y) w' ∧ Ext G h w G (h.set b y) w' := by
  have hb : b < h.length := (List.getElem?_eq_some_iff.1 hx).1
  have part : ∀ {b' z}, (h.set b y)[b']? = some z → (b' = b ∧ z = y) ∨ (b' ≠ b ∧ h[b']? = some z) := fun {b' z} hz => by
    rw [List.getElem?_set] at hz
    split at hz
    · rename_i e; subst e; first | (cases hz; exact .inl ⟨rfl, rfl⟩) | (rw [if_pos hb] at hz; cases hz; exact .inl ⟨rfl, rfl⟩)
    · rename_i e; exact .inr ⟨fun e' => e e'.symm, hz⟩
  constructor
  · refine ⟨by rw [List.length_set]; exact rh.n, ?_, ?_, ?_, ?_⟩
    · intro b' z hz
      rcases part hz with ⟨rfl, rfl⟩ | ⟨hne, hz⟩
      · exact hy
      · refine RB.keep le (by have := (List.getElem?_eq_some_iff.1 hz).1; rw [rh.n] at this; exact this) rfl (fun k' hk' => ⟨ho k' ?_, rfl⟩) (rh.bl b' z hz)
        intro e; subst e; exact hne (rh.inj b' b z x k' hz hx hk' hk)
    · intro b1 b2 z1 z2 k' h1 h2 e1 e2
      rcases part h1 with ⟨rfl, rfl⟩ | ⟨n1, o1⟩ <;> rcases part h2 with ⟨rfl, rfl⟩ | ⟨n2, o2⟩
      · rfl
      · rw [hat] at e1; cases e1; exact (rh.inj _ _ _ _ _ o2 hx e2 hk).symm
      · rw [hat] at e2; cases e2; exact rh.inj _ _ _ _ _ o1 hx e1 hk
      · exact rh.inj _ _ _ _ _ o1 o2 e1 e2
    · intro k' hk'; rw [hs] at hk'; exact rh.fzlt k' hk'
    · intro g cs hg; exact (rh.ge g cs hg).mono le
  · refine ⟨le, by omega, ?_, ?_, hos, hout⟩
    · intro k' _ hn; exact ⟨ho k' fun e => hn b x hx (by rw [hk, e]), rfl⟩
    · intro b' z k' hz hat'
      rcases part hz with ⟨rfl, rfl⟩ | ⟨_, hz⟩
      · rw [hat] at hat'; cases hat'; exact .inr ⟨b', x, hx, hk⟩
      · exact .inr ⟨b', z, hz, hat'⟩
theorem toList_getD (arr : Array Value) (i : Nat) : arr.getD i undef = (arr.toList[i]?).getD undef := by
  rw [Array.getD_eq_getD_getElem?, Array.getElem?_toList]
theorem splice_get {α : Type} (cur : List α) (o : Nat) (vs : List α) (h : o + vs.length ≤ cur.length) (i : Nat) :
    (cur.take o ++ vs ++ cur.drop (o + vs.length))[i]? = if o ≤ i ∧ i < o + vs.length then vs[i - o]? else cur[i]? := by
  by_cases h1 : i < o
  · rw [if_neg (by omega), List.append_assoc, List.getElem?_append_left (by simp; omega), List.getElem?_take, if_pos h1]
  · by_cases h2 : i < o + vs.length
    · rw [if_pos ⟨by omega, h2⟩, List.getElem?_append_left (by simp; omega), List.getElem?_append_right (by simp; omega)]
      congr 1
      simp; omega
    · rw [if_neg (by omega), List.getElem?_append_right (by simp; omega), List.getElem?_drop]
      congr 1
      simp; omega
/-- A store into a variable. -/
theorem S_store_var {d : Option Tmp} {e : TypeId} {x y : Operand} {t : TypeId} {p : String} {af : Array Edge} {g : Option (Nat × Bool)} {b off : Nat} {cs : List V}
    (hx : ev ge st.tm x = .ptr b off) (hb : st.h[b]? = some (.var cs)) (hy : (ev ge st.tm y).cellsOk = true) (hsz : szOf P e = (ev ge st.tm y).cellsOf.length) (h0 : 0 < szOf P e)
    (hin : off + (ev ge st.tm y).cellsOf.length ≤ cs.length) :
    OpS P ge st ⟨d, .store e x y, t, p, af, g⟩ .void (st.h.set b (.var (storeL cs off (ev ge st.tm y).cellsOf))) := by
  intro G a w hr
  have hvx := hr.ev x
  rw [hx] at hvx
  obtain ⟨hcs, hcv⟩ := cells_of (hr.ev y) hy
  cases hc : a.eval x <;> rw [hc] at hvx <;> cases hvx
  rename_i k hbn hm
  obtain ⟨h00, k', arr, T, hm', hh, hfz, hs, hcells⟩ := hr.rh.bl b _ hb
  rw [hm] at hm'; cases hm'
  have hone : ∀ v ∈ (a.eval y).cells.toList, v.oneCell' = true := fun v hv => by
    obtain ⟨i, hi, rfl⟩ := List.getElem_of_mem hv
    have hi' : i < (ev ge st.tm y).cellsOf.length := by rw [← hcs]; simpa using hi
    have := (hcv i _ (List.getElem?_eq_getElem hi')).1
    rw [toList_getD, List.getElem?_eq_getElem hi] at this; exact this
  have hlen : (a.eval y).cells.toList.length = (ev ge st.tm y).cellsOf.length := by rw [Array.length_toList, hcs]
  have hal : arr.toList.length = arr.size := Array.length_toList
  have hin' : off + (a.eval y).cells.toList.length ≤ arr.toList.length := by rw [hlen, hal, hs]; exact hin
  have hst := run_storeCells_at (P := P) k off T (a.eval y).cells.toList 0 arr w hh (by simpa using hin') hone
  simp only [Nat.add_zero] at hst
  generalize hnew : (arr.toList.take off ++ (a.eval y).cells.toList ++ arr.toList.drop (off + (a.eval y).cells.toList.length)).toArray = new at hst
  have hget : ∀ i, new.getD i undef = if off ≤ i ∧ i < off + (a.eval y).cells.toList.length then (a.eval y).cells.getD (i - off) undef else arr.getD i undef := fun i => by
    rw [toList_getD, ← hnew, List.toList_toArray, splice_get _ _ _ hin']
    split <;> rw [toList_getD]
  have hnsz : new.size = cs.length := by rw [← hnew]; simp; simp at hin'; omega
  have le : GLe G w G (w.setRow k new) := ⟨fun _ => Nat.le_refl _, fun k' o ho => by
    have : k' ≠ k := fun e => by rw [e, hfz] at ho; omega
    exact cell_eq (setRow_other w k k' new this), Nat.le_refl _, fun _ _ => Nat.le_refl _, fun _ _ _ _ => rfl, fun _ _ => rfl, fun _ _ _ _ => rfl⟩
  have hup := RH_upd (w' := w.setRow k new) hr.rh hb hm (setRow_size w k new) (fun k' hk' => setRow_other w k k' new hk') rfl ⟨rfl, rfl⟩ le (y := .var (storeL cs off (ev ge st.tm y).cellsOf))
    ⟨h00, k, new, T, hm, setRow_heap w k arr new T _ hh, hfz, by rw [hnsz, storeL_length hin], fun i v hv => by
      rw [storeL_get hin] at hv
      rw [hget, hlen]
      split
      · rename_i hi; rw [if_pos hi] at hv; exact ⟨(hcv _ v hv).1, (hcv _ v hv).2.mono le⟩
      · rename_i hi; rw [if_neg hi] at hv; exact ⟨(hcells i v hv).1, (hcells i v hv).2.mono le⟩⟩ hm
  refine ⟨undef, G, w.setRow k new, .inr ⟨?_, rfl⟩, hup.1, .void, hup.2⟩
  simp [execOp, Instr.storeAt, hc, Instr.sureAddr, storeVar, run_sizeOf rfl h0, hsz, hcs, hst]
/-- A store into an element of an own row. -/
theorem S_store_row {d : Option Tmp} {e : TypeId} {x y : Operand} {t : TypeId} {p : String} {af : Array Edge} {g : Option (Nat × Bool)} {b gg i off : Nat} {T : TypeId} {fzn : Nat} {flat : Bool} {xs : List (List V)} {z : List V}
    (hx : ev ge st.tm x = .ep b gg i off) (hb : st.h[b]? = some (.row T gg fzn flat xs)) (hz : xs[i]? = some z) (hfz : fzn ≤ i) (hy : (ev ge st.tm y).cellsOk = true)
    (hfl : flat = true → V.isFs (ev ge st.tm y).cellsOf = true) (hsz : szOf P e = (ev ge st.tm y).cellsOf.length) (h0 : 0 < szOf P e)
    (hin : off + (ev ge st.tm y).cellsOf.length ≤ z.length) :
    OpS P ge st ⟨d, .store e x y, t, p, af, g⟩ .void (st.h.set b (.row T gg fzn flat (xs.set i (storeL z off (ev ge st.tm y).cellsOf)))) := by
  intro G a w hr
  have hvx := hr.ev x
  rw [hx] at hvx
  obtain ⟨hcs, hcv⟩ := cells_of (hr.ev y) hy
  cases hc : a.eval x <;> rw [hc] at hvx <;> cases hvx
  rename_i k hbn hgm hm
  obtain ⟨h00, hfx, hsz0, ⟨hn, hnil⟩ | ⟨k', arr, hm', hh, hfzk, hs, hl, hcm, hlen', hcells⟩⟩ := hr.rh.bl b _ hb
  · rw [hnil] at hz; simp at hz
  rw [hm] at hm'; cases hm'
  have hi : i < xs.length := (List.getElem?_eq_some_iff.1 hz).1
  have hzl := hlen' i z hz
  have hone : ∀ v ∈ (a.eval y).cells.toList, v.oneCell' = true := fun v hv => by
    obtain ⟨i, hi, rfl⟩ := List.getElem_of_mem hv
    have hi' : i < (ev ge st.tm y).cellsOf.length := by rw [← hcs]; simpa using hi
    have := (hcv i _ (List.getElem?_eq_getElem hi')).1
    rw [toList_getD, List.getElem?_eq_getElem hi] at this; exact this
  have hlen : (a.eval y).cells.toList.length = (ev ge st.tm y).cellsOf.length := by rw [Array.length_toList, hcs]
  have hbig : (i + 1) * G.sz b ≤ G.cap b gg * G.sz b := Nat.mul_le_mul_right _ (by omega)
  have hal : arr.toList.length = arr.size := Array.length_toList
  have hin' : (i * G.sz b + off) + (a.eval y).cells.toList.length ≤ arr.toList.length := by
    rw [hlen, hal, hs]; rw [Nat.add_mul] at hbig; omega
  have hst := run_storeCells_at (P := P) k (i * G.sz b + off) T (a.eval y).cells.toList 0 arr w hh (by simpa using hin') hone
  simp only [Nat.add_zero] at hst
  generalize hnew : (arr.toList.take (i * G.sz b + off) ++ (a.eval y).cells.toList ++ arr.toList.drop ((i * G.sz b + off) + (a.eval y).cells.toList.length)).toArray = new at hst
  have hget : ∀ j, new.getD j undef = if i * G.sz b + off ≤ j ∧ j < (i * G.sz b + off) + (a.eval y).cells.toList.length then (a.eval y).cells.getD (j - (i * G.sz b + off)) undef else arr.getD j undef := fun j => by
    rw [toList_getD, ← hnew, List.toList_toArray, splice_get _ _ _ hin']
    split <;> rw [toList_getD]
  have hnsz : new.size = arr.size := by rw [← hnew]; simp; simp at hin'; omega
  have hfzi : G.fz k ≤ i * G.sz b := Nat.le_trans hfzk (Nat.mul_le_mul_right _ hfz)
  have le : GLe G w G (w.setRow k new) := ⟨fun _ => Nat.le_refl _, fun k' o ho => by
    by_cases e : k' = k
    · subst e
      rw [cell_setRow_same w k' o arr new T _ hh, cell_of_row w k' o arr T _ hh]
      have h1 := hget o
      rw [if_neg (by omega)] at h1
      have ho' : o < arr.size := by
        have : i * G.sz b ≤ arr.size := by rw [hs]; exact Nat.mul_le_mul_right _ (by omega)
        omega
      rw [Array.getD_eq_getD_getElem?, Array.getD_eq_getD_getElem?, Array.getElem?_eq_getElem ho', Array.getElem?_eq_getElem (by omega)] at h1
      rw [Array.getElem?_eq_getElem ho', Array.getElem?_eq_getElem (by omega)]
      simpa using h1
    · exact cell_eq (setRow_other w k k' new e), Nat.le_refl _, fun _ _ => Nat.le_refl _, fun _ _ _ _ => rfl, fun _ _ => rfl, fun _ _ _ _ => rfl⟩
  have hset : ∀ (i' : Nat) (x : List V), (xs.set i (storeL z off (ev ge st.tm y).cellsOf))[i']? = some x → (i' = i ∧ x = storeL z off (ev ge st.tm y).cellsOf) ∨ (i' ≠ i ∧ xs[i']? = some x) := fun i' x hx => by
    rw [List.getElem?_set] at hx
    split at hx
    · rename_i e; subst e; first | (cases hx; exact .inl ⟨rfl, rfl⟩) | (rw [if_pos hi] at hx; cases hx; exact .inl ⟨rfl, rfl⟩)
    · rename_i e; exact .inr ⟨fun e' => e e'.symm, hx⟩
  have hup := RH_upd (w' := w.setRow k new) hr.rh hb hm (setRow_size w k new) (fun k' hk' => setRow_other w k k' new hk') rfl ⟨rfl, rfl⟩ le (y := .row T gg fzn flat (xs.set i (storeL z off (ev ge st.tm y).cellsOf)))
    ⟨h00, by rw [List.length_set]; exact hfx, hsz0, .inr ⟨k, new, hm, setRow_heap w k arr new T _ hh, hfzk, hnsz.trans hs, by rw [List.length_set]; exact hl, hcm, fun i' x hx => by
      rcases hset i' x hx with ⟨rfl, rfl⟩ | ⟨_, hx⟩
      · rw [storeL_length hin]; exact hzl
      · exact hlen' i' x hx, fun i' x j v hx hv => by
      have hj : j < G.sz b := by
        have h1 : j < x.length := (List.getElem?_eq_some_iff.1 hv).1
        rcases hset i' x hx with ⟨rfl, rfl⟩ | ⟨_, hx⟩
        · rw [storeL_length hin, hzl] at h1; exact h1
        · rw [hlen' i' x hx] at h1; exact h1
      rw [hget, hlen]
      rcases hset i' x hx with ⟨rfl, rfl⟩ | ⟨hne, hx⟩
      · rw [storeL_get hin] at hv
        by_cases hc1 : off ≤ j ∧ j < off + (ev ge st.tm y).cellsOf.length
        · rw [if_pos hc1] at hv
          rw [if_pos (by omega)]
          have e1 : i' * G.sz b + j - (i' * G.sz b + off) = j - off := by omega
          rw [e1]
          refine ⟨(hcv _ v hv).1, ?_⟩
          have h2 := (hcv _ v hv).2.mono le
          cases flat
          · exact h2
          · exact h2.frozen (V.isFs_get (hfl rfl) _ v hv)
        · rw [if_neg hc1] at hv
          rw [if_neg (by omega)]
          exact ⟨(hcells i' z j v hz hv).1, (hcells i' z j v hz hv).2.mono le⟩
      · have hfar : ¬ (i * G.sz b + off ≤ i' * G.sz b + j ∧ i' * G.sz b + j < i * G.sz b + off + (ev ge st.tm y).cellsOf.length) := by
          rintro ⟨h1, h2⟩
          rcases Nat.lt_or_gt_of_ne hne with h3 | h3
          · have : (i' + 1) * G.sz b ≤ i * G.sz b := Nat.mul_le_mul_right _ h3
            rw [Nat.add_mul] at this; omega
          · have : (i + 1) * G.sz b ≤ i' * G.sz b := Nat.mul_le_mul_right _ h3
            rw [Nat.add_mul] at this; omega
        rw [if_neg hfar]
        exact ⟨(hcells i' x j v hx hv).1, (hcells i' x j v hx hv).2.mono le⟩⟩⟩ hm
  refine ⟨undef, G, w.setRow k new, .inr ⟨?_, rfl⟩, hup.1, .void, hup.2⟩
  simp [execOp, Instr.storeAt, hc, Instr.sureAddr, storeVar, run_sizeOf rfl h0, hsz, hcs, hst]
def V.addOff : V → Nat → V
  | .fp cs off, n => .fp cs (off + n)
  | .ptr b off, n => .ptr b (off + n)
  | .ep b g i off, n => .ep b g i (off + n)
  | _, _ => .junk
def V.isAddr : V → Bool
  | .fp .. | .ptr .. | .ep .. => true
  | _ => false
theorem R.addOff {v : V} {c : Value} (h : R G w false v c) (ha : v.isAddr = true) : ∃ a, c = .pointer (some a) ∧ a.spot = none ∧ ∀ n, R G w false (v.addOff n) (.pointer (some (a.add n))) := by
  cases h <;> simp [V.isAddr] at ha
  · rename_i cs off k o hc ho hr
    refine ⟨_, rfl, rfl, fun n => ?_⟩
    rw [Addr.add_lit, Nat.add_assoc]
    exact .fp hc ho hr
  · rename_i b off k hb hm
    refine ⟨_, rfl, rfl, fun n => ?_⟩
    rw [Addr.add_lit]
    exact .ptr hb hm
  · rename_i b g i off k hb hg hm
    refine ⟨_, rfl, rfl, fun n => ?_⟩
    rw [Addr.add_lit, Nat.add_assoc]
    exact .ep hb hg hm
/-- The field's offset, and its size above 0. -/
def fieldOff (P : Program) (s : TypeId) (f : Nat) : Option Nat := match P.underlying s with
  | some (.struct fs) => match fs[f]? with
    | some fd => if 0 < szOf P fd.type then some fd.offset else none
    | none => none
  | _ => none
theorem S_fieldAddr {d : Option Tmp} {s : TypeId} {x : Operand} {f : Nat} {t : TypeId} {p : String} {af : Array Edge} {g : Option (Nat × Bool)} {n : Nat}
    (hf : fieldOff P s f = some n) (hx : (ev ge st.tm x).isAddr = true) : OpS P ge st ⟨d, .fieldAddr s x f, t, p, af, g⟩ ((ev ge st.tm x).addOff n) st.h :=
  OpS_pure fun G a w hr => by
    obtain ⟨ad, hc, hsp, hadd⟩ := (hr.ev x).addOff hx
    refine ⟨_, ?_, hadd n⟩
    unfold fieldOff at hf
    split at hf
    · rename_i fs hu
      split at hf
      · rename_i fd hfd
        split at hf
        · rename_i h0
          cases hf
          have : szOf P fd.type ≠ 0 := by omega
          simp [execOp, Instr.fieldAt, run_underlying hu, hfd, hc, Instr.sureAddr, fieldPlace, run_sizeOf rfl h0, this]
        · cases hf
      · cases hf
    · cases hf
/-- The element's size, of a slice's type. -/
def elemSz (P : Program) (t : TypeId) : Nat := match P.underlying t with
  | some (.slice e) => szOf P e
  | some (.array _ e) => szOf P e
  | _ => 0
def isSliceT (P : Program) (t : TypeId) : Bool := match P.underlying t with
  | some (.slice _) => true
  | _ => false
theorem isSliceT_spec {t : TypeId} (h : isSliceT P t = true) : ∃ e, P.underlying t = some (.slice e) ∧ elemSz P t = szOf P e := by
  unfold isSliceT at h
  split at h
  · rename_i e he; exact ⟨e, he, by unfold elemSz; rw [he]⟩
  · cases h
theorem S_index_vec {d : Option Tmp} {s : TypeId} {x y : Operand} {t : TypeId} {p : String} {af : Array Edge} {g : Option (Nat × Bool)} {xs : List (List V)} {len : Nat} {k : IntKind} {i : Int} {z : List V}
    (hs : isSliceT P s = true) (hx : ev ge st.tm x = .vec xs len) (hy : ev ge st.tm y = .int k i) (h0 : 0 ≤ i) (h1 : i < len) (hz : xs[i.toNat]? = some z) (hl : z.length = elemSz P s) (hp : 0 < elemSz P s) :
    OpS P ge st ⟨d, .indexAddr s x y, t, p, af, g⟩ (.fp z 0) st.h :=
  OpS_pure fun G a w hr => by
    have hvx := hr.ev x
    have hvy := hr.ev y
    rw [hx] at hvx; rw [hy] at hvy
    obtain ⟨e, he, hee⟩ := isSliceT_spec hs
    have hcy := hvy.inv_int
    generalize hcx : a.eval x = cx at hvx
    cases hvx with
    | emp => simp at hz
    | @vec fr xs' len' k' o cap sz a1 a2 a3 hlen hc ho hr' =>
      have hsz : sz = szOf P e := by rw [← hlen _ z hz, hl, hee]
      refine ⟨.pointer (some ⟨k', o + i.toNat * sz + 0, none⟩), ?_, ?_⟩
      · rw [hee] at hp
        simp [execOp, Instr.indexAt, hcx, hcy, asIntOf, run_underlying he, h0, h1, run_sizeOf rfl hp, hsz, Addr.add_lit]
      · refine .fp (fun j v hv => ?_) (fun j v hv => ?_) (fun j v hv => ?_)
        · rw [Nat.add_assoc]; exact hc _ z j v hz hv
        · rw [Nat.add_assoc]; exact ho _ z j v hz hv
        · rw [Nat.add_assoc]; exact hr' _ z j v hz hv
theorem S_index_ref {d : Option Tmp} {s : TypeId} {x y : Operand} {t : TypeId} {p : String} {af : Array Edge} {g : Option (Nat × Bool)} {b gg off len : Nat} {T : TypeId} {fzn : Nat} {flat : Bool} {xs : List (List V)} {k : IntKind} {i : Int} {z : List V}
    (hs : isSliceT P s = true) (hx : ev ge st.tm x = .ref b gg off len) (hb : st.h[b]? = some (.row T gg fzn flat xs)) (hy : ev ge st.tm y = .int k i) (h0 : 0 ≤ i) (h1 : i < len) (hz : xs[off + i.toNat]? = some z) (hl : z.length = elemSz P s) (hp : 0 < elemSz P s) :
    OpS P ge st ⟨d, .indexAddr s x y, t, p, af, g⟩ (.ep b gg (off + i.toNat) 0) st.h :=
  OpS_pure fun G a w hr => by
    have hvx := hr.ev x
    have hvy := hr.ev y
    rw [hx] at hvx; rw [hy] at hvy
    obtain ⟨e, he, hee⟩ := isSliceT_spec hs
    have hcy := hvy.inv_int
    obtain ⟨h00, hfx, hsz0, hrow⟩ := hr.rh.bl b _ hb
    generalize hcx : a.eval x = cx at hvx
    cases hvx with
    | refn => simp at h1; omega
    | @ref _ _ _ _ k' hbn hg hm hle =>
      rcases hrow with ⟨hn, hnil⟩ | ⟨k2, arr, hm', hh, hfzk, hs', hl', hcm, hlen', hcells⟩
      · rw [hnil] at hz; simp at hz
      rw [hm] at hm'; cases hm'
      have hsz : G.sz b = szOf P e := by rw [← hlen' _ z hz, hl, hee]
      refine ⟨.pointer (some ⟨k', (off + i.toNat) * G.sz b + 0, none⟩), ?_, .ep hbn hg hm⟩
      rw [hee] at hp
      simp [execOp, Instr.indexAt, hcx, hcy, asIntOf, run_underlying he, h0, h1, run_sizeOf rfl hp, hsz, Addr.add_lit, Nat.add_mul]
def arrLen (P : Program) (t : TypeId) : Option Nat := match P.underlying t with
  | some (.array n _) => some n
  | _ => none
theorem S_index_arr {d : Option Tmp} {s : TypeId} {x y : Operand} {t : TypeId} {p : String} {af : Array Edge} {g : Option (Nat × Bool)} {k : IntKind} {i : Int} {n : Nat}
    (hs : arrLen P s = some n) (hx : (ev ge st.tm x).isAddr = true) (hy : ev ge st.tm y = .int k i) (h0 : 0 ≤ i) (h1 : i < n) (hp : 0 < elemSz P s) :
    OpS P ge st ⟨d, .indexAddr s x y, t, p, af, g⟩ ((ev ge st.tm x).addOff (i.toNat * elemSz P s)) st.h :=
  OpS_pure fun G a w hr => by
    have hvy := hr.ev y
    rw [hy] at hvy
    have hcy := hvy.inv_int
    obtain ⟨ad, hc, hsp, hadd⟩ := (hr.ev x).addOff hx
    unfold arrLen at hs
    split at hs
    · rename_i m e he
      cases hs
      have hee : elemSz P s = szOf P e := by unfold elemSz; rw [he]
      refine ⟨_, ?_, hadd _⟩
      rw [hee] at hp ⊢
      simp [execOp, Instr.indexAt, hc, hcy, asIntOf, run_underlying he, h0, h1, run_sizeOf rfl hp, Instr.sureAddr]
    · cases hs
end
end Go.AM
end
