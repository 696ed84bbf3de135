/-
  YtgmlimipejcpgaaGreatDoorAp04: steps of the proof of a law of the program: what these texts prove holds under the hypotheses that their theorems name, and no others.
-/
import Derived.Test.YtgmlimipejcpgaaGreatDoorAp03
section
set_option linter.unusedVariables false
set_option linter.unusedSimpArgs false
namespace Go.AM
open Go.MapKept
def imap (l : List (Int × V)) : List (V × V) := l.map fun p => (.int .i64 p.1, p.2)
def iget (l : List (Int × V)) (s : Int) : Option V := (l.find? fun p => p.1 = s).map (·.2)
def iput (l : List (Int × V)) (s : Int) (v : V) : List (Int × V) := match l.findIdx? fun p => p.1 = s with
  | some j => l.set j (s, v)
  | none => l ++ [(s, v)]
section
variable {P : Program} {ge : GEnv} {st : St} {Q : Exit → St → Prop}
variable {d : Option Tmp} {t : TypeId} {p : String} {af : Array Edge} {g : Option (Nat × Bool)}
/-- The keys of a map's entries are the ints. -/
theorem ents_keysI {G : Gh} {w : World} {l : List (Int × V)} {ents : Array MapEntry} (hs : ents.size = (imap l).length)
    (hc : ∀ (i : Nat) (e : V × V) (c : MapEntry), (imap l)[i]? = some e → ents[i]? = some c → R G w true e.1 c.key ∧ R G w true e.2 c.val) :
    (∀ x ∈ ents.toList, IsKey (.int .i64) x.key) ∧ ∀ (j : Nat) (c : MapEntry), ents[j]? = some c → ∃ q, l[j]? = some q ∧ c.key = .int .i64 q.1 ∧ R G w true q.2 c.val := by
  have key : ∀ (j : Nat) (c : MapEntry), ents[j]? = some c → ∃ q, l[j]? = some q ∧ c.key = .int .i64 q.1 ∧ R G w true q.2 c.val := fun j c hj => by
    have hlt := (Array.getElem?_eq_some_iff.1 hj).1
    have hl : j < l.length := by rw [hs] at hlt; simpa [imap] using hlt
    have he : (imap l)[j]? = some (.int .i64 l[j].1, l[j].2) := by simp [imap, hl]
    obtain ⟨h1, h2⟩ := hc j _ c he hj
    exact ⟨l[j], List.getElem?_eq_getElem hl, h1.inv_int, h2⟩
  refine ⟨fun x hx => ?_, key⟩
  obtain ⟨j, hj⟩ := List.getElem?_of_mem hx
  obtain ⟨q, _, hq, _⟩ := key j x (by simpa using hj)
  rw [hq]; simp [IsKey]
theorem find_atI {l : List (Int × V)} (hn : (l.map (·.1)).Nodup) {j : Nat} {q : Int × V} (hj : l[j]? = some q) : iget l q.1 = some q.2 ∧ l.findIdx? (fun p => p.1 = q.1) = some j := by
  induction l generalizing j with
  | nil => simp at hj
  | cons a r ih =>
    rw [List.map_cons, List.nodup_cons] at hn
    cases j with
    | zero =>
      simp at hj; subst hj
      exact ⟨by simp [iget], by simp [List.findIdx?_cons]⟩
    | succ j =>
      have hj' : r[j]? = some q := by simpa using hj
      obtain ⟨h1, h2⟩ := ih hn.2 hj'
      have hne : ¬ a.1 = q.1 := fun e => hn.1 (by rw [e]; exact List.mem_map_of_mem (List.mem_of_getElem? hj'))
      refine ⟨?_, ?_⟩
      · unfold iget at h1 ⊢; rw [List.find?_cons]; simp only [hne, decide_false]; exact h1
      · rw [List.findIdx?_cons]; simp [hne, h2]
theorem find_noneI {l : List (Int × V)} {s : Int} (h : ∀ q ∈ l, q.1 ≠ s) : iget l s = none ∧ l.findIdx? (fun p => p.1 = s) = none := by
  constructor
  · unfold iget
    rw [List.find?_eq_none.2 (fun x hx => by simpa using h x hx)]; rfl
  · rw [List.findIdx?_eq_none_iff]; intro x hx; simpa using h x hx
theorem S_lookupI {T kt et : TypeId} {x y : Operand} {b : Nat} {l : List (Int × V)} {s : Int} {zv : Value} (hT : P.underlying T = some (.map kt et)) (hkt : P.underlying kt = some (.int .i64)) (hz : (P.info? et).bind (·.zero) = some zv)
    (hx : ev ge st.tm x = .mp b) (hb : st.h[b]? = some (.map (imap l))) (hy : ev ge st.tm y = .int .i64 s) (hn : (l.map (·.1)).Nodup) :
    OpS P ge st ⟨d, .lookup T x y false, t, p, af, g⟩ ((iget l s).getD (V.ofCell zv)) st.h := by
  refine OpS_pure fun G a w hr => ?_
  have hvx := hr.ev x
  have hvy := hr.ev y
  rw [hx] at hvx
  rw [hy] at hvy
  obtain ⟨k, hck, hm⟩ := inv_mp hvx
  have hcy := hvy.inv_int
  obtain ⟨h00, k', ents, clock, hm', hh, hs, hc⟩ := hr.rh.bl b _ hb
  rw [hm] at hm'; cases hm'
  obtain ⟨hks, hkey⟩ := ents_keysI hs hc
  rcases findNow_spec (d := .int .i64) (k := .int .i64 s) (by simp [IsKey]) ents.toList 0 hks with ⟨h1, h2⟩ | ⟨j, e, h1, h2, h3⟩
  · have hnone : iget l s = none := (find_noneI fun q hq e => by
      obtain ⟨j, hj⟩ := List.getElem?_of_mem hq
      have hl := (List.getElem?_eq_some_iff.1 hj).1
      have hl2 : j < ents.size := by rw [hs]; simpa [imap] using hl
      obtain ⟨q', h4, h5, _⟩ := hkey j ents[j] (Array.getElem?_eq_getElem hl2)
      rw [hj] at h4; cases h4
      exact h2 ents[j] (Array.getElem_mem_toList hl2) (by rw [h5, e])).1
    rw [hnone]
    refine ⟨zv, ?_, .ofCell zv⟩
    simp [execOp, Instr.lookup, hck, hcy, run_underlying hT, MapKept.run_getObj_map hh, MapKept.run_checkKey (d := .int .i64) (k := .int .i64 s) hkt (by simp [IsKey]), MapKept.run_findKey hkt h1, run_zero hz, Result.andThen]
  · obtain ⟨q, h4, h5, h6⟩ := hkey j e (by simpa using h2)
    have hqs : q.1 = s := by rw [h5] at h3; cases h3; rfl
    have := (find_atI hn h4).1
    rw [hqs] at this
    rw [this]
    refine ⟨e.val, ?_, h6.weak rfl⟩
    simp [execOp, Instr.lookup, hck, hcy, run_underlying hT, MapKept.run_getObj_map hh, MapKept.run_checkKey (d := .int .i64) (k := .int .i64 s) hkt (by simp [IsKey]), MapKept.run_findKey hkt h1, Result.andThen]
theorem S_mapUpdateI {T kt et : TypeId} {x y z : Operand} {b : Nat} {l : List (Int × V)} {s : Int} (hT : P.underlying T = some (.map kt et)) (hkt : P.underlying kt = some (.int .i64))
    (hx : ev ge st.tm x = .mp b) (hb : st.h[b]? = some (.map (imap l))) (hy : ev ge st.tm y = .int .i64 s) (hn : (l.map (·.1)).Nodup) (hv : (ev ge st.tm z).isF = true) :
    OpS P ge st ⟨d, .mapUpdate T x y z, t, p, af, g⟩ .void (st.h.set b (.map (imap (iput l s (ev ge st.tm z))))) := by
  intro G a w hr
  have hvx := hr.ev x
  have hvy := hr.ev y
  have hvz := (hr.ev z).frozen hv
  rw [hx] at hvx
  rw [hy] at hvy
  obtain ⟨k, hck, hm⟩ := inv_mp hvx
  have hcy := hvy.inv_int
  obtain ⟨h00, k', ents, clock, hm', hh, hs, hc⟩ := hr.rh.bl b _ hb
  rw [hm] at hm'; cases hm'
  obtain ⟨hks, hkey⟩ := ents_keysI hs hc
  have hlt : k < w.heap.size := (Array.getElem?_eq_some_iff.1 hh).1
  have up : ∀ (ents' : Array MapEntry) (clock' : Nat) (l' : List (Int × V)), ents'.size = l'.length →
      (∀ (i : Nat) (q : Int × V) (c : MapEntry), l'[i]? = some q → ents'[i]? = some c → c.key = .int .i64 q.1 ∧ R G w true q.2 c.val) →
      RH P ge G (st.h.set b (.map (imap l'))) { w with heap := w.heap.setIfInBounds k (.map ents' clock') } ∧ Ext G st.h w G (st.h.set b (.map (imap l'))) { w with heap := w.heap.setIfInBounds k (.map ents' clock') } := by
    intro ents' clock' l' h1 h2
    have hother : ∀ k', k' ≠ k → (w.heap.setIfInBounds k (.map ents' clock'))[k']? = w.heap[k']? := (heap_set hh).2
    have le : GLe G w G { w with heap := w.heap.setIfInBounds k (.map ents' clock') } := ⟨fun _ => Nat.le_refl _, fun k' o ho => by
      by_cases e : k' = k
      · subst e
        simp [World.cell?, hh, (heap_set hh).1]
      · exact cell_eq (hother k' e), Nat.le_refl _, fun _ _ => Nat.le_refl _, fun _ _ _ _ => rfl, fun _ _ => rfl, fun _ _ _ _ => rfl⟩
    refine RH_upd hr.rh hb hm (by simp) hother rfl ⟨rfl, rfl⟩ le ⟨h00, k, ents', clock', hm, (heap_set hh).1, by simp [imap, h1], fun i e c he hcc => ?_⟩ hm
    rw [imap, List.getElem?_map] at he
    obtain ⟨q, hq, rfl⟩ := Option.map_eq_some_iff.1 he
    obtain ⟨h3, h4⟩ := h2 i q c hq hcc
    rw [h3]
    exact ⟨.int, h4.mono le⟩
  rcases findNow_spec (d := .int .i64) (k := .int .i64 s) (by simp [IsKey]) ents.toList 0 hks with ⟨h1, h2⟩ | ⟨j, e, h1, h2, h3⟩
  · have hnone : l.findIdx? (fun p => p.1 = s) = none := (find_noneI fun q hq e => by
      obtain ⟨j, hj⟩ := List.getElem?_of_mem hq
      have hl := (List.getElem?_eq_some_iff.1 hj).1
      have hl2 : j < ents.size := by rw [hs]; simpa [imap] using hl
      obtain ⟨q', h4, h5, _⟩ := hkey j ents[j] (Array.getElem?_eq_getElem hl2)
      rw [hj] at h4; cases h4
      exact h2 ents[j] (Array.getElem_mem_toList hl2) (by rw [h5, e])).2
    have hsz : ents.size = l.length := by simpa [imap] using hs
    obtain ⟨r1, r2⟩ := up (ents.push { key := .int .i64 s, val := a.eval z, born := clock }) (clock + 1) (l ++ [(s, ev ge st.tm z)]) (by simp [hsz]) (fun i q c hq hcc => by
      rw [Array.getElem?_push] at hcc
      split at hcc
      · rename_i e
        cases hcc
        rw [hsz] at e
        subst e
        rw [List.getElem?_append_right (Nat.le_refl _), Nat.sub_self] at hq
        cases hq
        exact ⟨rfl, hvz⟩
      · have hi := (Array.getElem?_eq_some_iff.1 hcc).1
        rw [List.getElem?_append_left (by omega)] at hq
        obtain ⟨q', h4, h5, h6⟩ := hkey i c hcc
        rw [hq] at h4; cases h4
        exact ⟨h5, h6⟩)
    refine ⟨undef, G, { w with heap := w.heap.setIfInBounds k (.map (ents.push { key := .int .i64 s, val := a.eval z, born := clock }) (clock + 1)) }, .inr ⟨?_, rfl⟩, ?_, .void, ?_⟩
    rotate_left
    · unfold iput; rw [hnone]; exact r1
    · unfold iput; rw [hnone]; exact r2
    · simp [execOp, Instr.mapUpdate, hck, hcy, run_underlying hT, MapKept.run_getObj_map hh, MapKept.run_checkKey (d := .int .i64) (k := .int .i64 s) hkt (by simp [IsKey]), MapKept.run_findKey hkt h1, MapKept.run_setObj_map _ hh, Result.andThen]
  · have hj : ents[j]? = some e := by simpa using h2
    obtain ⟨q, h4, h5, h6⟩ := hkey j e hj
    have hqs : q.1 = s := by rw [h5] at h3; cases h3; rfl
    have hfi := (find_atI hn h4).2
    rw [hqs] at hfi
    have hsz : ents.size = l.length := by simpa [imap] using hs
    have hjl := (List.getElem?_eq_some_iff.1 h4).1
    obtain ⟨r1, r2⟩ := up (ents.modify j fun e => { e with key := .int .i64 s, val := a.eval z }) clock (l.set j (s, ev ge st.tm z)) (by simp [hsz]) (fun i q' c hq hcc => by
      rw [Array.getElem?_modify] at hcc
      rw [List.getElem?_set] at hq
      split at hcc
      · rename_i e'
        subst e'
        rw [if_pos rfl, if_pos hjl] at hq
        rw [hj] at hcc
        cases hcc; cases hq
        exact ⟨rfl, hvz⟩
      · rename_i e'
        rw [if_neg e'] at hq
        obtain ⟨q'', h7, h8, h9⟩ := hkey i c hcc
        rw [hq] at h7; cases h7
        exact ⟨h8, h9⟩)
    refine ⟨undef, G, { w with heap := w.heap.setIfInBounds k (.map (ents.modify j fun e => { e with key := .int .i64 s, val := a.eval z }) clock) }, .inr ⟨?_, rfl⟩, ?_, .void, ?_⟩
    rotate_left
    · unfold iput; rw [hfi]; exact r1
    · unfold iput; rw [hfi]; exact r2
    · simp [execOp, Instr.mapUpdate, hck, hcy, run_underlying hT, MapKept.run_getObj_map hh, MapKept.run_checkKey (d := .int .i64) (k := .int .i64 s) hkt (by simp [IsKey]), MapKept.run_findKey hkt h1, hj, h3, MapKept.run_keyThatStays (d := .int .i64) (k := .int .i64 s) (by simp [IsKey]), MapKept.run_setObj_map _ hh, Result.andThen]
end
end Go.AM
end
section
set_option linter.unusedSimpArgs false
set_option linter.unusedVariables false
namespace Go.Proofs.YtgmlimipejcpgaaGreatDoor
open Go Go.AM Fx
theorem useL_get : ∀ {l : List GuardD} {m : List Bool} {c : Nat} {b : Bool}, (∀ x ∈ l, okG m.length x) → m[c]? = some b → (useL l m)[c]? = some (b || namedB ((c : Int) + 1) l)
  | [], m, c, b, _, h => by rw [useL_nil, namedB_nil, Bool.or_false]; exact h
  | g :: l, m, c, b, hg, h => by
    obtain ⟨g1, g2⟩ := hg g (by simp)
    have hc := (List.getElem?_eq_some_iff.1 h).1
    have h2 : (m.set (g.clock - 1).toNat true)[c]? = some (b || decide (g.clock = (c : Int) + 1)) := by
      rw [List.getElem?_set]
      by_cases e : (g.clock - 1).toNat = c
      · rw [if_pos e, if_pos (by omega), decide_eq_true (by omega), Bool.or_true]
      · rw [if_neg e, decide_eq_false (by omega), Bool.or_false]; exact h
    rw [useL_cons, useL_get (fun x hx => by rw [List.length_set]; exact hg x (by simp [hx])) h2, namedB_cons, Bool.or_assoc]
/-- Guards of all goals, one list after another. -/
def usePs (l : List PartD) (m : List Bool) : List Bool := l.foldl (fun m p => useL p.guards m) m
def useGs (l : List (List PartD)) (m : List Bool) : List Bool := l.foldl (fun m g => usePs g m) m
theorem usePs_nil {m : List Bool} : usePs [] m = m := rfl
theorem usePs_cons {p : PartD} {l : List PartD} {m : List Bool} : usePs (p :: l) m = usePs l (useL p.guards m) := rfl
theorem useGs_nil {m : List Bool} : useGs [] m = m := rfl
theorem useGs_cons {g : List PartD} {l : List (List PartD)} {m : List Bool} : useGs (g :: l) m = useGs l (usePs g m) := rfl
theorem usePs_len : ∀ {l : List PartD} {m : List Bool}, (usePs l m).length = m.length
  | [], m => rfl
  | p :: l, m => by rw [usePs_cons, usePs_len, useL_len]
theorem useGs_len : ∀ {l : List (List PartD)} {m : List Bool}, (useGs l m).length = m.length
  | [], m => rfl
  | g :: l, m => by rw [useGs_cons, useGs_len, usePs_len]
theorem usedPs_or {c : Int} : ∀ {l : List PartD} {X : Bool}, usedPs c X l = (usedPs c false l || X)
  | [], X => by rw [usedPs_nil, usedPs_nil, Bool.false_or]
  | p :: l, X => by rw [usedPs_cons, usedPs_cons, usedPs_or, Bool.or_assoc]
theorem usePs_get : ∀ {l : List PartD} {m : List Bool} {c : Nat} {b : Bool}, (∀ p ∈ l, ∀ x ∈ p.guards, okG m.length x) → m[c]? = some b → (usePs l m)[c]? = some (b || usedPs ((c : Int) + 1) false l)
  | [], m, c, b, _, h => by rw [usePs_nil, usedPs_nil, Bool.or_false]; exact h
  | p :: l, m, c, b, hg, h => by
    rw [usePs_cons, usePs_get (fun q hq x hx => by rw [useL_len]; exact hg q (by simp [hq]) x hx) (useL_get (hg p (by simp)) h), usedPs_cons, Bool.or_assoc]
theorem useGs_get : ∀ {l : List (List PartD)} {m : List Bool} {c : Nat} {b : Bool}, (∀ g ∈ l, ∀ p ∈ g, ∀ x ∈ p.guards, okG m.length x) → m[c]? = some b → (useGs l m)[c]? = some (b || usedGs ((c : Int) + 1) l)
  | [], m, c, b, _, h => by rw [useGs_nil, usedGs_nil, Bool.or_false]; exact h
  | g :: l, m, c, b, hg, h => by
    rw [useGs_cons, useGs_get (fun q hq p hp x hx => by rw [usePs_len]; exact hg q (by simp [hq]) p hp x hx) (usePs_get (hg g (by simp)) h), usedGs_cons, usedPs_or (X := usedGs _ l), Bool.or_assoc]
/-- The row of a place, ahead of the edges. -/
def row0 (N : Nat) (l : LocD) (gs : List (List PartD)) : List Bool := useGs gs (useL l.inv (List.replicate N false))
theorem row0_get {N : Nat} {l : LocD} {gs : List (List PartD)} {c : Nat} (hc : c < N) (h1 : ∀ x ∈ l.inv, okG N x) (h2 : ∀ g ∈ gs, ∀ p ∈ g, ∀ x ∈ p.guards, okG N x) :
    (row0 N l gs)[c]? = some (namedB ((c : Int) + 1) l.inv || usedGs ((c : Int) + 1) gs) := by
  have h3 : (List.replicate N false)[c]? = some false := by simp [hc]
  unfold row0
  rw [useGs_get (fun g hg p hp x hx => by rw [useL_len, List.length_replicate]; exact h2 g hg p hp x hx) (useL_get (by simpa using h1) h3), Bool.false_or]
def mget (m : Marks) (i c : Nat) : Option Bool := (m[i]?).bind fun r => r[c]?
end Go.Proofs.YtgmlimipejcpgaaGreatDoor
end
section
set_option linter.unusedVariables false
set_option linter.unusedSimpArgs false
namespace Go.Proofs.YtgmlimipejcpgaaGreatDoor
open Go Go.AM Fx
def mset (m : Marks) (i c : Nat) : Marks := m.set i ((m.getD i []).set c true)
def fM (m : Marks) : Nat := (m.map falses).sum
theorem mget_some {m : Marks} {i c : Nat} {b : Bool} (h : mget m i c = some b) : ∃ r, m[i]? = some r ∧ r[c]? = some b := by
  unfold mget at h
  cases hr : m[i]? with
  | none => rw [hr] at h; cases h
  | some r => rw [hr] at h; exact ⟨r, rfl, h⟩
theorem mget_of {m : Marks} {i c : Nat} {b : Bool} {r : List Bool} (h : m[i]? = some r) (h2 : r[c]? = some b) : mget m i c = some b := by unfold mget; rw [h]; exact h2
theorem mset_row {m : Marks} {i c : Nat} {r : List Bool} (h : m[i]? = some r) : mset m i c = m.set i (r.set c true) := by unfold mset; simp [List.getD, h]
theorem mget_mset {m : Marks} {i c : Nat} {r : List Bool} (h : m[i]? = some r) (hc : c < r.length) (i2 c2 : Nat) : mget (mset m i c) i2 c2 = if i = i2 ∧ c = c2 then some true else mget m i2 c2 := by
  have hi := (List.getElem?_eq_some_iff.1 h).1
  rw [mset_row h]
  unfold mget
  rw [List.getElem?_set]
  by_cases e : i = i2
  · subst e
    rw [if_pos rfl, if_pos hi, h]
    simp only [Option.bind_some, true_and]
    rw [List.getElem?_set]
    by_cases e2 : c = c2
    · subst e2; rw [if_pos rfl, if_pos hc, if_pos rfl]
    · rw [if_neg e2, if_neg e2]
  · rw [if_neg e, if_neg (fun h => e h.1)]
theorem sum_set : ∀ {l : List Nat} {i x y : Nat}, l[i]? = some x → y + 1 = x → (l.set i y).sum + 1 = l.sum
  | [], i, x, y, h, _ => by simp at h
  | a :: l, 0, x, y, h, e => by simp at h; subst h; simp; omega
  | a :: l, i + 1, x, y, h, e => by
    have := sum_set (l := l) (i := i) (x := x) (y := y) (by simpa using h) e
    simp only [List.set_cons_succ, List.sum_cons]; omega
theorem fM_mset {m : Marks} {i c : Nat} (h : mget m i c = some false) : fM (mset m i c) + 1 = fM m := by
  obtain ⟨r, h1, h2⟩ := mget_some h
  rw [mset_row h1]
  unfold fM
  rw [List.map_set]
  exact sum_set (x := falses r) (by rw [List.getElem?_map, h1]; rfl) (falses_set h2)
/-- What is marked so far is sound. -/
structure MS (a : AutoD) (gs : List (List PartD)) (N : Nat) (m : Marks) : Prop where
  len : m.length = a.locs.length
  row : ∀ (i : Nat) (r : List Bool), m[i]? = some r → r.length = N
  snd : ∀ i c, mget m i c = some true → Act a gs ((c : Int) + 1) i
  use : ∀ i c, i < a.locs.length → c < N → usedB a gs i ((c : Int) + 1) = true → mget m i c = some true
def mclos (N : Nat) (m : Marks) (e : EdgeD) : Prop := ∀ c, c < N → mget m e.to.toNat c = some true → setsB ((c : Int) + 1) e.sets = false → mget m e.frm.toNat c = some true
theorem MS.step {a : AutoD} {gs : List (List PartD)} {N : Nat} {m : Marks} (s : MS a gs N m) {e : EdgeD} (he : e ∈ a.edges) {c : Nat} {r : List Bool} (hr : m[e.frm.toNat]? = some r) (hc : c < N)
    (h1 : mget m e.to.toNat c = some true) (h2 : setsB ((c : Int) + 1) e.sets = false) : MS a gs N (mset m e.frm.toNat c) := by
  have hrl := s.row _ r hr
  have hg := mget_mset hr (c := c) (by omega)
  refine ⟨by rw [mset_row hr, List.length_set]; exact s.len, fun i q hq => ?_, fun i c2 h => ?_, fun i c2 hi hc2 hu => ?_⟩
  · rw [mset_row hr, List.getElem?_set] at hq
    split at hq
    · split at hq
      · cases hq; rw [List.length_set]; exact hrl
      · cases hq
    · exact s.row i q hq
  · rw [hg] at h
    by_cases e2 : e.frm.toNat = i ∧ c = c2
    · obtain ⟨rfl, rfl⟩ := e2; exact .edge he (s.snd _ _ h1) h2
    · rw [if_neg e2] at h; exact s.snd i c2 h
  · rw [hg]
    by_cases e2 : e.frm.toNat = i ∧ c = c2
    · rw [if_pos e2]
    · rw [if_neg e2]; exact s.use i c2 hi hc2 hu
/-- Within a pass: ahead of edge k's clock j. -/
structure MPass (a : AutoD) (gs : List (List PartD)) (N : Nat) (m0 : Marks) (k j : Nat) (more : Bool) (m : Marks) : Prop where
  s : MS a gs N m
  lt : more = true → fM m < fM m0
  eq : more = false → m = m0 ∧ (∀ q e, q < k → a.edges[q]? = some e → mclos N m e) ∧ ∀ e, a.edges[k]? = some e → ∀ c, c < j → mget m e.to.toNat c = some true → setsB ((c : Int) + 1) e.sets = false → mget m e.frm.toNat c = some true
section
variable {a : AutoD} {gs : List (List PartD)} {N k j : Nat} {m0 m : Marks} {more : Bool}
theorem MPass.init (s : MS a gs N m) : MPass a gs N m 0 0 false m := ⟨s, fun h => (by cases h), fun _ => ⟨rfl, fun q e hq => (by omega), fun e _ c hc => (by omega)⟩⟩
theorem MPass.keep (p : MPass a gs N m0 k j more m) {e : EdgeD} (he : a.edges[k]? = some e) (h : mget m e.to.toNat j = some true → setsB ((j : Int) + 1) e.sets = false → mget m e.frm.toNat j = some true) : MPass a gs N m0 k (j + 1) more m :=
  ⟨p.s, p.lt, fun hm => ⟨(p.eq hm).1, (p.eq hm).2.1, fun x hx c hc => by
    rw [he] at hx; cases hx
    by_cases e2 : c = j
    · subst e2; exact h
    · exact (p.eq hm).2.2 e he c (by omega)⟩⟩
theorem MPass.step (p : MPass a gs N m0 k j more m) {e : EdgeD} (he : a.edges[k]? = some e) {r : List Bool} (hr : m[e.frm.toNat]? = some r) (hj : j < N)
    (h1 : mget m e.to.toNat j = some true) (h2 : setsB ((j : Int) + 1) e.sets = false) (h3 : mget m e.frm.toNat j = some false) : MPass a gs N m0 k (j + 1) true (mset m e.frm.toNat j) := by
  have h4 := fM_mset h3
  refine ⟨p.s.step (List.mem_of_getElem? he) hr hj h1 h2, fun _ => ?_, fun h => (by cases h)⟩
  cases hm : more
  · rw [← (p.eq hm).1]; omega
  · have := p.lt hm; omega
theorem MPass.next (p : MPass a gs N m0 k N more m) : MPass a gs N m0 (k + 1) 0 more m :=
  ⟨p.s, p.lt, fun hm => ⟨(p.eq hm).1, fun q e hq he => by
    by_cases e2 : q = k
    · subst e2; exact (p.eq hm).2.2 e he
    · exact (p.eq hm).2.1 q e (by omega) he, fun e _ c hc => (by omega)⟩⟩
theorem MPass.done (p : MPass a gs N m0 a.edges.length j false m) : ∀ e ∈ a.edges, mclos N m e := fun e he => by
  obtain ⟨q, hq⟩ := List.getElem?_of_mem he
  exact (p.eq rfl).2.1 q e (List.getElem?_eq_some_iff.1 hq).1 hq
/-- Where nothing spreads any more, the marks are just what is active. -/
theorem marks_eq (s : MS a gs N m) (hE : okE a) (hc : ∀ e ∈ a.edges, mclos N m e) {i c : Nat} (hi : i < a.locs.length) (hcN : c < N) : mget m i c = some (actB a gs ((c : Int) + 1) i) := by
  have key : ∀ i, Act a gs ((c : Int) + 1) i → mget m i c = some true := by
    intro i h
    induction h with
    | use hi h => exact s.use _ c hi hcN h
    | edge he _ hs ih => exact hc _ he c hcN ih hs
  have hil : i < m.length := by rw [s.len]; exact hi
  have hr : m[i]? = some m[i] := List.getElem?_eq_getElem hil
  have hrl := s.row i _ hr
  have hcl : c < m[i].length := by omega
  have hg : mget m i c = some (m[i])[c] := mget_of hr (List.getElem?_eq_getElem hcl)
  rw [hg]
  congr 1
  cases hb : (m[i])[c]
  · have : ¬ Act a gs ((c : Int) + 1) i := fun h => by have := key i h; rw [hg, hb] at this; cases this
    simp [actB, this]
  · have := s.snd i c (by rw [hg, hb])
    simp [actB, this]
end
end Go.Proofs.YtgmlimipejcpgaaGreatDoor
end
section
set_option linter.unusedVariables false
set_option linter.unusedSimpArgs false
namespace Go.Proofs.YtgmlimipejcpgaaGreatDoor
open Go Go.AM Fx
theorem iput_nil {s : Int} {v : V} : iput [] s v = [(s, v)] := rfl
theorem iput_cons {a : Int × V} {r : List (Int × V)} {s : Int} {v : V} : iput (a :: r) s v = if a.1 = s then (s, v) :: r else a :: iput r s v := by
  unfold iput
  rw [List.findIdx?_cons]
  by_cases h : a.1 = s
  · simp [h]
  · simp only [h, decide_false, Bool.false_eq_true, if_false]
    cases hf : r.findIdx? (fun p => decide (p.1 = s)) <;> simp
theorem iget_cons {a : Int × V} {r : List (Int × V)} {x : Int} : iget (a :: r) x = if a.1 = x then some a.2 else iget r x := by
  unfold iget
  rw [List.find?_cons]
  by_cases h : a.1 = x <;> simp [h]
theorem iput_mem : ∀ {l : List (Int × V)} {s q : Int} {v : V}, q ∈ (iput l s v).map (·.1) → q = s ∨ q ∈ l.map (·.1)
  | [], s, q, v, h => by rw [iput_nil] at h; simpa using h
  | a :: r, s, q, v, h => by
    rw [iput_cons] at h
    split at h
    · simp only [List.map_cons, List.mem_cons] at h ⊢
      rcases h with h | h
      · exact .inl h
      · exact .inr (.inr h)
    · simp only [List.map_cons, List.mem_cons] at h ⊢
      rcases h with h | h
      · exact .inr (.inl h)
      · rcases iput_mem h with h | h
        · exact .inl h
        · exact .inr (.inr h)
theorem iput_nodup : ∀ {l : List (Int × V)} {s : Int} {v : V}, (l.map (·.1)).Nodup → ((iput l s v).map (·.1)).Nodup
  | [], s, v, h => by rw [iput_nil]; simp
  | a :: r, s, v, h => by
    rw [List.map_cons, List.nodup_cons] at h
    rw [iput_cons]
    split
    · rename_i e; subst e; rw [List.map_cons, List.nodup_cons]; exact h
    · rename_i e
      rw [List.map_cons, List.nodup_cons]
      refine ⟨fun hm => ?_, iput_nodup h.2⟩
      rcases iput_mem hm with h2 | h2
      · exact e h2
      · exact h.1 h2
theorem iget_iput : ∀ {l : List (Int × V)} {s x : Int} {v : V}, iget (iput l s v) x = if s = x then some v else iget l x
  | [], s, x, v => by rw [iput_nil, iget_cons]
  | a :: r, s, x, v => by
    rw [iput_cons]
    by_cases e : a.1 = s
    · rw [if_pos e, iget_cons, iget_cons]
      by_cases e2 : s = x
      · rw [if_pos e2, if_pos e2]
      · rw [if_neg e2, if_neg e2, if_neg (by rw [e]; exact e2)]
    · rw [if_neg e, iget_cons, iget_cons, iget_iput]
      by_cases e2 : a.1 = x
      · rw [if_pos e2, if_pos e2, if_neg (fun e3 => e (e2.trans e3.symm))]
      · rw [if_neg e2, if_neg e2]
/-- The clocks that are set, as keys. -/
def setsM (l : List SetD) (m : List (Int × V)) : List (Int × V) := l.foldl (fun m s => iput m s.clock (.bool true)) m
theorem setsM_nil {m : List (Int × V)} : setsM [] m = m := rfl
theorem setsM_cons {s : SetD} {l : List SetD} {m : List (Int × V)} : setsM (s :: l) m = setsM l (iput m s.clock (.bool true)) := rfl
theorem setsM_nodup : ∀ {l : List SetD} {m : List (Int × V)}, (m.map (·.1)).Nodup → ((setsM l m).map (·.1)).Nodup
  | [], m, h => h
  | s :: l, m, h => by rw [setsM_cons]; exact setsM_nodup (iput_nodup h)
theorem setsM_get : ∀ {l : List SetD} {m : List (Int × V)} {c : Int} {X : Bool}, (iget m c).getD (.bool false) = .bool X → (iget (setsM l m) c).getD (.bool false) = .bool (X || setsB c l)
  | [], m, c, X, h => by rw [setsM_nil, setsB_nil, Bool.or_false]; exact h
  | s :: l, m, c, X, h => by
    rw [setsM_cons, setsM_get (X := X || decide (s.clock = c)) ?_, setsB_cons, Bool.or_assoc]
    rw [iget_iput]
    by_cases e : s.clock = c
    · rw [if_pos e, decide_eq_true e, Bool.or_true]; rfl
    · rw [if_neg e, decide_eq_false e, Bool.or_false]; exact h
theorem setsM_at {l : List SetD} {c : Int} : (iget (setsM l []) c).getD (.bool false) = .bool (setsB c l) := by
  rw [setsM_get (X := false) rfl, Bool.false_or]
theorem usedEs_snoc {i : Nat} {c : Int} {X : Bool} {e : EdgeD} : ∀ {l : List EdgeD}, usedEs i c X (l ++ [e]) = ((decide (e.frm = i) && namedB c e.guards) || usedEs i c X l)
  | [] => rfl
  | a :: l => by rw [List.cons_append, usedEs_cons, usedEs_cons, usedEs_snoc, Bool.or_left_comm]
structure MU (a : AutoD) (gs : List (List PartD)) (N k : Nat) (m : Marks) : Prop where
  len : m.length = a.locs.length
  row : ∀ (i : Nat) (r : List Bool), m[i]? = some r → r.length = N
  get : ∀ i c, i < a.locs.length → c < N → mget m i c = some (namedB ((c : Int) + 1) (a.locs.getD i default).inv || usedEs i ((c : Int) + 1) (usedGs ((c : Int) + 1) gs) (a.edges.take k))
section
variable {a : AutoD} {gs : List (List PartD)} {N k : Nat} {m : Marks}
theorem row0_len {l : LocD} : (row0 N l gs).length = N := by unfold row0; rw [useGs_len, useL_len, List.length_replicate]
theorem MU.init (h1 : ∀ l ∈ a.locs, ∀ x ∈ l.inv, okG N x) (h2 : ∀ g ∈ gs, ∀ p ∈ g, ∀ x ∈ p.guards, okG N x) : MU a gs N 0 (a.locs.map fun l => row0 N l gs) := by
  refine ⟨List.length_map .., fun i r hr => ?_, fun i c hi hc => ?_⟩
  · rw [List.getElem?_map] at hr
    obtain ⟨l, _, rfl⟩ := Option.map_eq_some_iff.1 hr
    exact row0_len
  · have e : a.locs.getD i default = a.locs[i] := by simp [List.getD, hi]
    rw [mget_of (r := row0 N a.locs[i] gs) (by simp [hi]) (row0_get hc (h1 _ (List.getElem_mem hi)) h2), e]; rfl
theorem MU.step (p : MU a gs N k m) {e : EdgeD} (he : a.edges[k]? = some e) {r : List Bool} (hf : 0 ≤ e.frm) (hr : m[e.frm.toNat]? = some r) (hg : ∀ x ∈ e.guards, okG N x) : MU a gs N (k + 1) (m.set e.frm.toNat (useL e.guards r)) := by
  have hrl := p.row _ r hr
  have hi := (List.getElem?_eq_some_iff.1 hr).1
  refine ⟨by rw [List.length_set]; exact p.len, fun i q hq => ?_, fun i c hi2 hc => ?_⟩
  · rw [List.getElem?_set] at hq
    by_cases e2 : e.frm.toNat = i
    · rw [if_pos e2, if_pos hi] at hq; cases hq; rw [useL_len]; exact hrl
    · rw [if_neg e2] at hq; exact p.row i q hq
  · have ht : a.edges.take (k + 1) = a.edges.take k ++ [e] := by rw [List.take_add_one, he]; rfl
    have h0 := p.get i c hi2 hc
    rw [ht, usedEs_snoc]
    by_cases e2 : e.frm.toNat = i
    · subst e2
      rw [mget_of (r := useL e.guards r) (b := _) (by rw [List.getElem?_set, if_pos rfl, if_pos hi]) (useL_get (by rw [hrl]; exact hg) (by rw [mget, hr] at h0; exact h0)), decide_eq_true (by omega), Bool.true_and, Bool.or_comm, Bool.or_left_comm]
    · have h3 : mget (m.set e.frm.toNat (useL e.guards r)) i c = mget m i c := by unfold mget; rw [List.getElem?_set, if_neg e2]
      rw [h3, h0, decide_eq_false (by omega), Bool.false_and, Bool.false_or]
theorem MU.ms (p : MU a gs N a.edges.length m) : MS a gs N m := by
  have key : ∀ i c, i < a.locs.length → c < N → mget m i c = some (usedB a gs i ((c : Int) + 1)) := fun i c hi hc => by
    rw [p.get i c hi hc, List.take_length]; rfl
  refine ⟨p.len, p.row, fun i c h => ?_, fun i c hi hc hu => by rw [key i c hi hc, hu]⟩
  obtain ⟨r, h1, h2⟩ := mget_some h
  have hi : i < a.locs.length := by rw [← p.len]; exact (List.getElem?_eq_some_iff.1 h1).1
  have hc : c < N := by rw [← p.row i r h1]; exact (List.getElem?_eq_some_iff.1 h2).1
  rw [key i c hi hc] at h
  exact .use hi (by simpa using h)
/-- What the marks are in the end: a row for each place. -/
noncomputable def actR (a : AutoD) (gs : List (List PartD)) (N i : Nat) : List Bool := (List.range N).map fun c : Nat => actB a gs ((c : Int) + 1) i
theorem MS.rows (s : MS a gs N m) (hE : okE a) (hc : ∀ e ∈ a.edges, mclos N m e) {i : Nat} {r : List Bool} (hr : m[i]? = some r) : r = actR a gs N i := by
  have hi : i < a.locs.length := by rw [← s.len]; exact (List.getElem?_eq_some_iff.1 hr).1
  have hl := s.row i r hr
  apply List.ext_getElem?
  intro c
  by_cases h : c < N
  · have := marks_eq s hE hc hi h
    rw [mget, hr] at this
    simp only [Option.bind_some] at this
    rw [this]
    simp [actR, h]
  · rw [List.getElem?_eq_none (by omega), List.getElem?_eq_none (by simp [actR]; omega)]
end
end Go.Proofs.YtgmlimipejcpgaaGreatDoor
end
