/-
  YtbgooadmonnjaaaGreatDoorRc05: steps of the proof of a law of the program: what these texts prove holds under the hypotheses that their theorems name, and no others.
-/
import Derived.Test.YtbgooadmonnjaaaGreatDoorRc04
section
set_option linter.unusedVariables false
set_option linter.unusedSimpArgs false
namespace Go.AM
section
variable {P : Program} {ge : GEnv} {st : St} {G G' : Gh} {w w' : World} {Q : Exit → St → Prop}
variable {d : Option Tmp} {t : TypeId} {p : String} {af : Array Edge} {g : Option (Nat × Bool)}
/-- The elements that a slice's value shows; are they frozen ones. -/
def srcOf (h : List B) : V → Option (List (List V) × Bool)
  | .vec ys m => some (ys.take m, true)
  | .ref b g off m => match h[b]? with
    | some (.row _ g' _ flat ys) => if g = g' ∧ off + m ≤ ys.length then some ((ys.drop off).take m, flat) else none
    | _ => none
  | .nils => some ([], true)
  | _ => none
theorem src_spec {h : List B} (rh : RH P ge G h w) {v : V} {c : Value} {es : List (List V)} {fl : Bool} {sz : Nat} (hs : srcOf h v = some (es, fl)) (hv : R G w false v c) (hl : ∀ x ∈ es, x.length = sz) :
    ∃ a cap, c = .slice a es.length cap ∧ (es ≠ [] → ∃ k o, a = some ⟨k, o, none⟩ ∧
      ∀ (i : Nat) (x : List V) (j : Nat) (v : V), es[i]? = some x → x[j]? = some v → ∃ u, w.cell? ⟨k, o + (i * sz + j), none⟩ = some u ∧ u.oneCell' = true ∧ R G w fl v u) := by
  cases hv with
  | nils =>
    simp only [srcOf, Option.some.injEq, Prod.mk.injEq] at hs
    obtain ⟨rfl, rfl⟩ := hs
    exact ⟨none, 0, rfl, fun h => absurd rfl h⟩
  | @emp _ a cap hcap =>
    simp only [srcOf, Option.some.injEq, Prod.mk.injEq, List.take_nil] at hs
    obtain ⟨rfl, rfl⟩ := hs
    exact ⟨a, cap, rfl, fun h => absurd rfl h⟩
  | @vec fr xs len k o cap sz' h1 h2 h3 hlen hc ho hr =>
    simp only [srcOf, Option.some.injEq, Prod.mk.injEq] at hs
    obtain ⟨rfl, rfl⟩ := hs
    refine ⟨some ⟨k, o, none⟩, cap, by rw [List.length_take]; congr 1; omega, fun _ => ⟨k, o, rfl, fun i x j v hx hv => ?_⟩⟩
    have hsz : sz = sz' := by
      have hx' : xs[i]? = some x := by rw [List.getElem?_take] at hx; split at hx; exact hx; cases hx
      rw [← hl x (List.mem_of_getElem? hx), hlen i x hx']
    subst hsz
    have hx' : xs[i]? = some x := by rw [List.getElem?_take] at hx; split at hx; exact hx; cases hx
    obtain ⟨u, hu⟩ := Option.isSome_iff_exists.1 (hc i x j v hx' hv).1
    have hd : cellD w k (o + (i * sz + j)) = u := by unfold cellD; rw [hu]; rfl
    exact ⟨u, hu, hd ▸ ho i x j v hx' hv, hd ▸ hr i x j v hx' hv⟩
  | @ref b g off len k hb hg hm hle =>
    simp only [srcOf] at hs
    split at hs
    · rename_i T g' fzn flat ys hx
      split at hs
      · rename_i hc
        obtain ⟨rfl, hlen⟩ := hc
        simp only [Option.some.injEq, Prod.mk.injEq] at hs
        obtain ⟨rfl, rfl⟩ := hs
        obtain ⟨h00, hfx, ⟨hsz0, hszT⟩, hrow⟩ := rh.bl b _ hx
        rcases hrow with ⟨hn, rfl⟩ | ⟨k', arr, hm', hh, hfzk, hs', hl', hcm, hlen', hcells⟩
        · rw [hm] at hn; cases hn
        · rw [hm] at hm'; cases hm'
          refine ⟨some ⟨k, off * G.sz b, none⟩, G.cap b g - off, by rw [List.length_take, List.length_drop]; congr 1; omega, fun _ => ⟨k, off * G.sz b, rfl, fun i x j v hx hv => ?_⟩⟩
          have hx' : ys[off + i]? = some x := by
            rw [List.getElem?_take] at hx; split at hx
            · rw [List.getElem?_drop] at hx; exact hx
            · cases hx
          have hsz : sz = G.sz b := by rw [← hl x (List.mem_of_getElem? hx), hlen' _ x hx']
          subst hsz
          have e : off * G.sz b + (i * G.sz b + j) = (off + i) * G.sz b + j := by rw [Nat.add_mul]; omega
          rw [e]
          have hj : (off + i) * G.sz b + j < arr.size := by
            have h2 : off + i < ys.length := (List.getElem?_eq_some_iff.1 hx').1
            have h3 : (off + i + 1) * G.sz b ≤ G.cap b g * G.sz b := Nat.mul_le_mul_right _ (by omega)
            have h4 : j < G.sz b := by rw [← hlen' _ x hx']; exact (List.getElem?_eq_some_iff.1 hv).1
            rw [hs', Nat.add_mul (off + i) 1] at *; omega
          exact ⟨_, arr_cell hh hj, (hcells _ x j v hx' hv).1, (hcells _ x j v hx' hv).2⟩
      · cases hs
    · cases hs
  | @refn b g hb hg hm =>
    simp only [srcOf] at hs
    split at hs
    · rename_i T g' fzn flat ys hx
      split at hs
      · simp only [Option.some.injEq, Prod.mk.injEq, List.take_zero] at hs
        obtain ⟨rfl, rfl⟩ := hs
        exact ⟨none, 0, rfl, fun h => absurd rfl h⟩
      · cases hs
    · cases hs
  | _ => simp [srcOf] at hs
/-- The source's cells in a row. -/
theorem src_news {h : List B} (rh : RH P ge G h w) {v : V} {c : Value} {es : List (List V)} {fl : Bool} {sz : Nat} (hs : srcOf h v = some (es, fl)) (hv : R G w false v c) (hl : ∀ x ∈ es, x.length = sz) (hne : es ≠ []) :
    ∃ a cap, c = .slice (some a) es.length cap ∧ ∃ news : List Value, news.length = es.length * sz ∧ (∀ j u, news[j]? = some u → w.cell? (a.add j) = some u) ∧ (∀ u ∈ news, u.oneCell' = true) ∧
      ∀ (i : Nat) (x : List V) (j : Nat) (v : V), es[i]? = some x → x[j]? = some v → ∃ u, news[i * sz + j]? = some u ∧ u.oneCell' = true ∧ R G w fl v u := by
  obtain ⟨a, cap, rfl, h1⟩ := src_spec rh hs hv hl
  obtain ⟨k, o, rfl, h2⟩ := h1 hne
  have hcell : ∀ q, q < es.length * sz → ∃ u, w.cell? ⟨k, o + q, none⟩ = some u ∧ u.oneCell' = true := fun q hq => by
    have hsz : 0 < sz := by
      rcases Nat.eq_zero_or_pos sz with h | h
      · subst h; omega
      · exact h
    have hi : q / sz < es.length := Nat.div_lt_of_lt_mul (by rw [Nat.mul_comm]; exact hq)
    have hj : q % sz < (es[q / sz]).length := by rw [hl _ (List.getElem_mem hi)]; exact Nat.mod_lt _ hsz
    obtain ⟨u, hu, ho, _⟩ := h2 (q / sz) _ (q % sz) _ (List.getElem?_eq_getElem hi) (List.getElem?_eq_getElem hj)
    have e : q / sz * sz + q % sz = q := by rw [Nat.mul_comm]; exact Nat.div_add_mod q sz
    rw [e] at hu
    exact ⟨u, hu, ho⟩
  refine ⟨⟨k, o, none⟩, cap, rfl, (List.range (es.length * sz)).map fun q => cellD w k (o + q), by simp, ?_, ?_, ?_⟩
  · intro j u hu
    rw [List.getElem?_map] at hu
    obtain ⟨q, hq, rfl⟩ := Option.map_eq_some_iff.1 hu
    have hj := (List.getElem?_eq_some_iff.1 hq).1
    simp at hj
    have : q = j := by rw [List.getElem?_range hj] at hq; cases hq; rfl
    subst this
    obtain ⟨u, hu, _⟩ := hcell q hj
    rw [Addr.add_lit]; unfold cellD; rw [hu]; rfl
  · intro u hu
    obtain ⟨q, hq, rfl⟩ := List.mem_map.1 hu
    obtain ⟨u, hu, ho⟩ := hcell q (by simpa using hq)
    unfold cellD; rw [hu]; exact ho
  · intro i x j v hx hv
    obtain ⟨u, hu, ho, hr⟩ := h2 i x j v hx hv
    refine ⟨u, ?_, ho, hr⟩
    have hlt : i * sz + j < es.length * sz := by
      have h2 : i < es.length := (List.getElem?_eq_some_iff.1 hx).1
      have h3 : (i + 1) * sz ≤ es.length * sz := Nat.mul_le_mul_right _ h2
      have h4 : j < sz := by rw [← hl x (List.mem_of_getElem? hx)]; exact (List.getElem?_eq_some_iff.1 hv).1
      rw [Nat.add_mul] at h3; omega
    rw [List.getElem?_map, List.getElem?_range hlt]
    simp only [Option.map_some]
    unfold cellD; rw [hu]; rfl
/-- append of nothing. -/
theorem run_append_zero {T : TypeId} {e : TypeId} {i : TypeInfo} {ty : TypeId} (hu : P.underlying T = some (.slice e)) (hi : P.info? e = some i) (b : Option Addr) (n cap : Nat) (hn : n ≤ cap) (a : Option Addr) (c : Nat) (w : World) :
    (Builtin.append_ #[T, T] ty #[.slice b n cap, .slice a 0 c]).run P w = .ok (.slice b n cap) w := by
  cases a with
  | none =>
    cases b with
    | none => simp [Builtin.append_, run_underlying hu, sizeOf, typeInfo, hi, Builtin.lenOf, hn, Builtin.firstCells]
    | some b => simp [Builtin.append_, run_underlying hu, sizeOf, typeInfo, hi, Builtin.lenOf, hn, Builtin.firstCells, storeCells]
  | some a =>
    cases b with
    | none => simp [Builtin.append_, run_underlying hu, sizeOf, typeInfo, hi, Builtin.lenOf, hn, Builtin.firstCells, loadCells, loadCellsFrom]
    | some b => simp [Builtin.append_, run_underlying hu, sizeOf, typeInfo, hi, Builtin.lenOf, hn, Builtin.firstCells, storeCells, loadCells, loadCellsFrom]
theorem info_of {e : TypeId} {n : Nat} (h : szOf P e = n) (h0 : 0 < n) : ∃ i, P.info? e = some i ∧ i.size = n ∧ i.bytes = bytesOf P e := by
  unfold szOf at h
  unfold bytesOf
  cases hi : P.info? e with
  | none => rw [hi] at h; simp at h; omega
  | some i => rw [hi] at h; exact ⟨i, rfl, by simpa using h, by simp⟩
/-- append of something onto nil, or onto a row of one's own. -/
theorem run_append2 {T e ty : TypeId} {z : Value} (hu : P.underlying T = some (.slice e)) {sz : Nat} (hsz : szOf P e = sz) (h0 : 0 < sz) (hz : (P.info? e).bind (·.zero) = some z) (hzs : z.cells.size = sz)
    {v : Value} {n : Nat} {olds : List Value} (hol : olds.length = n * sz)
    (hv : (v = .slice none 0 0 ∧ n = 0) ∨ ∃ k cap cur, v = .slice (some ⟨k, 0, none⟩) n cap ∧ w.heap[k]? = some (.cells cur e (0, 0)) ∧ n ≤ cap ∧ cap ≤ maxLen ∧ cur.size = cap * sz ∧ cur.toList.take (n * sz) = olds)
    (a : Addr) (m c : Nat) (news : List Value) (hm : 0 < m) (hl : news.length = m * sz) (hnews : ∀ j u, news[j]? = some u → w.cell? (a.add j) = some u) (h1 : ∀ u ∈ news, u.oneCell' = true)
    (h63 : n + m ≤ maxLen) (hbytes : (n + m) * bytesOf P e ≤ 140737488355328) :
    ∃ v' w', (Builtin.append_ #[T, T] ty #[v, .slice (some a) m c]).run P w = .ok v' w' ∧
      ((∃ cap' arr, v' = .slice (some ⟨w.heap.size, 0, none⟩) (n + m) cap' ∧ w' = w.drew.alloc (.cells arr e) ∧ arr.size = cap' * sz ∧ n + m ≤ cap' ∧ cap' ≤ maxLen ∧ arr.toList.take ((n + m) * sz) = olds ++ news) ∨
       (∃ k cap cur new, v = .slice (some ⟨k, 0, none⟩) n cap ∧ v' = .slice (some ⟨k, 0, none⟩) (n + m) cap ∧ w.heap[k]? = some (.cells cur e (0, 0)) ∧ cap ≤ maxLen ∧ n + m ≤ cap ∧ cur.size = cap * sz ∧
          w' = w.setRow k new ∧ new.size = cur.size ∧ new.toList.take ((n + m) * sz) = olds ++ news ∧ ∀ j, j < n * sz → new[j]? = cur[j]?)) := by
  obtain ⟨i, hi, hisz, hby⟩ := info_of hsz h0
  rw [hi] at hz
  simp only [Option.bind_some] at hz
  rw [← hby] at hbytes
  have hsmall : n + m ≤ 9223372036854775807 := by simp only [maxLen] at h63; omega
  have hlen : (olds ++ news).length = (n + m) * sz := by rw [List.length_append, hol, hl, Nat.add_mul]
  rcases hv with ⟨rfl, rfl⟩ | ⟨k, cap, cur, rfl, hk, hnc, hcm, hcs, htake⟩
  · have ho : olds = [] := List.eq_nil_of_length_eq_zero (by simpa using hol)
    subst ho
    have hr := run_append_nil (P := P) w T ty e i z hu hi hz a m c news (by rw [hisz]; exact hl) hnews hm (by omega) (by have hb := hbytes; simp only [Nat.zero_add] at hb; omega)
    refine ⟨_, _, hr, .inl ⟨grownCap w m 0 e, _, by simp, rfl, ?_, by simpa using grownCap_ge w m 0 e, grownCap_le_maxLen w m 0 e (by omega), ?_⟩⟩
    · have := grownCap_ge w m 0 e
      simp only [Array.size_append, List.size_toArray, size_zeroCells, hzs, hl, ← Nat.add_mul]
      congr 1; omega
    · simp only [Array.toList_append, Nat.zero_add, List.nil_append]
      rw [← hl]; exact List.take_left
  · by_cases hroom : n + m ≤ cap
    · have hfit : n * sz + news.length ≤ cur.size := by rw [hl, hcs, ← Nat.add_mul]; exact Nat.mul_le_mul_right _ hroom
      have hr := run_append_room (P := P) w T ty e i hu hi k n cap cur hk a m c news (by rw [hisz]; exact hl) hnews h1 hroom (by rw [hisz]; exact hfit)
      rw [hisz] at hr
      refine ⟨_, _, hr, .inr ⟨k, cap, cur, _, rfl, rfl, hk, hcm, hroom, hcs, rfl, ?_, ?_, ?_⟩⟩
      · simp; omega
      · rw [List.toList_toArray, htake, ← hlen]; exact List.take_left
      · intro j hj
        have hal : cur.toList.length = cur.size := Array.length_toList
        have := splice_get cur.toList (n * sz) news (by rw [hal]; exact hfit) j
        rw [if_neg (by omega)] at this
        rw [List.getElem?_toArray, this, Array.getElem?_toList]
    · have holds : ∀ j u, olds[j]? = some u → w.cell? ((⟨k, 0, none⟩ : Addr).add j) = some u := fun j u hu => by
        rw [Addr.add_lit, Nat.zero_add, cell_of_row w k j cur e _ hk]
        rw [← htake, List.getElem?_take] at hu
        split at hu
        · rw [Array.getElem?_toList] at hu; exact hu
        · cases hu
      have hr := run_append_grow (P := P) w T ty e i z hu hi hz ⟨k, 0, none⟩ n cap olds (by rw [hisz]; exact hol) holds a m c news (by rw [hisz]; exact hl) hnews (by omega) (by omega) (growslice_fits (by omega) hbytes)
      refine ⟨_, _, hr, .inl ⟨grownCap w (n + m) cap e, _, rfl, rfl, ?_, grownCap_ge w (n + m) cap e, grownCap_le_maxLen w (n + m) cap e h63, ?_⟩⟩
      · have := grownCap_ge w (n + m) cap e
        simp only [Array.size_append, List.size_toArray, size_zeroCells, hzs, hol, hl, ← Nat.add_mul]
        congr 1; omega
      · simp only [Array.toList_append, List.append_assoc]
        rw [← List.append_assoc, ← hlen]; exact List.take_left
/-- Rows one behind the other. -/
theorem RowR_append {fr fl : Bool} {sz : Nat} {xs es : List (List V)} {arr : Array Value} {olds news : List Value} (hx : ∀ (i : Nat) (x : List V), xs[i]? = some x → x.length = sz) (he : ∀ x ∈ es, x.length = sz)
    (hol : olds.length = xs.length * sz) (htake : arr.toList.take ((xs.length + es.length) * sz) = olds ++ news)
    (ho : ∀ (i : Nat) (x : List V) (j : Nat) (v : V), xs[i]? = some x → x[j]? = some v → ∃ u, olds[i * sz + j]? = some u ∧ u.oneCell' = true ∧ R G w fr v u)
    (hn : ∀ (i : Nat) (x : List V) (j : Nat) (v : V), es[i]? = some x → x[j]? = some v → ∃ u, news[i * sz + j]? = some u ∧ u.oneCell' = true ∧ R G w fl v u)
    {fo : Bool} (hfo : fo = true → fr = true ∧ fl = true) : RowR G w fo sz (xs ++ es) arr := by
  have conv : ∀ {b : Bool} {v : V} {u : Value}, R G w b v u → (fo = true → b = true) → R G w fo v u := fun {b v u} h hb => by
    cases fo with
    | true => have := hb rfl; subst this; exact h
    | false =>
      cases b with
      | true => exact h.weak rfl
      | false => exact h
  refine ⟨fun i x hx' => ?_, fun i x j v hx' hv => ?_⟩
  · rcases Nat.lt_or_ge i xs.length with h | h
    · rw [List.getElem?_append_left h] at hx'; exact hx i x hx'
    · rw [List.getElem?_append_right h] at hx'; exact he x (List.mem_of_getElem? hx')
  · have key : ∀ q u, (olds ++ news)[q]? = some u → arr.getD q undef = u := fun q u hq => by
      rw [← htake, List.getElem?_take] at hq
      split at hq
      · rw [toList_getD, hq]; rfl
      · cases hq
    rcases Nat.lt_or_ge i xs.length with h | h
    · rw [List.getElem?_append_left h] at hx'
      obtain ⟨u, hu, h1, h2⟩ := ho i x j v hx' hv
      have : i * sz + j < olds.length := (List.getElem?_eq_some_iff.1 hu).1
      rw [key _ u (by rw [List.getElem?_append_left this]; exact hu)]
      exact ⟨h1, conv h2 fun h => (hfo h).1⟩
    · rw [List.getElem?_append_right h] at hx'
      obtain ⟨u, hu, h1, h2⟩ := hn _ x j v hx' hv
      have e : i * sz + j = olds.length + ((i - xs.length) * sz + j) := by
        have : i = xs.length + (i - xs.length) := by omega
        rw [hol]
        conv => lhs; rw [this, Nat.add_mul]
        omega
      rw [key _ u (by rw [e, List.getElem?_append_right (by omega), Nat.add_sub_cancel_left]; exact hu)]
      exact ⟨h1, conv h2 fun h => (hfo h).2⟩
theorem run_append_call {ρ : Operand → Value} {x y : Operand} {ts : Array TypeId} {w : World} :
    (execOp ρ ⟨d, .call { callee := .builtin .append, args := #[x, y], argTypes := ts }, t, p, af, g⟩).run P w = ((Builtin.append_ ts t #[ρ x, ρ y]).run P w).andThen fun v w => .ok (.value v) w := by
  simp [execOp, resolve, invoke, builtin]
/-- append onto nil: a new row. -/
theorem S_append_nils {T e : TypeId} {x y : Operand} {ts : Array TypeId} {es : List (List V)} {fl : Bool} {zs : List V} (hts : ts = #[T, T]) (hu : P.underlying T = some (.slice e)) (hz : zeroOf P e = some zs) (hsz : szOf P e = zs.length) (h0 : 0 < zs.length)
    (hx : ev ge st.tm x = .nils) (hy : srcOf st.h (ev ge st.tm y) = some (es, fl)) (hl : ∀ z ∈ es, z.length = szOf P e) (hb : es.length * bytesOf P e ≤ 140737488355328) (hb0 : 0 < bytesOf P e) :
    OpS P ge st ⟨d, .call { callee := .builtin .append, args := #[x, y], argTypes := ts }, t, p, af, g⟩ (.ref st.h.length 0 0 es.length) (st.h ++ [.row e 0 0 fl es]) := by
  intro G a w hr
  have hvx := hr.ev x
  rw [hx] at hvx
  have hcx : a.eval x = .slice none 0 0 := by generalize a.eval x = c at *; cases hvx; rfl
  obtain ⟨z, _, hz1, hz2, _, hz3⟩ := run_zeroValue hz
  rw [hsz] at hl
  obtain ⟨inf, hi, hisz, hby⟩ := info_of hsz h0
  by_cases hne : es = []
  · subst hne
    obtain ⟨sa, scap, hcy, _⟩ := src_spec hr.rh hy (hr.ev y) hl
    have hk : ∀ k', (G.push none (szOf P e) 0).at G.n (.row e 0 0 fl []) = some k' → w.heap.size ≤ k' := fun k' h => by simp [Gh.at, Gh.push] at h
    refine ⟨.slice none 0 0, G.push none (szOf P e) 0, w, .inl ?_, hr.rh.push (.refl w) ⟨by simp [Gh.push], Nat.zero_le _, by simp [Gh.push, hsz, h0], .inl ⟨by simp [Gh.push], rfl⟩⟩ hk, ?_, .push hr.rh (.refl w) hk⟩
    · rw [run_append_call, hcx, hcy, hts, List.length_nil, run_append_zero hu hi none 0 0 (Nat.le_refl _) sa scap w]
      rfl
    · rw [hr.rh.n]
      exact .refn (by simp [Gh.push]) (by simp [Gh.push]) (by simp [Gh.push])
  · obtain ⟨ad, scap, hcy, news, hnl, hnews, hone, hrel⟩ := src_news hr.rh hy (hr.ev y) hl hne
    have hpos : 0 < es.length := List.length_pos_iff.2 hne
    have h63 : es.length ≤ maxLen := by
      have : es.length * 1 ≤ es.length * bytesOf P e := Nat.mul_le_mul_left _ hb0
      unfold maxLen; omega
    obtain ⟨v', w', hrun, hcase⟩ := run_append2 (w := w) (ty := t) hu hsz h0 hz1 hz2 (olds := []) (by simp) (.inl ⟨rfl, rfl⟩) ad es.length scap news hpos hnl hnews hone (by omega) (by simpa using hb)
    rcases hcase with ⟨cap', arr, rfl, rfl, has, hle, hcm, htake⟩ | ⟨k, cap, cur, new, h, _⟩
    · simp only [Nat.zero_add, List.nil_append] at htake hle hrun
      have hgrow : WGrow w (w.drew.alloc (.cells arr e)) := (WGrow.drew w).trans (.alloc _ _)
      have hk : ∀ k', (G.push (some w.heap.size) (szOf P e) cap').at G.n (.row e 0 0 fl es) = some k' → w.heap.size ≤ k' := fun k' h => by simp [Gh.at, Gh.push] at h; omega
      have le := GLe.push hr.rh hgrow (some w.heap.size) (szOf P e) cap'
      have hrow := RowR_append (G := G) (w := w) (fr := fl) (fl := fl) (fo := fl) (xs := []) (es := es) (arr := arr) (olds := []) (news := news) (sz := zs.length) (fun i x h => by simp at h) hl (by simp) (by simpa using htake) (fun i x j v h => by simp at h) hrel (fun h => ⟨h, h⟩)
      rw [List.nil_append] at hrow
      refine ⟨.slice (some ⟨w.heap.size, 0, none⟩) es.length cap', G.push (some w.heap.size) (szOf P e) cap', w.drew.alloc (.cells arr e), .inl ?_, hr.rh.push hgrow ⟨by simp [Gh.push], Nat.zero_le _, by simp [Gh.push, hsz, h0], .inr ⟨w.heap.size, arr, by simp [Gh.push], heap_alloc_new w.drew _, ?_, ?_, ?_, ?_, ?_, ?_⟩⟩ hk, ?_, .push hr.rh hgrow hk⟩
      · rw [run_append_call, hcx, hcy, hts, hrun]; rfl
      · simp [Gh.push, hr.rh.fzlt]
      · simp [Gh.push, has, hsz]
      · simpa [Gh.push] using hle
      · simpa [Gh.push] using hcm
      · simpa [Gh.push, hsz] using hrow.1
      · intro i x j v hx' hv
        have := hrow.2 i x j v hx' hv
        simp only [Gh.push, if_true, hsz]
        exact ⟨this.1, this.2.mono (by have l2 := le; rw [hsz] at l2; exact l2)⟩
      · rw [hr.rh.n]
        have := R.ref (G := G.push (some w.heap.size) (szOf P e) cap') (w := w.drew.alloc (.cells arr e)) (b := G.n) (g := 0) (off := 0) (len := es.length) (k := w.heap.size) (by simp [Gh.push]) (by simp [Gh.push]) (by simp [Gh.push]) (by simp [Gh.push]; omega)
        simpa [Gh.push] using this
    · cases h
/-- The next generation of a row's block. -/
def Gh.bump (G : Gh) (b : Nat) (k : Option Nat) (cap : Nat) : Gh :=
  { G with
    gm := fun b' => if b' = b then G.gm b + 1 else G.gm b'
    m := fun b' g => if b' = b ∧ g = G.gm b + 1 then k else G.m b' g
    cap := fun b' g => if b' = b ∧ g = G.gm b + 1 then cap else G.cap b' g }
theorem GLe.bump {b : Nat} {k : Option Nat} {cap : Nat} (hc : ∀ k o, o < G.fz k → w'.cell? ⟨k, o, none⟩ = w.cell? ⟨k, o, none⟩) : GLe G w (G.bump b k cap) w' where
  fz _ := Nat.le_refl _
  cells := hc
  n := Nat.le_refl _
  gm b' _ := by simp only [Gh.bump]; split <;> rename_i h
                · subst h; omega
                · exact Nat.le_refl _
  m b' g _ hg := by simp only [Gh.bump]; rw [if_neg]; rintro ⟨rfl, rfl⟩; omega
  sz _ _ := rfl
  cap b' g _ hg := by simp only [Gh.bump]; rw [if_neg]; rintro ⟨rfl, rfl⟩; omega
theorem at_bump {b b' : Nat} {k : Option Nat} {cap : Nat} {x : B} (h : b' ≠ b) : (G.bump b k cap).at b' x = G.at b' x := by
  cases x <;> simp [Gh.at, Gh.bump, h]
theorem RH_bump {h : List B} (rh : RH P ge G h w) {b : Nat} {x y : B} {k : Option Nat} {cap : Nat} (hx : h[b]? = some x) (hs : w.heap.size ≤ w'.heap.size)
    (ho : ∀ k', k' < w.heap.size → G.at b x ≠ some k' → w'.heap[k']? = w.heap[k']?) (hos : w'.os = w.os) (hout : w'.output = w.output ∧ w'.tape = w.tape)
    (hc : ∀ k o, o < G.fz k → w'.cell? ⟨k, o, none⟩ = w.cell? ⟨k, o, none⟩)
    (hy : RB P (G.bump b k cap) w' b y) (hat : ∀ k2, (G.bump b k cap).at b y = some k2 → G.at b x = some k2 ∨ w.heap.size ≤ k2) :
    RH P ge (G.bump b k cap) (h.set b y) w' ∧ Ext G h w (G.bump b k cap) (h.set b y) w' := by
  have le : GLe G w (G.bump b k cap) w' := GLe.bump hc
  have hb : b < h.length := (List.getElem?_eq_some_iff.1 hx).1
  have part : ∀ {b' z}, (h.set b y)[b']? = some z → (b' = b ∧ z = y) ∨ (b' ≠ b ∧ h[b']? = some z) := fun {b' z} hz => by
    rw [List.getElem?_set] at hz
    split at hz
    · rename_i e; subst e; first | (cases hz; exact .inl ⟨rfl, rfl⟩) | (rw [if_pos hb] at hz; cases hz; exact .inl ⟨rfl, rfl⟩)
    · rename_i e; exact .inr ⟨fun e' => e e'.symm, hz⟩
  constructor
  · refine ⟨by rw [List.length_set]; exact rh.n, ?_, ?_, ?_, ?_⟩
    · intro b' z hz
      rcases part hz with ⟨rfl, rfl⟩ | ⟨hne, hz⟩
      · exact hy
      · refine RB.keep le (by have := (List.getElem?_eq_some_iff.1 hz).1; rw [rh.n] at this; exact this) (by simp [Gh.bump, hne]) (fun k' hk' => ⟨ho k' (at_lt rh hz hk') ?_, rfl⟩) (rh.bl b' z hz)
        intro e; exact hne (rh.inj b' b z x k' hz hx hk' e)
    · intro b1 b2 z1 z2 k' h1 h2 e1 e2
      rcases part h1 with ⟨rfl, rfl⟩ | ⟨n1, o1⟩ <;> rcases part h2 with ⟨rfl, rfl⟩ | ⟨n2, o2⟩
      · rfl
      · rw [at_bump n2] at e2
        rcases hat k' e1 with h3 | h3
        · exact rh.inj _ _ _ _ _ hx o2 h3 e2
        · have := at_lt rh o2 e2; omega
      · rw [at_bump n1] at e1
        rcases hat k' e2 with h3 | h3
        · exact rh.inj _ _ _ _ _ o1 hx e1 h3
        · have := at_lt rh o1 e1; omega
      · rw [at_bump n1] at e1; rw [at_bump n2] at e2; exact rh.inj _ _ _ _ _ o1 o2 e1 e2
    · intro k' hk'; exact rh.fzlt k' (Nat.le_trans hs hk')
    · intro g cs hg; exact (rh.ge g cs hg).mono le
  · refine ⟨le, hs, ?_, ?_, hos, hout⟩
    · intro k' hk' hn; exact ⟨ho k' hk' (hn b x hx), rfl⟩
    · intro b' z k' hz hat'
      rcases part hz with ⟨rfl, rfl⟩ | ⟨hne, hz⟩
      · rcases hat k' hat' with h3 | h3
        · exact .inr ⟨b', x, hx, h3⟩
        · exact .inl h3
      · rw [at_bump hne] at hat'; exact .inr ⟨b', z, hz, hat'⟩
/-- append onto a row of one's own: its next generation. -/
theorem S_append_ref {T e : TypeId} {x y : Operand} {ts : Array TypeId} {es : List (List V)} {fl fo : Bool} {zs : List V} {b gg fzn : Nat} {flat : Bool} {xs : List (List V)} (hts : ts = #[T, T]) (hu : P.underlying T = some (.slice e)) (hz : zeroOf P e = some zs) (hsz : szOf P e = zs.length) (h0 : 0 < zs.length)
    (hx : ev ge st.tm x = .ref b gg 0 xs.length) (hb' : st.h[b]? = some (.row e gg fzn flat xs)) (hy : srcOf st.h (ev ge st.tm y) = some (es, fl)) (hl : ∀ z ∈ es, z.length = szOf P e)
    (hb : (xs.length + es.length) * bytesOf P e ≤ 140737488355328) (hb0 : 0 < bytesOf P e) (hfo : fo = true → flat = true ∧ fl = true) :
    OpS P ge st ⟨d, .call { callee := .builtin .append, args := #[x, y], argTypes := ts }, t, p, af, g⟩ (.ref b (gg + 1) 0 (xs.length + es.length)) (st.h.set b (.row e (gg + 1) fzn fo (xs ++ es))) := by
  intro G a w hr
  have hvx := hr.ev x
  rw [hx] at hvx
  obtain ⟨z, _, hz1, hz2, _, hz3⟩ := run_zeroValue hz
  rw [hsz] at hl
  obtain ⟨inf, hi, hisz, hby⟩ := info_of hsz h0
  obtain ⟨h00, hfx, ⟨hsz0, hszT⟩, hrow⟩ := hr.rh.bl b _ hb'
  have hszb : G.sz b = zs.length := by rw [hszT, hsz]
  have hbn : b < G.n := by have := (List.getElem?_eq_some_iff.1 hb').1; rw [hr.rh.n] at this; exact this
  have hcz : ∀ {b1 : Bool} {v : V} {u : Value}, R G w b1 v u → (fo = true → b1 = true) → R G w fo v u := fun {b1 v u} h hb => by
    cases fo with
    | true => have := hb rfl; subst this; exact h
    | false =>
      cases b1 with
      | true => exact h.weak rfl
      | false => exact h
  by_cases hne : es = []
  · -- nothing is appended
    subst hne
    obtain ⟨sa, scap, hcy, _⟩ := src_spec hr.rh hy (hr.ev y) hl
    have hself : ∀ (k : Option Nat) (cp : Nat), G.m b gg = k → G.cap b gg = cp → RB P (G.bump b k cp) w b (.row e (gg + 1) fzn fo (xs ++ [])) := fun k cp hk hcp => by
      rw [List.append_nil]
      have le : GLe G w (G.bump b k cp) w := GLe.bump fun _ _ _ => rfl
      refine ⟨by simp [Gh.bump, h00], hfx, ⟨hsz0, hszT⟩, ?_⟩
      rcases hrow with ⟨hn, hnil⟩ | ⟨k', arr, hm', hh, hfzk, hs, hl', hcm, hlen', hcells⟩
      · exact .inl ⟨by simp [Gh.bump, h00, ← hk, hn], hnil⟩
      · refine .inr ⟨k', arr, by simp [Gh.bump, h00, ← hk, hm'], hh, hfzk, by simp [Gh.bump, h00, ← hcp, hs], by simp [Gh.bump, h00, ← hcp, hl'], by simp [Gh.bump, h00, ← hcp, hcm], hlen', fun i x j v hx hv => ⟨(hcells i x j v hx hv).1, ?_⟩⟩
        exact (hcz (hcells i x j v hx hv).2 fun h => (hfo h).1).mono le
    have hbump := RH_bump (w' := w) (y := .row e (gg + 1) fzn fo (xs ++ [])) (k := G.m b gg) (cap := G.cap b gg) hr.rh hb' (Nat.le_refl _) (fun _ _ _ => rfl) rfl ⟨rfl, rfl⟩ (fun _ _ _ => rfl) (hself _ _ rfl rfl) (fun k2 h2 => by
      simp only [Gh.at, Gh.bump, h00] at h2 ⊢; simp at h2; exact .inl h2)
    refine ⟨a.eval x, G.bump b (G.m b gg) (G.cap b gg), w, .inl ?_, hbump.1, ?_, hbump.2⟩
    · rw [run_append_call, hcy, hts, List.length_nil]
      generalize hcx : a.eval x = cx at *
      generalize hnl : xs.length = nl at hvx
      cases hvx with
      | ref _ _ _ hle => rw [run_append_zero hu hi _ _ _ (by omega) sa scap w]; rfl
      | refn => rw [run_append_zero hu hi none 0 0 (Nat.le_refl _) sa scap w]; rfl
    · rw [List.length_nil, Nat.add_zero]
      generalize hcx : a.eval x = cx at *
      generalize hnl : xs.length = nl at *
      cases hvx with
      | @ref _ _ _ _ k hbn' hg hm hle =>
        have := R.ref (G := G.bump b (G.m b gg) (G.cap b gg)) (w := w) (b := b) (g := gg + 1) (off := 0) (len := nl) (k := k) hbn (by simp [Gh.bump, h00]) (by simp [Gh.bump, h00, hm]) (by simp [Gh.bump, h00]; omega)
        simpa [Gh.bump, h00] using this
      | refn hbn' hg hm => exact .refn (G := G.bump b (G.m b gg) (G.cap b gg)) hbn (by simp [Gh.bump, h00]) (by simp [Gh.bump, h00, hm])
  · obtain ⟨ad, scap, hcy, news, hnl, hnews, hone, hrel⟩ := src_news hr.rh hy (hr.ev y) hl hne
    have hpos : 0 < es.length := List.length_pos_iff.2 hne
    have h63 : xs.length + es.length ≤ maxLen := by
      have : (xs.length + es.length) * 1 ≤ (xs.length + es.length) * bytesOf P e := Nat.mul_le_mul_left _ hb0
      unfold maxLen; omega
    -- the old cells
    obtain ⟨olds, hol, hvx', hold, hxl⟩ : ∃ olds : List Value, olds.length = xs.length * zs.length ∧
        ((a.eval x = .slice none 0 0 ∧ xs.length = 0 ∧ G.m b gg = none) ∨ ∃ k cap cur, a.eval x = .slice (some ⟨k, 0, none⟩) xs.length cap ∧ w.heap[k]? = some (.cells cur e (0, 0)) ∧ xs.length ≤ cap ∧ cap ≤ maxLen ∧ cur.size = cap * zs.length ∧ cur.toList.take (xs.length * zs.length) = olds ∧
          G.m b gg = some k ∧ cap = G.cap b gg ∧ G.fz k ≤ fzn * zs.length) ∧
        (∀ (i : Nat) (x : List V) (j : Nat) (v : V), xs[i]? = some x → x[j]? = some v → ∃ u, olds[i * zs.length + j]? = some u ∧ u.oneCell' = true ∧ R G w flat v u) ∧ ∀ (i : Nat) (x : List V), xs[i]? = some x → x.length = zs.length := by
      generalize hcx : a.eval x = cx at *
      rcases hrow with ⟨hn, rfl⟩ | ⟨k', arr, hm', hh, hfzk, hs, hl', hcm, hlen', hcells⟩
      · refine ⟨[], by simp, .inl ⟨?_, rfl, hn⟩, fun i x j v h => by simp at h, fun i x h => by simp at h⟩
        simp only [List.length_nil] at hvx
        cases hvx with
        | ref hb hg hm hle => rw [hm] at hn; cases hn
        | refn => rfl
      · refine ⟨arr.toList.take (xs.length * zs.length), ?_, .inr ⟨k', G.cap b gg, arr, ?_, hh, hl', hcm, by rw [hs, hszb], rfl, hm', rfl, by rw [← hszb]; exact hfzk⟩, fun i x j v hx hv => ?_, by rw [← hszb]; exact hlen'⟩
        · have : xs.length * zs.length ≤ G.cap b gg * zs.length := Nat.mul_le_mul_right _ hl'
          have hal : arr.toList.length = arr.size := Array.length_toList
          rw [List.length_take, hal, hs, hszb]; exact Nat.min_eq_left this
        · generalize hnl : xs.length = nl at hvx
          cases hvx with
          | ref hb hg hm hle => rw [hm] at hm'; cases hm'; subst hnl; simp
          | refn hb hg hm => rw [hm] at hm'; cases hm'
        · have h1 := hcells i x j v hx hv
          rw [hszb] at h1
          have hj : i * zs.length + j < xs.length * zs.length := by
            have h2 : i < xs.length := (List.getElem?_eq_some_iff.1 hx).1
            have h3 : (i + 1) * zs.length ≤ xs.length * zs.length := Nat.mul_le_mul_right _ h2
            have h4 : j < zs.length := by rw [← hszb, ← hlen' _ x hx]; exact (List.getElem?_eq_some_iff.1 hv).1
            rw [Nat.add_mul] at h3; omega
          have hj2 : i * zs.length + j < arr.size := by
            have : xs.length * zs.length ≤ G.cap b gg * zs.length := Nat.mul_le_mul_right _ hl'
            rw [hs, hszb]; omega
          refine ⟨arr.getD (i * zs.length + j) undef, ?_, h1.1, h1.2⟩
          rw [List.getElem?_take, if_pos hj, toList_getD, List.getElem?_eq_getElem (by simpa using hj2)]
          rfl
    obtain ⟨v', w', hrun, hcase⟩ := run_append2 (w := w) (ty := t) hu hsz h0 hz1 hz2 hol (v := a.eval x) (n := xs.length) (by
      rcases hvx' with ⟨h1, h2, _⟩ | ⟨k, cap, cur, h1, h2, h3, h4, h5, h6, _⟩
      · exact .inl ⟨h1, h2⟩
      · exact .inr ⟨k, cap, cur, h1, h2, h3, h4, h5, h6⟩) ad es.length scap news hpos hnl hnews hone h63 hb
    rcases hcase with ⟨cap', arr, rfl, rfl, has, hle, hcm, htake⟩ | ⟨k, cap, cur, new, hv1, rfl, hk, hcm, hle, hcs, rfl, hns, htake, hkeep⟩
    · -- a new array
      have hrow2 := RowR_append (fo := fo) hxl hl hol htake hold hrel hfo
      have hcell : ∀ k o, o < G.fz k → (w.drew.alloc (.cells arr e)).cell? ⟨k, o, none⟩ = w.cell? ⟨k, o, none⟩ := fun k o ho => ((WGrow.drew w).trans (.alloc _ _)).cell (fz_lt hr.rh ho)
      have le : GLe G w (G.bump b (some w.heap.size) cap') (w.drew.alloc (.cells arr e)) := GLe.bump hcell
      have hbump := RH_bump (w' := w.drew.alloc (.cells arr e)) (y := .row e (gg + 1) fzn fo (xs ++ es)) (k := some w.heap.size) (cap := cap') hr.rh hb' (by simp) (fun k' hk' _ => ((WGrow.drew w).trans (.alloc _ _)).old k' hk') rfl ⟨rfl, rfl⟩ hcell
        ⟨by simp [Gh.bump, h00], by rw [List.length_append]; omega, ⟨hsz0, hszT⟩, .inr ⟨w.heap.size, arr, by simp [Gh.bump, h00], heap_alloc_new w.drew _, by simp [Gh.bump, hr.rh.fzlt], by simp [Gh.bump, h00, has, hszb], by simp [Gh.bump, h00]; omega, by simp [Gh.bump, h00, hcm], by
          show ∀ (i : Nat) (x : List V), (xs ++ es)[i]? = some x → x.length = G.sz b
          rw [hszb]; exact hrow2.1, by
          intro i x j v hx hv
          show (arr.getD (i * G.sz b + j) undef).oneCell' = true ∧ R (G.bump b (some w.heap.size) cap') (w.drew.alloc (.cells arr e)) fo v (arr.getD (i * G.sz b + j) undef)
          rw [hszb]
          exact ⟨(hrow2.2 i x j v hx hv).1, (hrow2.2 i x j v hx hv).2.mono le⟩⟩⟩ (fun k2 h2 => by
          simp only [Gh.at, Gh.bump, h00] at h2; simp at h2; exact .inr (by omega))
      refine ⟨.slice (some ⟨w.heap.size, 0, none⟩) (xs.length + es.length) cap', _, _, .inl ?_, hbump.1, ?_, hbump.2⟩
      · rw [run_append_call, hcy, hts, hrun]; rfl
      · have := R.ref (G := G.bump b (some w.heap.size) cap') (w := w.drew.alloc (.cells arr e)) (b := b) (g := gg + 1) (off := 0) (len := xs.length + es.length) (k := w.heap.size) hbn (by simp [Gh.bump, h00]) (by simp [Gh.bump, h00]) (by simp [Gh.bump, h00]; omega)
        simpa [Gh.bump, h00] using this
    · -- there was room
      rcases hvx' with ⟨h1, _⟩ | ⟨k2, cap2, cur2, h1, h2, h3, h4, h5, h6, hm', hcapeq, hfzk⟩
      · rw [h1] at hv1; cases hv1
      rw [h1] at hv1
      simp only [Value.slice.injEq, Option.some.injEq, Addr.mk.injEq] at hv1
      obtain ⟨⟨rfl, _⟩, _, rfl⟩ := hv1
      rw [h2] at hk; cases hk
      have hrow2 := RowR_append (fo := fo) hxl hl hol htake hold hrel hfo
      have hfz' : G.fz k2 ≤ xs.length * zs.length := Nat.le_trans hfzk (Nat.mul_le_mul_right _ hfx)
      have hcell : ∀ k o, o < G.fz k → (w.setRow k2 new).cell? ⟨k, o, none⟩ = w.cell? ⟨k, o, none⟩ := fun k o ho => by
        by_cases hkk : k = k2
        · subst hkk
          rw [cell_setRow_same w k o cur new e _ h2, cell_of_row w k o cur e _ h2]
          exact hkeep o (by omega)
        · exact cell_eq (setRow_other w k2 k new hkk)
      have le : GLe G w (G.bump b (some k2) cap2) (w.setRow k2 new) := GLe.bump hcell
      have hbump := RH_bump (w' := w.setRow k2 new) (y := .row e (gg + 1) fzn fo (xs ++ es)) (k := some k2) (cap := cap2) hr.rh hb' (by simp) (fun k' hk' hne' => setRow_other w k2 k' new fun e' => hne' (by subst e'; simp only [Gh.at]; exact hm')) rfl ⟨rfl, rfl⟩ hcell
        ⟨by simp [Gh.bump, h00], by rw [List.length_append]; omega, ⟨hsz0, hszT⟩, .inr ⟨k2, new, by simp [Gh.bump, h00], setRow_heap w k2 cur new e _ h2, by show G.fz k2 ≤ fzn * G.sz b; rw [hszb]; exact hfzk, by simp [Gh.bump, h00, hns, hcs, hszb], by simp [Gh.bump, h00]; omega, by simp [Gh.bump, h00, hcm], by
          show ∀ (i : Nat) (x : List V), (xs ++ es)[i]? = some x → x.length = G.sz b
          rw [hszb]; exact hrow2.1, by
          intro i x j v hx hv
          show (new.getD (i * G.sz b + j) undef).oneCell' = true ∧ R (G.bump b (some k2) cap2) (w.setRow k2 new) fo v (new.getD (i * G.sz b + j) undef)
          rw [hszb]
          exact ⟨(hrow2.2 i x j v hx hv).1, (hrow2.2 i x j v hx hv).2.mono le⟩⟩⟩ (fun k3 h3 => by
          simp only [Gh.at, Gh.bump, h00] at h3 ⊢; simp at h3; subst h3; exact .inl hm')
      refine ⟨.slice (some ⟨k2, 0, none⟩) (xs.length + es.length) cap2, _, _, .inl ?_, hbump.1, ?_, hbump.2⟩
      · rw [run_append_call, hcy, hts, hrun]; rfl
      · have := R.ref (G := G.bump b (some k2) cap2) (w := w.setRow k2 new) (b := b) (g := gg + 1) (off := 0) (len := xs.length + es.length) (k := k2) hbn (by simp [Gh.bump, h00]) (by simp [Gh.bump, h00]) (by simp [Gh.bump, h00]; omega)
        simpa [Gh.bump, h00] using this
end
end Go.AM
end
