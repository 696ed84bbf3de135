/-
  YtgmlimipejcpgaaDoorLo05: steps of the proof of a law of the program: what these texts prove holds under the hypotheses that their theorems name, and no others.
-/
import Derived.Test.YtgmlimipejcpgaaDoorLo04
section
set_option linter.unusedSimpArgs false
set_option linter.unusedVariables false
namespace Go.Proofs.YtgmlimipejcpgaaDoor
open Go Go.AM Fx
def reps (n k : Nat) (x : Int) : List Int := List.replicate k x ++ List.replicate (n - k) 0
theorem reps_len {n k : Nat} {x : Int} (h : k ≤ n) : (ivs (reps n k x)).length = n := by simp [ivs, reps]; omega
theorem reps_cp {n k m : Nat} {x : Int} (h : k + m ≤ n) : (ivs (reps n k x)).take k ++ ivs (List.replicate m x) ++ (ivs (reps n k x)).drop (k + m) = ivs (reps n (k + m) x) := by
  have : (reps n k x).take k ++ List.replicate m x ++ (reps n k x).drop (k + m) = reps n (k + m) x := by
    have e1 : (reps n k x).take k = List.replicate k x := by simp [reps]
    have e2 : (reps n k x).drop (k + m) = List.replicate (n - (k + m)) 0 := by
      rw [reps, ← List.drop_drop, List.drop_left' (by simp)]; simp; omega
    rw [e1, e2, List.replicate_append_replicate]; rfl
  rw [← this]; simp [ivs]
theorem reps_src {n k m : Nat} {x : Int} (h : m ≤ k) : ((ivs (reps n k x)).drop 0).take m = ivs (List.replicate m x) := by
  have : (reps n k x).take m = List.replicate m x := by
    rw [reps, List.take_append_of_le_length (by simpa using h)]; simp; omega
  rw [List.drop_zero, ← this]; simp [ivs]
set_option maxHeartbeats 4000000 in
theorem c_repeat {h : List B} (hl : HL h) {b g f : Nat} {x : Int} (hb : h[b]? = some (.row 3 g f true (ivs [x]))) (n : Nat) (hn : n ≤ 1048576) :
    GCall Tryd.prog GV 110 [.ref b g 0 1, .int .i64 n] h (fun v h' => v = .ref h.length 0 0 n ∧ h' = h ++ [.row 3 0 0 true (ivs (List.replicate n x))]) := by
  have hbl := (List.getElem?_eq_some_iff.1 hb).1
  have hc := c_bitsMul 1 n (by omega) (by omega) (by omega) (by omega)
  have e1 : (1 : Int) * n / 18446744073709551616 = 0 := by omega
  have e2 : (1 : Int) * n % 18446744073709551616 = n := by omega
  have w1 : IntKind.u64.wrap n = n := by rw [wrap_u64]; omega
  have w2 : IntKind.i64.wrap n = n := wI (by omega) (by omega)
  have k1 : ¬ (n : Int) < 0 := by omega
  have k2 : ¬ (9223372036854775807 : Int) < n := by omega
  have k3 : (n : Int) * 8 ≤ 281474976710656 := by omega
  rw [e1, e2] at hc
  have g0 := fun (x : List B) => ga0 (h := h) (x := x) rfl
  have gb := fun (x : List B) => (get_app (x := x) hbl).trans hb
  have hz : List.replicate n [V.int .i64 0] = ivs (reps n 0 x) := by simp [ivs, reps]
  have hL : ∀ k, HL (h ++ [B.row 3 0 0 true (ivs (reps n k x))]) := fun k => hl.app fun y hy => by rw [List.mem_singleton.1 hy]; exact rowF_lt
  refine gB1 Tryd.func110 rfl (by decide) Tryd.ntmps110 (by simp) Tryd.results110 ?_
  have hm1 : Nat.min 1 n ≤ n := Nat.min_le_right _ _
  have hm2 : Nat.min 1 n = 0 → n = 0 := fun h => by
    rcases Nat.eq_zero_or_pos n with h0 | h0
    · exact h0
    · have : Nat.min 1 n = 1 := Nat.min_eq_left h0
      omega
  have hm3 : Nat.min 1 n ≤ 1 := Nat.min_le_left _ _
  have hcp : (ivs (reps n 0 x)).take 0 ++ ivs (List.replicate (Nat.min 1 n) x) ++ (ivs (reps n 0 x)).drop (0 + Nat.min 1 n) = ivs (reps n (Nat.min 1 n) x) := by
    have := reps_cp (n := n) (k := 0) (m := Nat.min 1 n) (x := x) (by omega)
    rw [Nat.zero_add] at this ⊢; exact this
  generalize hm : Nat.min 1 n = m at *
  have hs1 : List.take m (List.drop 0 (ivs [x])) = ivs (List.replicate m x) := by
    rcases Nat.lt_or_ge m 1 with h | h
    · obtain rfl : m = 0 := by omega
      rfl
    · obtain rfl : m = 1 := by omega
      rfl
  repeat' (first
 |refine aK fun K hK=>?_|refine Step.by1 ?_|refine sE (by decide) ?_|refine cz rfl ?_|refine Fork.by2 (fun h=>?_) fun h=>?_
 |((first|refine aR ?_|refine aC (f:=128) rfl rfl (hc) rfl rfl rfl ?_);simp [w1, w2, k1, k2, k3, hb, gb, g0, hz])
 |(refine Split.by2 (fun h=>?_) (fun h=>?_)<;>(simp [h, w1, w2, k1, k2, k3, hb, gb, g0, hz]))
 |(refine AS_op1 rfl (S_copy1 (T := 30) (T2 := 30) (e := 3) (T0 := 3) (b := h.length) (g := 0) (off := 0) (len := n) (m := m) (xs := ivs (reps n 0 x)) (zs := ivs (List.replicate m x)) rfl (by simp) (info_sz (by simp)) rfl (by simp [g0]) (by rw [reps_len (Nat.zero_le _)]; omega) (by simp) (by simp [ivs]) hm1 (by rw [← hs1]; exact src_own (b := b) rfl (by rw [gb]) (by simp [ivs]) (by simp [ivs]) (by simp) hm)) ?_; rw [hcp]; simp [hm])
 |(apply hK;clear hK K)|refine AWh ‹_› ?_)
  clear hcp hs1 hm hm3
  generalize m = m0 at *
  refine aL [7] (fun k : Nat => [(8, .int .i64 k)]) (fun k => h ++ [B.row 3 0 0 true (ivs (reps n k x))]) (fun k => k ≤ n ∧ (k = 0 → n = 0)) (fun k => n - k) m0 ⟨hm1, hm2⟩ (Weak.sym (x := []) (by simp) (hL m0) (by simp)) (fun _ _ => by simp) ?_
  rintro k ⟨hk, hk0⟩
  have hrl := reps_len (x := x) hk
  by_cases hlt : k < n
  · have hlt' : (k : Int) < n := by omega
    obtain ⟨m, hm⟩ : ∃ m, Nat.min k (n - k) = m := ⟨_, rfl⟩
    have q1 : m ≤ k := by rw [← hm]; exact Nat.min_le_left _ _
    have q2 : m ≤ n - k := by rw [← hm]; exact Nat.min_le_right _ _
    have q3 : 0 < m := by rw [← hm]; exact Nat.lt_min.2 ⟨by omega, by omega⟩
    have w3 : IntKind.i64.wrap ((k : Int) + m) = k + m := wI (by omega) (by omega)
    repeat' (first
 |refine aK fun K hK=>?_|refine Step.by1 ?_|refine sE (by decide) ?_|refine cz rfl ?_|refine Fork.by2 (fun h=>?_) fun h=>?_
 |(refine aR ?_;simp [hlt, hlt', g0])
 |(refine Split.by2 (fun h=>?_) (fun h=>?_)<;>(simp [h, hlt, hlt', g0]))
 |(apply hK;clear hK K)|refine AWh ‹_› ?_)
    refine AW_region_chain 9 10 [0, 1, 2, 3, 4, 5, 6] (fun H => ∃ zs, H[h.length]? = some (B.row 3 0 0 true zs) ∧ zs.length = n) mixed (by decide) (by decide) rfl ⟨_, g0 _, hrl⟩ ?_
    simp only [List.take_succ_cons, List.take_zero]
    refine PX_op rfl rfl rfl rfl (fun h hs => ⟨trivial, rfl⟩) ?_
    refine PX_op rfl rfl rfl rfl (fun h hs => ⟨trivial, rfl⟩) ?_
    refine PX_op rfl rfl rfl rfl (fun h hs => ⟨trivial, rfl⟩) ?_
    refine PX_op (v := .ref h.length 0 k (n - k)) rfl rfl rfl rfl (fun h hs => by obtain ⟨zs, z1, z2⟩ := hs; simp [z1, z2]; omega) ?_
    refine PX_op rfl rfl rfl rfl (fun h hs => ⟨trivial, rfl⟩) ?_
    refine PX_op rfl rfl rfl rfl (fun h hs => ⟨trivial, rfl⟩) ?_
    refine PX_op (v := .ref h.length 0 0 k) rfl rfl rfl rfl (fun h hs => by obtain ⟨zs, z1, z2⟩ := hs; simp [z1, z2]; omega) ?_
    refine PX_skip rfl ?_
    refine PX_skip rfl ?_
    refine PX_nil ?_
    simp
    refine Ch_1 7 (by decide) (by decide) ?_
    refine ChS_gen (v := .int .i64 m) (h' := h ++ [B.row 3 0 0 true (ivs (reps n (k + m) x))]) rfl rfl rfl ?_ ⟨_, g0 _, reps_len (by omega)⟩ ?_
    · intro S hn hh he
      have hset : S.h.set h.length (.row 3 0 0 true ((ivs (reps n k x)).take k ++ ivs (List.replicate m x) ++ (ivs (reps n k x)).drop (k + m))) = h ++ [B.row 3 0 0 true (ivs (reps n (k + m) x))] := by
        rw [reps_cp (by omega), hh]; simp
      rw [← hset]
      exact S_copy1 (T := 30) (T2 := 30) (e := 3) (T0 := 3) (x := .tmp 41) (y := .tmp 44) (b := h.length) (g := 0) (off := k) (len := n - k) (m := m) (xs := ivs (reps n k x)) (zs := ivs (List.replicate m x)) rfl (by simp) (info_sz (by simp)) (by rw [he _ (by simp [Op.operands, Call.operands])]; rfl) (by rw [hh]; simp [g0]) (by rw [hrl]; omega) (by simp) (by simp [ivs]) q2 (by rw [← reps_src (n := n) q1]; exact src_own (b := h.length) (by rw [he _ (by simp [Op.operands, Call.operands])]; rfl) (by rw [hh, g0]; rfl) (by rw [hrl]; omega) (by rw [hrl]; omega) (by simp) hm)
    simp
    refine Ch_1 8 (by decide) (by decide) ?_
    refine cS1 rfl rfl rfl rfl (by simp) ⟨_, g0 _, reps_len (by omega)⟩ ?_
    simp [w3]
    refine Ch_end (by decide) ?_
    refine AS_of_AO ?_
    simp
    repeat' (first
 |refine aK fun K hK=>?_|refine Step.by1 ?_|refine sE (by decide) ?_|refine cz rfl ?_|refine Fork.by2 (fun h=>?_) fun h=>?_
 |(refine aR ?_;simp [w3])
 |(refine Split.by2 (fun h=>?_) (fun h=>?_)<;>(simp [h, w3]))
 |(apply hK;clear hK K)|refine AWh ‹_› ?_)
    exact ⟨k + m, ⟨by omega, by omega⟩, by omega, Weak.sym (x := []) (by simp) (hL (k + m)) (by simp)⟩
  · obtain rfl : k = n := by omega
    repeat' (first
 |refine aK fun K hK=>?_|refine Step.by1 ?_|refine sE (by decide) ?_|refine cz rfl ?_|refine Fork.by2 (fun h=>?_) fun h=>?_
 |(refine aR ?_;simp [hlt, g0, hrl])
 |(refine Split.by2 (fun h=>?_) (fun h=>?_)<;>(simp [h, hlt, g0, hrl]))
 |(apply hK;clear hK K)|refine AWh ‹_› ?_)
    exact retg1 ⟨rfl, by simp [reps]⟩ (by simp) (Go.AM.Leaves.sym (by simp) (hL k))
end Go.Proofs.YtgmlimipejcpgaaDoor
end
section
set_option linter.unusedVariables false
set_option linter.unusedSimpArgs false
namespace Go.Proofs.YtgmlimipejcpgaaDoor
open Go Go.AM Fx
theorem MR.appx {α : Type} {T0 T : TypeId} {en : List α → List (List V)} {h hc x : List B} {mr gm N : Nat} {fl : Bool} {ids : List (Nat × Nat)} {m : List (List α)} (p : MR T0 T en h mr gm fl ids N m hc) (hx : HL (hc ++ x)) : MR T0 T en (hc ++ x) mr gm fl ids N m (hc ++ x) :=
  ⟨p.ne, rfl, hx, by rw [get_app (List.getElem?_eq_some_iff.1 p.mr).1]; exact p.mr, p.ml, fun i y hy => by
    obtain ⟨r, h1, h2, h3⟩ := p.rows i y hy
    exact ⟨r, h1, h2, by rw [get_app (List.getElem?_eq_some_iff.1 h3).1]; exact h3⟩, p.inj, fun _ _ => rfl⟩
theorem MR.baseI {h hc : List B} {mr gm N : Nat} {fl : Bool} {ids : List (Nat × Nat)} {m : List (List Int)} (p : MR 30 3 ivs h mr gm fl ids N m hc) : MR 30 3 ivs hc mr gm fl ids N m hc := ⟨p.ne, rfl, p.hl, p.mr, p.ml, p.rows, p.inj, fun _ _ => rfl⟩
theorem MR.overI {h hc h' : List B} {mr gm N : Nat} {fl : Bool} {ids : List (Nat × Nat)} {m m' : List (List Int)} (p : MR 30 3 ivs h mr gm fl ids N m hc) (q : MR 30 3 ivs hc mr gm fl ids N m' h') : MR 30 3 ivs h mr gm fl ids N m' h' :=
  ⟨q.ne, q.len.trans p.len, q.hl, q.mr, q.ml, q.rows, q.inj, fun b hb => (q.rest b hb).trans (p.rest b hb)⟩
theorem N2.toMR {o b g N : Nat} {h : List B} {fl : Bool} {ids : List (Nat × Nat × Nat)} {P : List (List Int)} (p : N2 o h b g fl ids P) (hl : HL h) (hN : ∀ x ∈ ids, x.2.2 = N) : MR 30 3 ivs h b g fl (ids.map fun x => (x.1, x.2.1)) N P h := by
  refine ⟨by decide, rfl, hl, ?_, by simp [p.len], fun i x hx => ?_, fun i j x y hx hy e => ?_, fun _ _ => rfl⟩
  · rw [p.at0, mrefs, List.map_map]
    congr 2
    refine List.map_congr_left fun x hx => ?_
    simp [rv, hN x hx]
  · rw [List.getElem?_map] at hx
    cases h1 : ids[i]? with
    | none => rw [h1] at hx; cases hx
    | some z =>
      rw [h1] at hx; cases hx
      obtain ⟨ns, q1, q2, q3⟩ := p.rows i z h1
      exact ⟨ns, q1, by rw [q2]; exact hN z (List.mem_of_getElem? h1), q3⟩
  · have hi : i < ids.length := by have := (List.getElem?_eq_some_iff.1 hx).1; simpa using this
    have hj : j < ids.length := by have := (List.getElem?_eq_some_iff.1 hy).1; simpa using this
    have q := p.nodup
    rw [List.getElem?_map] at hx hy
    rw [List.getElem?_eq_getElem hi] at hx
    rw [List.getElem?_eq_getElem hj] at hy
    cases hx; cases hy
    rw [List.Nodup, List.pairwise_iff_getElem] at q
    rcases Nat.lt_trichotomy i j with h | h | h
    · exact absurd (by rw [List.getElem_map, List.getElem_map]; exact e) (q i j (by simpa using hi) (by simpa using hj) h)
    · exact h
    · exact absurd (by rw [List.getElem_map, List.getElem_map]; exact e.symm) (q j i (by simpa using hj) (by simpa using hi) h)
theorem MR.toN2 {o b g N : Nat} {h hc : List B} {fl : Bool} {ids : List (Nat × Nat)} {P : List (List Int)} (p : MR 30 3 ivs h b g fl ids N P hc) (hf : fl = true → ids = []) (ho : o ≤ b ∧ ∀ x ∈ ids, o ≤ x.1) : N2 o hc b g fl (ids.map fun x => (x.1, x.2, N)) P := by
  refine ⟨?_, fun h => by rw [hf h]; rfl, by simp [p.ml], fun j x hx => ?_, ⟨ho.1, fun x hx => ?_⟩, ?_⟩
  · rw [p.mr, mrefs, List.map_map]; rfl
  · rw [List.getElem?_map] at hx
    cases h1 : ids[j]? with
    | none => rw [h1] at hx; cases hx
    | some z =>
      rw [h1] at hx; cases hx
      obtain ⟨r, q1, q2, q3⟩ := p.rows j z h1
      exact ⟨r, q1, q2, q3⟩
  · obtain ⟨y, hy, rfl⟩ := List.mem_map.1 hx
    exact ho.2 y hy
  · rw [List.map_map, List.Nodup, List.pairwise_iff_getElem]
    intro i j hi hj hij e
    have hi' : i < ids.length := by simpa using hi
    have hj' : j < ids.length := by simpa using hj
    have := p.inj i j _ _ (List.getElem?_eq_getElem hi') (List.getElem?_eq_getElem hj') (by simpa using e)
    omega
def gsG (gs : List (List PartD)) : List GuardD := gs.flatMap fun g => g.flatMap (·.guards)
def raiseGs (so : Int → Bool) (gs : List (List PartD)) (o : List Int) : List Int := raiseL so (gsG gs) o
theorem raiseGs_nil {so : Int → Bool} {o : List Int} : raiseGs so [] o = o := rfl
theorem raiseGs_cons {so : Int → Bool} {g : List PartD} {gs : List (List PartD)} {o : List Int} : raiseGs so (g :: gs) o = raiseGs so gs (raisePs so g o) := by simp only [raiseGs, raisePs, gsG, List.flatMap_cons, raiseL_append]
theorem raiseGs_len {so : Int → Bool} {gs : List (List PartD)} {o : List Int} : (raiseGs so gs o).length = o.length := raiseL_len
def fromG (es : List EdgeD) (i : Nat) : List GuardD := (es.filter fun e => decide (e.frm = (i : Int))).flatMap (·.guards)
theorem fromG_snoc {es : List EdgeD} {e : EdgeD} {i : Nat} : fromG (es ++ [e]) i = fromG es i ++ (if e.frm = (i : Int) then e.guards else []) := by
  unfold fromG
  rw [List.filter_append, List.flatMap_append]
  by_cases h : e.frm = (i : Int)
  · rw [if_pos h]; simp [h]
  · rw [if_neg h]; simp [h]
def invAt (a : AutoD) (i : Nat) : List GuardD := ((a.locs[i]?).map (·.inv)).getD []
def row1 (a : AutoD) (N : Nat) (so : Int → Bool) (gs : List (List PartD)) (i : Nat) : List Int := raiseGs so gs (raiseL so (invAt a i) (List.replicate N (-1)))
def luBase (a : AutoD) (N : Nat) (so : Int → Bool) (gs : List (List PartD)) (i : Nat) : List Int := raiseL so (fromG a.edges i) (row1 a N so gs i)
def luB (a : AutoD) (N : Nat) (so : Int → Bool) (gs : List (List PartD)) (i c : Nat) : Int := (luBase a N so gs i).getD c 0
theorem row1_len {a : AutoD} {N : Nat} {so : Int → Bool} {gs : List (List PartD)} {i : Nat} : (row1 a N so gs i).length = N := by simp [row1, raiseGs_len, raiseL_len]
theorem luBase_len {a : AutoD} {N : Nat} {so : Int → Bool} {gs : List (List PartD)} {i : Nat} : (luBase a N so gs i).length = N := by rw [luBase, raiseL_len, row1_len]
/-- Behind k places: their rows are raised by invariants and goals. -/
structure L2 (a : AutoD) (N : Nat) (so : Int → Bool) (gs : List (List PartD)) (k : Nat) (m : List (List Int)) : Prop where
  len : m.length = a.locs.length
  row : ∀ i, i < a.locs.length → m[i]? = some (if i < k then row1 a N so gs i else List.replicate N (-1))
/-- Behind k edges. -/
structure L3 (a : AutoD) (N : Nat) (so : Int → Bool) (gs : List (List PartD)) (k : Nat) (m : List (List Int)) : Prop where
  len : m.length = a.locs.length
  row : ∀ i, i < a.locs.length → m[i]? = some (raiseL so (fromG (a.edges.take k) i) (row1 a N so gs i))
section
variable {a : AutoD} {N k : Nat} {so : Int → Bool} {gs : List (List PartD)} {m : List (List Int)}
theorem L2.init : L2 a N so gs 0 (List.replicate a.locs.length (List.replicate N (-1))) := ⟨by simp, fun i hi => by rw [if_neg (by omega)]; simp [hi]⟩
theorem L2.step (p : L2 a N so gs k m) (hk : k < a.locs.length) : L2 a N so gs (k + 1) (m.set k (row1 a N so gs k)) := by
  refine ⟨by rw [List.length_set]; exact p.len, fun i hi => ?_⟩
  rw [List.getElem?_set]
  by_cases e : k = i
  · subst e; rw [if_pos rfl, if_pos (by rw [p.len]; exact hi), if_pos (by omega)]
  · rw [if_neg e, p.row i hi]
    by_cases h : i < k
    · rw [if_pos h, if_pos (by omega)]
    · rw [if_neg h, if_neg (by omega)]
theorem L2.done (p : L2 a N so gs a.locs.length m) : L3 a N so gs 0 m := ⟨p.len, fun i hi => by rw [p.row i hi, if_pos hi]; rfl⟩
theorem L3.step (p : L3 a N so gs k m) {e : EdgeD} (he : a.edges[k]? = some e) {q : Nat} (hq : e.frm = (q : Int)) {r : List Int} (hr : m[q]? = some r) : L3 a N so gs (k + 1) (m.set q (raiseL so e.guards r)) := by
  refine ⟨by rw [List.length_set]; exact p.len, fun i hi => ?_⟩
  have ht : a.edges.take (k + 1) = a.edges.take k ++ [e] := by rw [List.take_add_one, he]; rfl
  rw [List.getElem?_set, ht, fromG_snoc]
  by_cases e2 : q = i
  · subst e2
    rw [if_pos rfl, if_pos (by rw [p.len]; exact hi), if_pos hq, raiseL_append]
    have := p.row q hi
    rw [hr] at this; cases this; rfl
  · rw [if_neg e2, if_neg (by omega), p.row i hi, List.append_nil]
theorem L3.ls (p : L3 a N so gs a.edges.length m) : LS a N (luB a N so gs) m := by
  have hrow : ∀ i r, m[i]? = some r → i < a.locs.length ∧ r = luBase a N so gs i := fun i r hr => by
    have hi : i < a.locs.length := by rw [← p.len]; exact (List.getElem?_eq_some_iff.1 hr).1
    have := p.row i hi
    rw [hr, List.take_length] at this
    cases this; exact ⟨hi, rfl⟩
  refine ⟨p.len, fun i r hr => ?_, fun i c v h => ?_, fun i c v h => ?_⟩
  · rw [(hrow i r hr).2]; exact luBase_len
  · obtain ⟨r, h1, h2⟩ := nget_some h
    obtain ⟨hi, rfl⟩ := hrow i r h1
    exact ⟨i, .refl hi, by simp [luB, List.getD, h2]⟩
  · obtain ⟨r, h1, h2⟩ := nget_some h
    obtain ⟨hi, rfl⟩ := hrow i r h1
    simp [luB, List.getD, h2]
end
end Go.Proofs.YtgmlimipejcpgaaDoor
end
